/- start's lines, plain: what is put, what is read, that the two fit. -/
import Derived.Test.YtjmaobipfpiddaaDoorPBase
import Derived.Test.YtjmaobipfpiddaaDoorPSplit
import Derived.Test.YtjmaobipfpiddaaDoorQstartRequest
import Derived.Test.YtjmaobipfpiddaaDoorFstartStatus
import Derived.Lib.ItoaLen
set_option linter.unusedVariables false
set_option linter.unusedSimpArgs false
namespace Go.Proofs.YtjmaobipfpiddaaDoor.P
open Go.RowKit Go.Proofs.YtjmaobipfpiddaaDoorW.PrintWords Go.Proofs.YtjmaobipfpiddaaDoorW.PrintLast Go.Proofs.YtjmaobipfpiddaaDoorW.PrintMore

abbrev U8s := List UInt8
def mkB (l : U8s) : ByteArray := ⟨l.toArray⟩
theorem mkB_data (s : ByteArray) : mkB s.data.toList = s := by cases s; rfl
theorem mkB_l (l : U8s) : (mkB l).data.toList = l := rfl
theorem mkB_size (l : U8s) : (mkB l).size = l.length := by simp [mkB, ByteArray.size]
theorem mkB_app (a b : U8s) : mkB a ++ mkB b = mkB (a ++ b) := by
  have : (mkB a ++ mkB b).data.toList = a ++ b := by rw [ByteArray.data_append]; simp [mkB]
  rw [← this, mkB_data]
theorem mkB_inj {a b : U8s} (h : mkB a = mkB b) : a = b := by rw [← mkB_l a, ← mkB_l b, h]
theorem mkB_toList (l : U8s) : (mkB l).toList = l := by rw [ByteArray.toList_eq, mkB_l]
def tokL (l : U8s) : Bool := !l.isEmpty && l.all fun b => tokI (b.toNat : Int)
def tgtL (l : U8s) : Bool := !l.isEmpty && !(l.any fun b => badI (b.toNat : Int))
def visL (l : U8s) : Bool := l.all fun b => shownI (b.toNat : Int)
theorem bytesOf_mk (l : U8s) : bytesOf (mkB l) = l.map fun b => ((b.toNat : Nat) : Int) := rfl
theorem tok_eq (l : U8s) (h : l.length ≤ 4611686018427387904) : text_Token.f (mkB l) = some (tokL l) := by
  unfold text_Token.f
  rw [if_pos (by rw [mkB_size]; omega), bytesOf_mk, List.all_map]; rfl
theorem tgt_eq (l : U8s) (h : l.length ≤ 4611686018427387904) : start_target.f (mkB l) = some (tgtL l) := by
  unfold start_target.f
  rw [if_pos (by rw [mkB_size]; omega), bytesOf_mk, List.any_map, mkB_toList]; rfl
theorem vis_eq (l : U8s) (h : l.length ≤ 4611686018427387904) : text_Visible.f (mkB l) = some (visL l) := by
  unfold text_Visible.f
  rw [if_pos (by rw [mkB_size]; omega), bytesOf_mk, List.all_map]; rfl
def ver : U8s := [72, 84, 84, 80, 47, 49, 46]
def I64 (n : Int) : Prop := -9223372036854775808 ≤ n ∧ n ≤ 9223372036854775807
theorem itoa_len (n : Int) (h : I64 n) : (Lib.itoa n).length ≤ 21 := Lib.itoa_length_le n h.1 h.2
theorem itoaS_eq (n : Int) (h : I64 n) : itoaS.f n = some (mkB (Lib.itoa n)) := by
  unfold itoaS.f; rw [if_pos ⟨h.1, h.2⟩]; rfl
theorem put_eq (n : Int) (h : I64 n) : start_put.f n = some (mkB (ver ++ Lib.itoa n)) := by
  unfold start_put.f
  have := itoa_len n h
  rw [itoaS_eq n h, Option.bind_some, if_pos (by rw [mkB_size]; omega)]
  exact congrArg some (mkB_app ver (Lib.itoa n))
def lineQ (m t : U8s) (n : Int) : U8s := m ++ 32 :: (t ++ 32 :: (ver ++ Lib.itoa n))
def okQ (m t : U8s) (n : Int) : Prop := tokL m = true ∧ m.length ≤ 32 ∧ tgtL t = true ∧ 0 ≤ n ∧ n ≤ 1 ∧ (lineQ m t n).length ≤ 512
instance (m t : U8s) (n : Int) : Decidable (okQ m t n) := by unfold okQ; infer_instance
def putQ (m t : U8s) (n : Int) : U8s × Int := if okQ m t n then (lineQ m t n, 0) else ([], 1)
theorem lineQ_mk (m t : U8s) (n : Int) : ((((mkB m ++ (⟨#[32]⟩ : ByteArray)) ++ mkB t) ++ (⟨#[32]⟩ : ByteArray)) ++ mkB (ver ++ Lib.itoa n)) = mkB (lineQ m t n) := by
  have e : (⟨#[32]⟩ : ByteArray) = mkB [32] := rfl
  rw [e, mkB_app, mkB_app, mkB_app, mkB_app]
  congr 1
  simp [lineQ]
theorem PutRequest_eq (m t : U8s) (n : Int) (hm : m.length ≤ 1073741824) (ht : t.length ≤ 1073741824) (hn : I64 n) : start_PutRequest.f (mkB m) (mkB t) n = some (mkB (putQ m t n).1, (putQ m t n).2) := by
  unfold start_PutRequest.f
  have h20 := itoa_len n hn
  have hz : ver.length = 7 := rfl
  have e1 : (⟨#[32]⟩ : ByteArray).size = 1 := rfl
  rw [if_pos (by rw [mkB_size]; omega), if_pos (by simp only [ByteArray.size_append, mkB_size, e1]; omega), if_pos (by simp only [ByteArray.size_append, mkB_size, e1]; omega), put_eq n hn, Option.bind_some,
    if_pos (by simp only [ByteArray.size_append, mkB_size, e1, List.length_append]; omega), tok_eq m (by omega), Option.bind_some, lineQ_mk, tgt_eq t (by omega), Option.bind_some, mkB_size, mkB_size]
  unfold putQ
  by_cases h1 : tokL m = true
  · rw [if_pos h1]
    by_cases h2 : m.length ≤ 32
    · rw [if_neg (by omega)]
      by_cases h3 : tgtL t = true
      · rw [if_pos h3]
        by_cases h4 : 0 ≤ n
        · rw [if_neg (by omega)]
          by_cases h5 : n ≤ 1
          · rw [if_neg (by omega)]
            by_cases h6 : (lineQ m t n).length ≤ 512
            · rw [if_neg (by omega), if_pos (show okQ m t n from ⟨h1, h2, h3, h4, h5, h6⟩)]
            · rw [if_pos (by omega), if_neg (fun e : okQ m t n => h6 e.2.2.2.2.2)]; rfl
          · rw [if_pos (by omega), if_neg (fun e : okQ m t n => h5 e.2.2.2.2.1)]; rfl
        · rw [if_pos (by omega), if_neg (fun e : okQ m t n => h4 e.2.2.2.1)]; rfl
      · rw [if_neg h3, if_neg (fun e : okQ m t n => h3 e.2.2.1)]; rfl
    · rw [if_pos (by omega), if_neg (fun e : okQ m t n => h2 e.2.1)]; rfl
  · rw [if_neg h1, if_neg (fun e : okQ m t n => h1 e.1)]; rfl
def lineS (n st : Int) (r : U8s) : U8s := (ver ++ Lib.itoa n) ++ 32 :: (Lib.itoa st ++ 32 :: r)
def okS (n st : Int) (r : U8s) : Prop := 0 ≤ n ∧ n ≤ 1 ∧ 100 ≤ st ∧ st ≤ 599 ∧ visL r = true ∧ (lineS n st r).length ≤ 512
instance (n st : Int) (r : U8s) : Decidable (okS n st r) := by unfold okS; infer_instance
def putS (n st : Int) (r : U8s) : U8s × Int := if okS n st r then (lineS n st r, 0) else ([], 1)
theorem lineS_mk (n st : Int) (r : U8s) : ((((mkB (ver ++ Lib.itoa n) ++ (⟨#[32]⟩ : ByteArray)) ++ mkB (Lib.itoa st)) ++ (⟨#[32]⟩ : ByteArray)) ++ mkB r) = mkB (lineS n st r) := by
  have e : (⟨#[32]⟩ : ByteArray) = mkB [32] := rfl
  rw [e, mkB_app, mkB_app, mkB_app, mkB_app]
  congr 1
  simp [lineS]
theorem PutStatus_eq (n st : Int) (r : U8s) (hr : r.length ≤ 1073741824) (hn : I64 n) (hs : I64 st) : start_PutStatus.f n st (mkB r) = some (mkB (putS n st r).1, (putS n st r).2) := by
  unfold start_PutStatus.f
  have h20 := itoa_len n hn
  have h21 := itoa_len st hs
  have hz : ver.length = 7 := rfl
  have e1 : (⟨#[32]⟩ : ByteArray).size = 1 := rfl
  rw [put_eq n hn, Option.bind_some, if_pos (by rw [mkB_size, List.length_append]; omega), itoaS_eq st hs, Option.bind_some, if_pos (by simp only [ByteArray.size_append, mkB_size, e1, List.length_append]; omega), if_pos (by simp only [ByteArray.size_append, mkB_size, e1, List.length_append]; omega),
    if_pos (by simp only [ByteArray.size_append, mkB_size, e1, List.length_append]; omega), lineS_mk, vis_eq r (by omega), Option.bind_some, mkB_size]
  unfold putS
  by_cases h1 : 0 ≤ n
  · rw [if_neg (by omega)]
    by_cases h2 : n ≤ 1
    · rw [if_neg (by omega)]
      by_cases h3 : 100 ≤ st
      · rw [if_neg (by omega)]
        by_cases h4 : st ≤ 599
        · rw [if_neg (by omega)]
          by_cases h5 : visL r = true
          · rw [if_pos h5]
            by_cases h6 : (lineS n st r).length ≤ 512
            · rw [if_neg (by omega), if_pos (show okS n st r from ⟨h1, h2, h3, h4, h5, h6⟩)]
            · rw [if_pos (by omega), if_neg (fun e : okS n st r => h6 e.2.2.2.2.2)]; rfl
          · rw [if_neg h5, if_neg (fun e : okS n st r => h5 e.2.2.2.2.1)]; rfl
        · rw [if_pos (by omega), if_neg (fun e : okS n st r => h4 e.2.2.2.1)]; rfl
      · rw [if_pos (by omega), if_neg (fun e : okS n st r => h3 e.2.2.1)]; rfl
    · rw [if_pos (by omega), if_neg (fun e : okS n st r => h2 e.2.1)]; rfl
  · rw [if_pos (by omega), if_neg (fun e : okS n st r => h1 e.1)]; rfl
def minorL (l : U8s) : Int := ((l.getLast?.getD 0).toNat : Int) - 48
theorem minorL_bound (l : U8s) : -48 ≤ minorL l ∧ minorL l ≤ 207 := by
  unfold minorL
  have := (l.getLast?.getD 0).toNat_lt
  omega
theorem minorOf_eq (l : U8s) (h : l ≠ []) (hl : l.length ≤ 1073741824) : start_minorOf.f (mkB l) = some (minorL l) := by
  unfold start_minorOf.f
  have h0 : 0 < l.length := List.length_pos_iff.2 h
  have e : wrap64 ((l.length : Int) - 1) = ((l.length - 1 : Nat) : Int) := by unfold wrap64; omega
  rw [mkB_size, e, if_pos (by omega), if_pos (by omega), bt_get (mkB l) (l.length - 1) (by rw [mkB_size]; omega), get_at' (mkB l) (l.length - 1) (by rw [mkB_size]; omega)]
  have e2 : (mkB l)[l.length - 1]'(by rw [mkB_size]; omega) = l.getLast h := by
    rw [List.getLast_eq_getElem]; rfl
  rw [e2]
  unfold minorL
  rw [show l.getLast? = some (l.getLast h) from List.getLast?_eq_some_getLast h, Option.getD_some]
  have := (l.getLast h).toNat_lt
  congr 1
  unfold wrap64
  omega
end Go.Proofs.YtjmaobipfpiddaaDoor.P
