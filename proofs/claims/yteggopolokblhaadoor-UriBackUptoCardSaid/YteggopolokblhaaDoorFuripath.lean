/- uri.path: is a text a path, with its query? -/
import Derived.Test.YteggopolokblhaaDoorFstringsCut
import Derived.Test.YteggopolokblhaaDoorFstringsSplit
import Derived.Test.YteggopolokblhaaDoorFuriClosures
import Derived.Test.YteggopolokblhaaDoorQPre
import Derived.Laws.EntriesVeiled
set_option linter.unusedVariables false
set_option linter.unusedSimpArgs false
namespace Go.Proofs.YteggopolokblhaaDoor.P
open Go.RowKit Go.Proofs.YteggopolokblhaaDoorW.PrintWords Go.Proofs.YteggopolokblhaaDoorW.PrintLast Go.Proofs.YteggopolokblhaaDoorW.PrintMore

def signsL : List UInt8 := [45, 46, 95, 126, 33, 36, 38, 39, 40, 41, 42, 43, 44, 59, 61, 58, 64, 47]
/-- May a byte stand in a path? -/
def mayI (c : Int) : Bool := plainI c || (decide (65 ≤ c) && decide (c ≤ 90)) || decide (c = 37) || decide (0 ≤ Lib.indexByte signsL c.toNat.toUInt8)
/-- In a query? -/
def mayQ (c : Int) : Bool := mayI c || decide (c = 63)
set_option maxHeartbeats 1000000 in
theorem pctClosure (x : Int) (W : World) : Calls Tryd.prog 31 #[.int .u8 x] W fun e w' => e = .returned (.bool (hexI x)) ∧ w' = W := by
  have hIx : ∀ w, Calls Tryd.prog 32 #[.string ⟨#[48, 49, 50, 51, 52, 53, 54, 55, 56, 57, 97, 98, 99, 100, 101, 102, 65, 66, 67, 68, 69, 70]⟩, .int .u8 x] w fun e w' => e = .returned (.int .i64 (Lib.indexByte hexSigns x.toNat.toUInt8)) ∧ w' = w := fun w => Tryd.strings_IndexByte ⟨#[48, 49, 50, 51, 52, 53, 54, 55, 56, 57, 97, 98, 99, 100, 101, 102, 65, 66, 67, 68, 69, 70]⟩ x w
  unfold hexI
  generalize Lib.indexByte hexSigns x.toNat.toUInt8 = ix at hIx ⊢
  have HX := Aside0.mk hIx
  clear hIx
  go_enter Tryd.func31, Tryd.ntmps31
  go_wp2_with (go_at_call 32; refine (HX.out _).mono ?_; rintro e w' ⟨rfl, rfl⟩)
  all_goals go_ret
  all_goals refine ⟨congrArg (fun b => Ending.returned (Value.bool b)) ?_, rfl⟩
  all_goals first | rfl | (simp [*]; done) | (rw [Bool.eq_iff_iff]; simp; omega)
set_option maxHeartbeats 2000000 in
theorem mayClosure (x : Int) (W : World) : Calls Tryd.prog 33 #[.int .u8 x] W fun e w' => e = .returned (.bool (mayI x)) ∧ w' = W := by
  have hIx : ∀ w, Calls Tryd.prog 32 #[.string ⟨#[45, 46, 95, 126, 33, 36, 38, 39, 40, 41, 42, 43, 44, 59, 61, 58, 64, 47]⟩, .int .u8 x] w fun e w' => e = .returned (.int .i64 (Lib.indexByte signsL x.toNat.toUInt8)) ∧ w' = w := fun w => Tryd.strings_IndexByte ⟨#[45, 46, 95, 126, 33, 36, 38, 39, 40, 41, 42, 43, 44, 59, 61, 58, 64, 47]⟩ x w
  unfold mayI
  generalize Lib.indexByte signsL x.toNat.toUInt8 = ix at hIx ⊢
  have HX := Aside0.mk hIx
  clear hIx
  have HP := Aside0.mk (plainClosure x)
  generalize plainI x = p at HP ⊢
  go_enter Tryd.func33, Tryd.ntmps33
  go_wp2_with (first | (go_at_call 27; refine (HP.out _).mono ?_; rintro e w' ⟨rfl, rfl⟩) | (go_at_call 32; refine (HX.out _).mono ?_; rintro e w' ⟨rfl, rfl⟩))
  all_goals go_ret
  all_goals refine ⟨congrArg (fun b => Ending.returned (Value.bool b)) ?_, rfl⟩
  all_goals first | rfl | (simp [*]; done) | (rw [Bool.eq_iff_iff]; simp [*]; done) | (rw [Bool.eq_iff_iff]; simp [*]; omega)
set_option maxHeartbeats 1000000 in
theorem queryClosure (B : Nat) (x : Int) (W : World) (hc : W.cell? ⟨B, 0, none⟩ = some (.func (.func 33) #[] #[])) :
    Calls Tryd.prog 34 (#[.int .u8 x] ++ #[.pointer (some ⟨B, 0, none⟩)]) W fun e w' => e = .returned (.bool (mayQ x)) ∧ Below W.heap.size W w' := by
  have eg : ∀ args w, (callFunc 33 args).run Tryd.prog w = .ok (.enter 33 args) w := enters_of Tryd.func33 (by kernel_rfl) rfl
  have HM := Aside0.mk (mayClosure x W)
  unfold mayQ
  generalize mayI x = m at HM ⊢
  go_enter Tryd.func34, Tryd.ntmps34
  go_wp2_with fail
  refine HM.out.mono ?_
  rintro e w' ⟨rfl, rfl⟩
  go_wp2
  all_goals go_ret
  all_goals refine ⟨congrArg (fun b => Ending.returned (Value.bool b)) ?_, Below.refl _ _⟩
  all_goals first | rfl | (simp [*]; done) | (rw [Bool.eq_iff_iff]; simp [*]; done) | (rw [Bool.eq_iff_iff]; simp [*]; omega)
/-- Do two digits to the base 16 begin a text? -/
def pctOk (x : List UInt8) : Bool := decide (2 ≤ x.length) && ((x.take 2).all fun b => hexI (b.toNat : Int))
def firstL (l : List UInt8) : List UInt8 := (cut1 63 l).1
def queryL (l : List UInt8) : List UInt8 := (cut1 63 l).2.1
def partsL (l : List UInt8) : List (List UInt8) := spn 37 (firstL l ++ 63 :: queryL l).length (firstL l ++ 63 :: queryL l)
def pathL (l : List UInt8) : Bool := (l.head? == some 47) && (((partsL l).drop 1).all pctOk && (((firstL l).all fun b => mayI (b.toNat : Int)) && ((queryL l).all fun b => mayQ (b.toNat : Int))))
def uri_path.f (a0 : ByteArray) : Option Bool := if a0.size ≤ 536870912 then some (pathL a0.data.toList) else none
theorem hasSlash (l : List UInt8) (hl : l.length ≤ 536870912) : strings_HasPrefix.f ⟨l.toArray⟩ (⟨#[47]⟩ : ByteArray) = some (l.head? == some 47) := by
  unfold strings_HasPrefix.f stringslite_HasPrefix.f
  have e1 : (⟨#[47]⟩ : ByteArray).size = 1 := rfl
  have e2 : (⟨#[47]⟩ : ByteArray).toList = [47] := by decide +kernel
  have hz : (⟨l.toArray⟩ : ByteArray).size = l.length := by simp [ByteArray.size]
  rw [hz, e1, e2]
  cases l with
  | nil => rfl
  | cons b t =>
    rw [if_pos (by simp only [List.length_cons]; omega), if_pos (by decide), if_pos (by simp only [List.length_cons]; omega), Option.bind_some]
    congr 1
    have : ((⟨(b :: t).toArray⟩ : ByteArray).extract 0 1).toList = [b] := by
      rw [ByteArray.toList_eq, ByteArray.data_extract]
      simp
    rw [show ((((1 : Nat) : Int) : Int).toNat) = 1 from rfl, this]
    simp
theorem splitPct (t : ByteArray) (l : List UInt8) (ht : t.data.toList = l) (hs : t.size ≤ 1073741824) (w : World) (hT : Tab w) : Calls Tryd.prog 24 #[.string t, .string ⟨#[37]⟩] w fun e w' => ∃ c : Nat, (spn 37 l.length l).length ≤ c ∧ e = .returned (.slice (some ⟨w.heap.size, 0, none⟩) (spn 37 l.length l).length c) ∧ (∀ k, k < (spn 37 l.length l).length → w'.cell? ⟨w.heap.size, k, none⟩ = some (.string ⟨((spn 37 l.length l).getD k []).toArray⟩)) ∧ Below w.heap.size w w' := by
  subst ht
  obtain ⟨m, hm⟩ := hT.2.1
  refine (Tryd.strings_Split t ⟨#[37]⟩ m w (by omega) hm (Nat.le_refl _)).mono ?_
  rintro e w' ⟨rfl, rfl⟩
  rw [spnB_all]
  have hl : (spnB 37 t.data.toList.length t).length = (spn 37 t.data.toList.length t.data.toList).length := List.length_map ..
  have hc := spnB_len 37 t
  refine ⟨Lib.countB t ⟨#[37]⟩ + 1, by omega, ?_, fun k hk => ?_, below_alloc (Below.refl _ _) _⟩
  · rw [← hl, hc]
  · refine (blk_cell (blk_new w _) k).trans ?_
    rw [List.getElem?_toArray, List.getElem?_map, spnB, List.getElem?_map, List.getElem?_eq_getElem hk, List.getD_eq_getElem?_getD, List.getElem?_eq_getElem hk]
    rfl
/-- The parts but the first. -/
theorem splitTail (t : ByteArray) (l : List UInt8) (ht : t.data.toList = l) (hs : t.size ≤ 1073741824) (w : World) (hT : Tab w) : Calls Tryd.prog 24 #[.string t, .string ⟨#[37]⟩] w fun e w' => ∃ (c c1 : Nat) (A1 : Option Addr), e = .returned (.slice (some ⟨w.heap.size, 0, none⟩) (spn 37 l.length l).length c) ∧ (∀ W, (Instr.slice 48 (.slice (some ⟨w.heap.size, 0, none⟩) (spn 37 l.length l).length c) (some (.int .i64 1)) none none).run Tryd.prog W = .ok (.slice A1 ((spn 37 l.length l).length - 1) c1) W) ∧ (∀ j, j < (spn 37 l.length l).length - 1 → ∃ ad : Addr, A1 = some ad ∧ w'.cell? (ad.add j) = some (.string ⟨((spn 37 l.length l).getD (j + 1) []).toArray⟩)) ∧ Below w.heap.size w w' := by
  refine (splitPct t l ht hs w hT).mono ?_
  rintro e w' ⟨c, hc, rfl, hcl, hb⟩
  have hne : 0 < (spn 37 l.length l).length := List.length_pos_iff.2 (spn_ne 37 _ _)
  generalize spn 37 l.length l = ps at *
  obtain ⟨i0, hi0, _, hsz, _⟩ := info_parts info9
  have hcut := cut_from (P := Tryd.prog) 48 9 .i64 Tryd.underlying48 hi0 1 hsz (some ⟨w.heap.size, 0, none⟩) ps.length c 1 (by decide) (by omega)
  refine ⟨c, _, _, rfl, hcut, fun j hj => ?_, hb⟩
  have e1 : (1 : Int).toNat = 1 := rfl
  rw [e1, if_neg (by omega)]
  refine ⟨_, rfl, ?_⟩
  have e2 : (Addr.add (Addr.add ⟨w.heap.size, 0, none⟩ (1 * 1)) j) = ⟨w.heap.size, j + 1, none⟩ := by
    simp [Addr.add, Nat.add_comm]
  exact (congrArg w'.cell? e2).trans (hcl (j + 1) (by omega))
set_option maxRecDepth 100000 in
set_option maxHeartbeats 8000000 in
theorem uri_path.calls (a0 : ByteArray) (r : Bool) (w : World) (hT : Tab w) (h : uri_path.f a0 = some r) :
    Calls Tryd.prog 18 #[.string a0] w fun e w' => e = .returned (.bool r) ∧ Below w.heap.size w w' := by
  unfold uri_path.f at h
  split at h
  · rename_i hs
    have hr := Option.some.inj h
    clear h
    obtain ⟨l, rfl⟩ : ∃ l : List UInt8, a0 = ⟨l.toArray⟩ := ⟨a0.data.toList, by cases a0; simp⟩
    have hz : (⟨l.toArray⟩ : ByteArray).size = l.length := by simp [ByteArray.size]
    have hdl : (⟨l.toArray⟩ : ByteArray).data.toList = l := by simp
    rw [hdl] at hr
    rw [hz] at hs
    have HT := Aside0.mk hT
    have hP := hasSlash l hs
    unfold pathL at hr
    cases hh : (l.head? == some 47) with
    | false =>
      rw [hh] at hP hr
      have HP := Aside0.mk hP
      subst hr
      clear hP hh hz hdl hs hT
      go_enter Tryd.func18, Tryd.ntmps18
      go_wp2_with (go_at_call 23; refine (strings_HasPrefix.calls _ _ _ _ HP.out).mono ?_; rintro e w1 ⟨rfl, ⟨nd, rfl⟩⟩)
      go_ret
      exact ⟨rfl, pw_below_drewN (Below.refl _ _) _⟩
    | true =>
      rw [hh, Bool.true_and] at hr
      rw [hh] at hP
      have HP := Aside0.mk hP
      have hle := cut1_le 63 l
      have hC : strings_Cut.f ⟨l.toArray⟩ ⟨#[63]⟩ = some (⟨(firstL l).toArray⟩, ⟨(queryL l).toArray⟩, (cut1 63 l).2.2) := by
        unfold strings_Cut.f
        rw [hz, hdl, if_pos ⟨by omega, rfl⟩]; rfl
      have HC := Aside0.mk hC
      have hlf : (firstL l).length ≤ l.length := hle.1
      have hlq : (queryL l).length ≤ l.length := hle.2.1
      have hlfq : (firstL l).length + (queryL l).length ≤ l.length := hle.2.2
      have hS : ∀ W, Tab W → Calls Tryd.prog 24 #[.string ((⟨(firstL l).toArray⟩ : ByteArray) ++ ⟨#[63]⟩ ++ ⟨(queryL l).toArray⟩), .string ⟨#[37]⟩] W fun e w' => ∃ (c c1 : Nat) (A1 : Option Addr), e = .returned (.slice (some ⟨W.heap.size, 0, none⟩) (partsL l).length c) ∧ (∀ W2, (Instr.slice 48 (.slice (some ⟨W.heap.size, 0, none⟩) (partsL l).length c) (some (.int .i64 1)) none none).run Tryd.prog W2 = .ok (.slice A1 ((partsL l).length - 1) c1) W2) ∧ (∀ j, j < (partsL l).length - 1 → ∃ ad : Addr, A1 = some ad ∧ w'.cell? (ad.add j) = some (.string ⟨((partsL l).getD (j + 1) []).toArray⟩)) ∧ Below W.heap.size W w' := fun W hW => by
        have e1 : ((⟨(firstL l).toArray⟩ : ByteArray) ++ ⟨#[63]⟩ ++ ⟨(queryL l).toArray⟩).data.toList = firstL l ++ 63 :: queryL l := by
          rw [ByteArray.data_append, ByteArray.data_append]; simp
        refine splitTail _ _ e1 ?_ W hW
        rw [Lib.size_eq, e1, List.length_append, List.length_cons]; omega
      have HS := Aside0.mk hS
      have hne : 0 < (partsL l).length := List.length_pos_iff.2 (spn_ne 37 _ _)
      have hcnt : (partsL l).length ≤ 2147483648 := by
        have hl : (spnB 37 (firstL l ++ 63 :: queryL l).length (⟨(firstL l ++ 63 :: queryL l).toArray⟩ : ByteArray)).length = (partsL l).length := List.length_map ..
        have hc := spnB_len 37 (⟨(firstL l ++ 63 :: queryL l).toArray⟩ : ByteArray)
        have h1 := Lib.countB_le ⟨#[37]⟩ (Nat.le_refl _) _ (⟨(firstL l ++ 63 :: queryL l).toArray⟩ : ByteArray) (Nat.le_refl _)
        have hz2 : (⟨(firstL l ++ 63 :: queryL l).toArray⟩ : ByteArray).size = (firstL l ++ 63 :: queryL l).length := by simp [ByteArray.size]
        have hc' : (partsL l).length = Lib.countB (⟨(firstL l ++ 63 :: queryL l).toArray⟩ : ByteArray) ⟨#[37]⟩ + 1 := hl.symm.trans hc
        rw [hz2, List.length_append, List.length_cons] at h1
        omega
      have HMB := Aside0.mk (show (partsL l).length - 1 ≤ 2147483648 by omega)
      have HM := Aside0.mk (show (partsL l).length - 1 + 1 = (partsL l).length by omega)
      have HLE := Aside0.mk (show ∀ x ∈ partsL l, x.length ≤ 2147483648 from fun x hx => Nat.le_trans (spn_le 37 _ _ x hx) (by rw [List.length_append, List.length_cons]; omega))
      have hcat1 : ¬ 9223372036854775807 < (firstL l).length + 1 := by omega
      have hcat2 : ¬ 9223372036854775807 < (firstL l).length + 1 + (queryL l).length := by omega
      have hsz1 : (⟨(firstL l).toArray⟩ : ByteArray).size ≤ 9223372036854775807 := by
        rw [show (⟨(firstL l).toArray⟩ : ByteArray).size = (firstL l).length by simp [ByteArray.size]]; omega
      have hsz2 : (⟨(queryL l).toArray⟩ : ByteArray).size ≤ 9223372036854775807 := by
        rw [show (⟨(queryL l).toArray⟩ : ByteArray).size = (queryL l).length by simp [ByteArray.size]]; omega
      have HA1 := Aside0.mk (fun W => allU_calls ⟨(firstL l).toArray⟩ 33 #[] (enters_of Tryd.func33 (by kernel_rfl) rfl) mayI W hsz1 (pred_of _ _ mayClosure _ W))
      have HA2 := Aside0.mk (fun (B : Nat) (W : World) (hc : W.cell? ⟨B, 0, none⟩ = some (.func (.func 33) #[] #[])) => allU_calls ⟨(queryL l).toArray⟩ 34 #[.pointer (some ⟨B, 0, none⟩)] (enters_of Tryd.func34 (by kernel_rfl) rfl) mayQ W hsz2 (fun W2 x _ hb => queryClosure B x W2 ((hb.cell (p := ⟨B, 0, none⟩) (World.block_lt_of_cell? _ _ hc)).trans hc)))
      have e1 : ((firstL l).all fun b => mayI (b.toNat : Int)) = (bytesOf ⟨(firstL l).toArray⟩).all mayI := by
        rw [show bytesOf ⟨(firstL l).toArray⟩ = (firstL l).map fun b => ((b.toNat : Nat) : Int) from rfl, List.all_map]; rfl
      have e2 : ((queryL l).all fun b => mayQ (b.toNat : Int)) = (bytesOf ⟨(queryL l).toArray⟩).all mayQ := by
        rw [show bytesOf ⟨(queryL l).toArray⟩ = (queryL l).map fun b => ((b.toNat : Nat) : Int) from rfl, List.all_map]; rfl
      rw [e1, e2] at hr
      have HAP := Aside0.mk (fun (x : List UInt8) (h2 : 2 ≤ x.length) (hx : x.length ≤ 2147483648) (W : World) => allU_calls ⟨(x.take 2).toArray⟩ 31 #[] (enters_of Tryd.func31 (by kernel_rfl) rfl) hexI W (by rw [show (⟨(x.take 2).toArray⟩ : ByteArray).size = (x.take 2).length by simp [ByteArray.size], List.length_take]; omega) (pred_of _ _ pctClosure _ W))
      clear hC hS hP hle hlf hlq hlfq hsz1 hsz2 e1 e2 hT hh hz hdl hs
      generalize (bytesOf ⟨(firstL l).toArray⟩).all mayI = q1 at HA1 hr
      generalize (bytesOf ⟨(queryL l).toArray⟩).all mayQ = q2 at HA2 hr
      have HR := Aside0.mk (show (((partsL l).drop (0 + 1)).all pctOk && (q1 && q2)) = r from hr)
      clear hr hne
      clear hcnt
      generalize (partsL l).length - 1 = m at HS HM HMB
      generalize partsL l = ps at HR HS HLE HM
      generalize firstL l = fi at *
      generalize queryL l = qu at *
      generalize (cut1 63 l).2.2 = cb at *
      go_enter Tryd.func18, Tryd.ntmps18
      go_wp2_with (first | (go_at_call 23; refine (strings_HasPrefix.calls _ _ _ _ HP.out).mono ?_; rintro e w1 ⟨rfl, ⟨nd, rfl⟩⟩) | (go_at_call 20; refine (strings_Cut.calls _ _ _ _ _ _ (HT.out.drewN _) HC.out).mono ?_; rintro e w2 ⟨rfl, hb⟩; have HB := Aside0.mk (below_step (pw_below_drewN (Below.refl _ _) _) hb); clear hb) | (go_at_call 24; refine (HS.out _ (HT.out.below HB.out)).mono ?_; rintro e w3 ⟨c, c1, A1, rfl, hcut, hA, hb⟩; have HA := Aside0.mk hA; clear hA; have n1_ := Aside0.mk (below_step HB.out hb); clear HB hb; have HB := n1_; clear n1_))
      go_loopg [27] m (fun g v wx => ∃ i : Nat, v = .int .i64 i ∧ i + g = m ∧ Aside0 (((ps.drop (i + 1)).all pctOk && (q1 && q2)) = r) ∧ Aside0 (Below w.heap.size w wx) ∧ Aside0 (∀ j, j < m → ∃ ad : Addr, A1 = some ad ∧ wx.cell? (ad.add j) = some (.string ⟨(ps.getD (j + 1) []).toArray⟩)))
      case atStart => exact ⟨0, rfl, by omega, HR, HB, HA⟩
      case round =>
        clear HB HA HR
        obtain ⟨i, rfl, hig, HR, HB, HA⟩ := hrel
        cases gk with
        | zero =>
          obtain rfl : i = m := by omega
          have hr2 := HR.out
          rw [HM.out, List.drop_eq_nil_of_le (Nat.le_refl _), List.all_nil, Bool.true_and] at hr2
          clear hig HR HA
          have hlt : decide ((i : Int) < (i : Int)) = false := by simp
          cases q1 with
          | false =>
            go_wp2_with (go_at_call 25; refine (HA1.out _).mono ?_; rintro e w4 ⟨rfl, hb⟩)
            go_ret
            exact ⟨by rw [← hr2]; rfl, below_step (below_alloc HB.out _) hb⟩
          | true =>
            have hr3 : q2 = r := by simpa using hr2
            subst hr3
            go_wp2_with (first | (go_at_call 25; refine (HA1.out _).mono ?_; rintro e w4 ⟨rfl, hb⟩; have hce := (hb.cell (p := ⟨wr.heap.size, 0, none⟩) (by simp)).trans (World.cell?_alloc_at _ _ _ _ rfl); have HB4 := Aside0.mk (below_step (below_alloc HB.out _) hb); have HCE := Aside0.mk hce; clear hce hb) | (go_at_call 25; refine (HA2.out _ _ (HCE.out.trans rfl)).mono ?_; rintro e w5 ⟨rfl, hb⟩))
            go_ret
            exact ⟨rfl, below_step HB4.out hb⟩
        | succ g =>
          have him : i < m := by omega
          have hlt : decide ((i : Int) < (m : Int)) = true := by simp; omega
          have hlt0 : decide ((0 : Int) ≤ (i : Int)) = true := by simp
          obtain ⟨ad, rfl, hx⟩ := HA.out i him
          have hps : i + 1 < ps.length := by have := HM.out; omega
          have hxe : ps.getD (i + 1) [] = ps[i + 1]'hps := by rw [List.getD_eq_getElem?_getD, List.getElem?_eq_getElem hps]; rfl
          have hxm := HLE.out (ps[i + 1]'hps) (List.getElem_mem hps)
          have hr2 := HR.out
          rw [List.drop_eq_getElem_cons hps, List.all_cons] at hr2
          rw [hxe] at hx
          generalize ps[i + 1]'hps = x at hxe hxm hr2 hx
          have hz : (⟨x.toArray⟩ : ByteArray).size = x.length := by simp [ByteArray.size]
          rw [Bool.and_assoc] at hr2
          by_cases h2 : 2 ≤ x.length
          · have hl2 : decide (((⟨x.toArray⟩ : ByteArray).size : Int) < 2) = false := by rw [hz]; simp; omega
            have h2z : (2 : Int) ≤ ((⟨x.toArray⟩ : ByteArray).size : Int) := by rw [hz]; omega
            have h2b : decide ((2 : Int) ≤ ((⟨x.toArray⟩ : ByteArray).size : Int)) = true := decide_eq_true h2z
            have HX := Aside0.mk (HAP.out x h2 hxm)
            have hpx : pctOk x = (bytesOf ⟨(x.take 2).toArray⟩).all hexI := by
              rw [pctOk, decide_eq_true h2, Bool.true_and, show bytesOf ⟨(x.take 2).toArray⟩ = (x.take 2).map fun b => ((b.toNat : Nat) : Int) from rfl, List.all_map]; rfl
            rw [hpx] at hr2
            have hext : (⟨(x.take 2).toArray⟩ : ByteArray) = (⟨x.toArray⟩ : ByteArray).extract 0 2 := by
              apply ByteArray.ext
              rw [ByteArray.data_extract]
              simp
            generalize (bytesOf ⟨(x.take 2).toArray⟩).all hexI = q3 at HX hr2
            rw [hext] at HX
            have HR2 := Aside0.mk hr2
            clear hr2 hpx hext hxm hxe h2
            cases q3 with
            | false =>
              go_wp2_with (go_at_call 25; refine (HX.out _).mono ?_; rintro e w4 ⟨rfl, hb⟩)
              go_ret
              exact ⟨by rw [← HR2.out]; rfl, below_step HB.out hb⟩
            | true =>
              go_wp2_with (go_at_call 25; refine (HX.out _).mono ?_; rintro e w4 ⟨rfl, hb⟩)
              go_roundg g
              case measure => omega
              case rel =>
                refine ⟨i + 1, by have := HMB.out; rw [show wrap64 ((i : Int) + 1) = ((i + 1 : Nat) : Int) by unfold wrap64; omega], by omega, ⟨HR2.out⟩, ⟨below_step HB.out hb⟩, ⟨fun j hj => ?_⟩⟩
                obtain ⟨ad2, e2, h2⟩ := HA.out j hj
                exact ⟨ad2, e2, (hb.cell (World.block_lt_of_cell? _ _ h2)).trans h2⟩
          · have hl2 : decide ((x.length : Int) < 2) = true := by simp; omega
            have hl3 : (x.length : Int) < 2 := by omega
            have hpx : pctOk x = false := by rw [pctOk, decide_eq_false h2, Bool.false_and]
            rw [hpx, Bool.false_and] at hr2
            subst hr2
            clear hpx hxm hxe h2 hz
            go_wp2
            go_ret
            exact ⟨rfl, HB.out⟩
  · exact absurd h (by simp)
end Go.Proofs.YteggopolokblhaaDoor.P
