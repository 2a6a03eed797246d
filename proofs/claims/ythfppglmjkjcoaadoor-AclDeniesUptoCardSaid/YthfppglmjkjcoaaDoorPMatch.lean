/- What matches a rule, plain. -/
import Derived.Test.YthfppglmjkjcoaaDoorPBase
import Derived.Test.YthfppglmjkjcoaaDoorQaclMatches
set_option linter.unusedVariables false
set_option linter.unusedSimpArgs false
namespace Go.Proofs.YthfppglmjkjcoaaDoor.P
open Go.RowKit Go.Proofs.YthfppglmjkjcoaaDoorW.PrintWords Go.Proofs.YthfppglmjkjcoaaDoorW.PrintLast Go.Proofs.YthfppglmjkjcoaaDoorW.PrintMore

abbrev U8s := List UInt8
def mkB (l : U8s) : ByteArray := ⟨l.toArray⟩
theorem mkB_data (s : ByteArray) : mkB s.data.toList = s := by cases s; rfl
theorem mkB_l (l : U8s) : (mkB l).data.toList = l := rfl
theorem mkB_size (l : U8s) : (mkB l).size = l.length := by simp [mkB, ByteArray.size]
theorem mkB_app (a b : U8s) : mkB a ++ mkB b = mkB (a ++ b) := by
  have : (mkB a ++ mkB b).data.toList = a ++ b := by rw [ByteArray.data_append]; simp [mkB]
  rw [← this, mkB_data]
theorem mkB_toList (l : U8s) : (mkB l).toList = l := by rw [ByteArray.toList_eq, mkB_l]
theorem mkB_inj {a b : U8s} (h : mkB a = mkB b) : a = b := by rw [← mkB_l a, ← mkB_l b, h]
theorem mkOf (s : ByteArray) : ∃ l, s = mkB l := ⟨_, (mkB_data s).symm⟩
theorem ext_mk (l : U8s) (i j : Nat) : (mkB l).extract i j = mkB ((l.take j).drop i) := by
  rw [← mkB_data ((mkB l).extract i j)]
  congr 1
  rw [show ((mkB l).extract i j).data = (mkB l).data.extract i j from by simp [ByteArray.data_extract]]
  simp [mkB, List.extract_eq_take_drop, List.drop_take]
theorem bt_mk (l : U8s) (i : Nat) (h : i < l.length) : bt (mkB l) (i : Int) = ((l[i]'h).toNat : Int) := by
  rw [bt_get _ _ (by rw [mkB_size]; exact h), get_at' _ _ (by rw [mkB_size]; exact h)]; rfl
/-- Is a host one of a rule's? -/
def ofL (h host : U8s) : Bool := if h = [42] then true else if h.head? = some 46 then (decide (h.length < host.length) && (host.drop (host.length - h.length) == h)) else h == host
def matchB (h : U8s) (lo hi : Int) (ms : List ByteArray) (host : U8s) (port : Int) (m : ByteArray) : Bool :=
  ofL h host && decide (lo ≤ port) && decide (port ≤ hi) && (ms.isEmpty || ms.any fun x => x.toList == m.toList)
theorem hasPrefix_dot (h : U8s) (hl : h.length ≤ 1073741824) : strings_HasPrefix.f (mkB h) (⟨#[46]⟩ : ByteArray) = some (h.head? == some 46) := by
  unfold strings_HasPrefix.f stringslite_HasPrefix.f
  have e1 : (⟨#[46]⟩ : ByteArray).size = 1 := rfl
  have e2 : (⟨#[46]⟩ : ByteArray).toList = [46] := by decide +kernel
  rw [mkB_size, e1, e2]
  cases h with
  | nil => rfl
  | cons b t =>
    rw [if_pos (by simp only [List.length_cons]; omega), if_pos (by decide), if_pos (by simp only [List.length_cons]; omega), Option.bind_some]
    congr 1
    rw [show ((((1 : Nat) : Int) : Int).toNat) = 1 from rfl, ext_mk, mkB_toList]
    simp
theorem hasSuffix_ok (host h : U8s) (hl : host.length ≤ 1073741824) : strings_HasSuffix.f (mkB host) (mkB h) = some (decide (h.length ≤ host.length) && (host.drop (host.length - h.length) == h)) := by
  unfold strings_HasSuffix.f stringslite_HasSuffix.f
  rw [mkB_size, mkB_size]
  by_cases hle : h.length ≤ host.length
  · have ew : wrap64 ((host.length : Int) - (h.length : Int)) = ((host.length - h.length : Nat) : Int) := by unfold wrap64; omega
    rw [if_pos (by omega), ew, if_pos (by omega), if_pos (by omega), Option.bind_some, Int.toNat_natCast, ext_mk, mkB_toList, mkB_toList, List.take_of_length_le (Nat.le_refl _), decide_eq_true hle, Bool.true_and]
  · rw [if_neg (by omega), Option.bind_some, decide_eq_false hle, Bool.false_and]
theorem of_ok (b : Bool) (h : U8s) (lo hi : Int) (ms : List ByteArray) (host : U8s) (h1 : h.length ≤ 1073741824) (h2 : host.length ≤ 1073741824) : acl_of.f b (mkB h) lo hi ms (mkB host) = some (ofL h host) := by
  unfold acl_of.f ofL
  rw [mkB_toList]
  by_cases e : h = [42]
  · rw [if_pos e, if_pos e]
  · rw [if_neg e, if_neg e, hasPrefix_dot h h1, Option.bind_some]
    by_cases e2 : h.head? = some 46
    · rw [if_pos e2, if_pos (by simpa using e2), hasSuffix_ok host h h2, Option.bind_some, mkB_size, mkB_size]
      by_cases e3 : h.length < host.length
      · rw [decide_eq_true e3, Bool.true_and, decide_eq_true (show h.length ≤ host.length by omega), Bool.true_and]
        cases hd : (host.drop (host.length - h.length) == h) with
        | true => rw [if_pos rfl]; simp; omega
        | false => rw [if_neg (by decide)]
      · rw [decide_eq_false e3, Bool.false_and]
        split
        · simp; omega
        · rfl
    · rw [if_neg e2, if_neg (by simpa using e2), mkB_toList]
theorem index_from (l : List ByteArray) (m : ByteArray) (hl : l.length ≤ 1073741824) : ∀ (d i : Nat), l.length - i = d → i ≤ l.length → ∃ v : Int, Ev (fun k => slices_Index_string_string.l0 k l m (l.length : Int) (i : Int)) v ∧ decide (v ≥ 0) = (l.drop i).any fun x => x.toList == m.toList := by
  intro d
  induction d with
  | zero =>
    intro i hd hi
    refine ⟨-1, Ev.step (f := fun _ => some (-1)) (fun k => by rw [slices_Index_string_string.l0, if_neg (by omega)]) (Ev.now _), ?_⟩
    rw [List.drop_eq_nil_of_le (by omega)]; rfl
  | succ d ih =>
    intro i hd hi
    have hlt : i < l.length := by omega
    have hr : rdOf ByteArray.empty l (i : Int) = l[i] := by unfold rdOf; rw [Int.toNat_natCast, List.getD_eq_getElem?_getD, List.getElem?_eq_getElem hlt]; rfl
    rw [List.drop_eq_getElem_cons hlt, List.any_cons]
    by_cases he : m.toList = (l[i]).toList
    · refine ⟨(i : Int), Ev.step (f := fun _ => some (i : Int)) (fun k => by rw [slices_Index_string_string.l0, if_pos (by omega), if_pos (by omega), if_pos (by omega), hr, if_pos he]) (Ev.now _), ?_⟩
      rw [show ((l[i]).toList == m.toList) = true by rw [he]; simp]; simp
    · obtain ⟨v, h1, h2⟩ := ih (i + 1) (by omega) (by omega)
      refine ⟨v, Ev.step (f := fun k => slices_Index_string_string.l0 k l m (l.length : Int) ((i + 1 : Nat) : Int)) (fun k => by rw [slices_Index_string_string.l0, if_pos (by omega), if_pos (by omega), if_pos (by omega), hr, if_neg he, w64n i (by omega)]) h1, ?_⟩
      rw [h2, show ((l[i]).toList == m.toList) = false by simpa using fun e => he e.symm, Bool.false_or]
theorem contains_ok (l : List ByteArray) (m : ByteArray) (hl : l.length ≤ 1073741824) : Ev (fun k => slices_Contains_string_string.f k l m) (l.any fun x => x.toList == m.toList) := by
  obtain ⟨v, h1, h2⟩ := index_from l m hl l.length 0 (by omega) (Nat.zero_le _)
  rw [List.drop_zero] at h2
  unfold slices_Contains_string_string.f slices_Index_string_string.f
  rw [← h2]
  exact Ev.bind h1 (Ev.now _)
theorem matches_ok (b : Bool) (h : U8s) (lo hi : Int) (ms : List ByteArray) (host : U8s) (port : Int) (m : ByteArray) (h1 : h.length ≤ 1073741824) (h2 : host.length ≤ 1073741824) (h3 : ms.length ≤ 1073741824) : Ev (fun k => acl_Matches.f k b (mkB h) lo hi ms (mkB host) port m) (matchB h lo hi ms host port m) := by
  unfold acl_Matches.f matchB
  refine Ev.congr (fun k => by rw [of_ok b h lo hi ms host h1 h2, Option.bind_some]) ?_
  cases hof : ofL h host with
  | false => exact Ev.congr (fun k => if_neg (by decide)) (Ev.now _)
  | true =>
    refine Ev.congr (fun k => if_pos rfl) ?_
    by_cases e1 : lo ≤ port
    · refine Ev.congr (fun k => if_pos (by omega)) ?_
      by_cases e2 : port ≤ hi
      · refine Ev.congr (fun k => if_pos e2) ?_
        rw [decide_eq_true e1, decide_eq_true e2, Bool.true_and, Bool.true_and, Bool.true_and]
        cases ms with
        | nil => exact Ev.congr (fun k => if_pos rfl) (Ev.now _)
        | cons x r =>
          refine Ev.congr (fun k => if_neg (by simp only [List.length_cons]; omega)) ?_
          rw [List.isEmpty_cons, Bool.false_or]
          exact Ev.bind (contains_ok (x :: r) m h3) (Ev.now _)
      · refine Ev.congr (fun k => if_neg e2) ?_
        rw [decide_eq_false e2, Bool.and_false, Bool.false_and]
        exact Ev.now _
    · refine Ev.congr (fun k => if_neg (by omega)) ?_
      rw [decide_eq_false e1, Bool.and_false, Bool.false_and, Bool.false_and]
      exact Ev.now _
end Go.Proofs.YthfppglmjkjcoaaDoor.P
