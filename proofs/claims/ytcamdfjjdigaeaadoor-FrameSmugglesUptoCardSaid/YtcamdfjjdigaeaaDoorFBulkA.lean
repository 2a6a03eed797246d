/- Bounds of lists of fields, and the elements of their values. -/
import Derived.Test.YtcamdfjjdigaeaaDoorPGet
import Derived.Test.YtcamdfjjdigaeaaDoorFtextList
set_option linter.unusedVariables false
set_option linter.unusedSimpArgs false
namespace Go.Proofs.YtcamdfjjdigaeaaDoor.P
open Go.RowKit Go.Proofs.YtcamdfjjdigaeaaDoorW.PrintWords Go.Proofs.YtcamdfjjdigaeaaDoorW.PrintLast Go.Proofs.YtcamdfjjdigaeaaDoorW.PrintMore

instance memText (a : ByteArray) (l : List ByteArray) : Decidable (a ∈ l) := decidable_of_iff (l.any (fun y => decide (y = a)) = true) (by simp)
/-- How great a list of fields is. -/
def bulkL (l : List S34) : Nat := (l.map fun x => x.f0.size + x.f1.size + 1).sum
theorem bulkL_cons (x : S34) (l : List S34) : bulkL (x :: l) = x.f0.size + x.f1.size + 1 + bulkL l := by simp [bulkL]
theorem bulkL_append (a b : List S34) : bulkL (a ++ b) = bulkL a + bulkL b := by simp [bulkL]
theorem bulkL_mem {l : List S34} {x : S34} (h : x ∈ l) : x.f0.size + x.f1.size + 1 ≤ bulkL l := by
  induction l with
  | nil => cases h
  | cons y r ih =>
    rw [bulkL_cons]
    rcases List.mem_cons.1 h with rfl | h
    · omega
    · have := ih h; omega
theorem bulkL_len (l : List S34) : l.length ≤ bulkL l := by
  induction l with
  | nil => simp [bulkL]
  | cons y r ih => rw [bulkL_cons, List.length_cons]; omega
/-- The elements of all values. -/
def elsB (vs : List ByteArray) : List ByteArray := vs.flatMap listB
def elemsB (l : List S34) (n : ByteArray) : List ByteArray := elsB (getB l n)
def sumS (vs : List ByteArray) : Nat := (vs.map fun s => s.size + 1).sum
theorem sumS_cons (x : ByteArray) (l : List ByteArray) : sumS (x :: l) = x.size + 1 + sumS l := by simp [sumS]
theorem listB_length (s : ByteArray) : (listB s).length ≤ s.size + 1 := by
  have := lsGo_length s s.size 0 0 false false []
  unfold listB
  simp at this
  omega
theorem elsB_length (vs : List ByteArray) : (elsB vs).length ≤ sumS vs := by
  induction vs with
  | nil => simp [elsB, sumS]
  | cons x r ih =>
    have := listB_length x
    unfold elsB at ih ⊢
    rw [List.flatMap_cons, List.length_append, sumS_cons]
    omega
theorem getB_sum (l : List S34) (n : ByteArray) : sumS (getB l n) ≤ bulkL l := by
  induction l with
  | nil => simp [getB, sumS]
  | cons x r ih =>
    rw [getB_cons, bulkL_cons]
    split
    · rw [sumS_cons]; omega
    · omega
theorem getB_mem {l : List S34} {n v : ByteArray} (h : v ∈ getB l n) : ∃ x ∈ l, x.f1 = v ∧ sameB x.f0 n = true := by
  unfold getB at h
  obtain ⟨x, hx, rfl⟩ := List.mem_map.1 h
  exact ⟨x, (List.mem_filter.1 hx).1, rfl, (List.mem_filter.1 hx).2⟩
theorem getB_length (l : List S34) (n : ByteArray) : (getB l n).length ≤ l.length := by unfold getB; rw [List.length_map]; exact List.length_filter_le _ _
theorem trimB_size (s : ByteArray) : (trimB s).size ≤ s.size := by
  have h1 : ∀ (l : List UInt8), (Lib.trimS l [32, 9]).length ≤ l.length := fun l => by
    unfold Lib.trimS Lib.trimLeftS Lib.trimRightS
    have dl : ∀ (p : UInt8 → Bool) (l : List UInt8), (l.dropWhile p).length ≤ l.length := fun p l => (List.dropWhile_sublist p).length_le
    refine Nat.le_trans (dl _ _) ?_
    rw [List.length_reverse]
    refine Nat.le_trans (dl _ _) ?_
    rw [List.length_reverse]
    exact Nat.le_refl _
  have h2 := h1 s.data.toList
  show (List.toArray (Lib.trimS s.data.toList [32, 9])).size ≤ s.data.size
  rw [List.size_toArray]
  simpa using h2
theorem lsEnd_mem {s : ByteArray} {acc : List ByteArray} {b e : Nat} {x : ByteArray} (h : x ∈ lsEnd s acc b e) : x ∈ acc ∨ (x.size ≤ s.size ∧ 0 < x.size) := by
  unfold lsEnd at h
  split at h
  · exact .inl h
  · rename_i hne
    rcases List.mem_append.1 h with h | h
    · exact .inl h
    · rw [List.mem_singleton.1 h]
      refine .inr ⟨?_, ?_⟩
      · refine Nat.le_trans (trimB_size _) ?_
        rw [ByteArray.size_extract]; omega
      · rcases Nat.eq_zero_or_pos (trimB (s.extract b e)).size with h0 | h0
        · exfalso; apply hne
          have : (trimB (s.extract b e)).data.toList.length = 0 := by rw [Array.length_toList]; exact h0
          rw [List.eq_nil_of_length_eq_zero this]; rfl
        · exact h0
theorem lsGo_mem (s : ByteArray) : ∀ (d pos b : Nat) (q m : Bool) (acc : List ByteArray) (x : ByteArray), x ∈ lsGo s d pos b q m acc → x ∈ acc ∨ (x.size ≤ s.size ∧ 0 < x.size)
  | 0, _, b, _, _, acc, x, h => lsEnd_mem h
  | d + 1, pos, b, q, m, acc, x, h => by
    rw [lsGo] at h
    repeat' (split at h)
    · exact lsGo_mem s d _ _ _ _ _ x h
    · exact lsGo_mem s d _ _ _ _ _ x h
    · exact lsGo_mem s d _ _ _ _ _ x h
    · rcases lsGo_mem s d _ _ _ _ _ x h with h | h
      · exact lsEnd_mem h
      · exact .inr h
    · exact lsGo_mem s d _ _ _ _ _ x h
theorem listB_mem {s x : ByteArray} (h : x ∈ listB s) : x.size ≤ s.size ∧ 0 < x.size := by
  rcases lsGo_mem s _ _ _ _ _ _ x h with h | h
  · cases h
  · exact h
theorem elemsB_mem {l : List S34} {n x : ByteArray} (h : x ∈ elemsB l n) : x.size ≤ bulkL l ∧ 0 < x.size := by
  obtain ⟨v, hv, hx⟩ := List.mem_flatMap.1 h
  obtain ⟨y, hy, rfl, _⟩ := getB_mem hv
  have h1 := listB_mem hx
  have h2 := bulkL_mem hy
  exact ⟨by omega, h1.2⟩
theorem elemsB_length (l : List S34) (n : ByteArray) : (elemsB l n).length ≤ bulkL l := Nat.le_trans (elsB_length _) (getB_sum l n)

theorem list_ok (s : ByteArray) (h : s.size ≤ 4398046511104) : text_List.f s = some (listB s) := by unfold text_List.f; rw [if_pos h]
theorem wrap1 (i : Nat) (h : i < 9223372036854775807) : wrap64 ((i : Int) + 1) = ((i + 1 : Nat) : Int) := by unfold wrap64; omega
theorem rdS_at (l : List ByteArray) (i : Nat) (h : i < l.length) : rdOf ByteArray.empty l (i : Int) = l[i] := by
  unfold rdOf
  rw [Int.toNat_natCast, List.getD_eq_getElem?_getD, List.getElem?_eq_getElem h]
  rfl
end Go.Proofs.YtcamdfjjdigaeaaDoor.P
