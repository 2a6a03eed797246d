/- Facts of names told by fields, of elements listed, and of what is wanted by them. -/
import Derived.Test.YtalolopngekgbaaDoorPRef16
set_option linter.unusedVariables false
set_option linter.unusedSimpArgs false
namespace Go.Proofs.YtalolopngekgbaaDoor.P
open Go.RowKit Go.Proofs.YtalolopngekgbaaDoorW.PrintWords Go.Proofs.YtalolopngekgbaaDoorW.PrintLast Go.Proofs.YtalolopngekgbaaDoorW.PrintMore

theorem sumS_append (a b : List ByteArray) : sumS (a ++ b) = sumS a + sumS b := by simp [sumS]
theorem nmStep_sum (st : List ByteArray × Bool) (x : ByteArray) : sumS (nmStep st x).1 ≤ sumS st.1 + (x.size + 1) := by
  unfold nmStep
  split
  · exact Nat.le_add_right _ _
  · split
    · exact Nat.le_add_right _ _
    · rw [sumS_append, sumS_cons, lowB_size]; simp [sumS]
/-- What was told by the elements so far. -/
structure NmOk (xs : List ByteArray) (st : List ByteArray × Bool) : Prop where
  mem : ∀ y, y ∈ st.1 ↔ (∃ x ∈ xs, lowB x = y) ∧ y ≠ starS
  nd : st.1.Nodup
  star : st.2 = true ↔ ∃ x ∈ xs, lowB x = starS
  len : st.1.length ≤ xs.length
  sum : sumS st.1 ≤ sumS xs
theorem NmOk.step {xs : List ByteArray} {st : List ByteArray × Bool} (h : NmOk xs st) (x : ByteArray) : NmOk (xs ++ [x]) (nmStep st x) := by
  refine ⟨fun y => ?_, ?_, ?_, ?_, ?_⟩
  · unfold nmStep
    by_cases e1 : lowB x = starS
    · rw [if_pos e1]
      rw [h.mem y]
      constructor
      · rintro ⟨⟨z, hz, rfl⟩, hn⟩; exact ⟨⟨z, List.mem_append_left _ hz, rfl⟩, hn⟩
      · rintro ⟨⟨z, hz, rfl⟩, hn⟩
        rcases List.mem_append.1 hz with hz | hz
        · exact ⟨⟨z, hz, rfl⟩, hn⟩
        · rw [List.mem_singleton.1 hz] at hn; exact absurd e1 hn
    · rw [if_neg e1]
      by_cases e2 : lowB x ∈ st.1
      · rw [if_pos e2, h.mem y]
        constructor
        · rintro ⟨⟨z, hz, rfl⟩, hn⟩; exact ⟨⟨z, List.mem_append_left _ hz, rfl⟩, hn⟩
        · rintro ⟨⟨z, hz, rfl⟩, hn⟩
          rcases List.mem_append.1 hz with hz | hz
          · exact ⟨⟨z, hz, rfl⟩, hn⟩
          · rw [List.mem_singleton.1 hz]; rw [List.mem_singleton.1 hz] at hn; exact ⟨((h.mem _).1 e2).1, hn⟩
      · rw [if_neg e2, List.mem_append, h.mem y]
        constructor
        · rintro (⟨⟨z, hz, rfl⟩, hn⟩ | hy)
          · exact ⟨⟨z, List.mem_append_left _ hz, rfl⟩, hn⟩
          · rw [List.mem_singleton.1 hy]; exact ⟨⟨x, by simp, rfl⟩, e1⟩
        · rintro ⟨⟨z, hz, rfl⟩, hn⟩
          rcases List.mem_append.1 hz with hz | hz
          · exact .inl ⟨⟨z, hz, rfl⟩, hn⟩
          · rw [List.mem_singleton.1 hz]; exact .inr (by simp)
  · unfold nmStep
    by_cases e1 : lowB x = starS
    · rw [if_pos e1]; exact h.nd
    · rw [if_neg e1]
      by_cases e2 : lowB x ∈ st.1
      · rw [if_pos e2]; exact h.nd
      · rw [if_neg e2]
        refine List.nodup_append.2 ⟨h.nd, by simp, ?_⟩
        intro a ha b hb e
        rw [List.mem_singleton.1 hb] at e
        exact e2 (e ▸ ha)
  · have hx : (∃ z ∈ xs ++ [x], lowB z = starS) ↔ (∃ z ∈ xs, lowB z = starS) ∨ lowB x = starS := by
      constructor
      · rintro ⟨z, hz, e⟩
        rcases List.mem_append.1 hz with hz | hz
        · exact .inl ⟨z, hz, e⟩
        · rw [List.mem_singleton.1 hz] at e; exact .inr e
      · rintro (⟨z, hz, e⟩ | e)
        · exact ⟨z, List.mem_append_left _ hz, e⟩
        · exact ⟨x, by simp, e⟩
    rw [hx, ← h.star]
    unfold nmStep
    by_cases e1 : lowB x = starS
    · rw [if_pos e1]; simp [e1]
    · rw [if_neg e1]
      by_cases e2 : lowB x ∈ st.1
      · rw [if_pos e2]; simp [e1]
      · rw [if_neg e2]; simp [e1]
  · have := nmStep_len st x
    rw [List.length_append, List.length_singleton]
    have := h.len
    omega
  · have := nmStep_sum st x
    have := h.sum
    rw [sumS_append, sumS_cons]
    simp [sumS] at *
    omega
theorem NmOk.fold : ∀ (ys xs : List ByteArray) (st : List ByteArray × Bool), NmOk xs st → NmOk (xs ++ ys) (ys.foldl nmStep st)
  | [], xs, st, h => by rw [List.append_nil]; exact h
  | y :: r, xs, st, h => by
    have := NmOk.fold r (xs ++ [y]) _ (h.step y)
    rw [List.append_assoc] at this
    exact this
theorem names_told (xs : List ByteArray) : NmOk xs (namesB xs) := by
  have := NmOk.fold xs [] ([], false) ⟨fun y => by simp, by simp, by simp, Nat.le_refl _, Nat.le_refl _⟩
  exact this
theorem namesB_len (xs : List ByteArray) : (namesB xs).1.length ≤ xs.length := (names_told xs).len

/-! ### how much is listed -/
theorem lsEnd_sum (s : ByteArray) (acc : List ByteArray) (b e : Nat) (h : b ≤ e) : sumS (lsEnd s acc b e) ≤ sumS acc + (e - b) + 1 := by
  unfold lsEnd
  split
  · omega
  · rw [sumS_append, sumS_cons]
    have h1 := trimB_size (s.extract b e)
    rw [ByteArray.size_extract] at h1
    have h2 : sumS ([] : List ByteArray) = 0 := rfl
    omega
theorem lsGo_sum (s : ByteArray) : ∀ (d pos b : Nat) (q m : Bool) (acc : List ByteArray), b ≤ pos → pos + d = s.size → sumS (lsGo s d pos b q m acc) ≤ sumS acc + (s.size - b) + 1
  | 0, pos, b, _, _, acc, h, he => by rw [lsGo]; exact lsEnd_sum s acc b s.size (by omega)
  | d + 1, pos, b, q, m, acc, h, he => by
    have e1 := lsEnd_sum s acc b pos h
    have i1 := lsGo_sum s d (pos + 1) b q false acc (by omega) (by omega)
    have i2 := lsGo_sum s d (pos + 1) b q true acc (by omega) (by omega)
    have i3 := lsGo_sum s d (pos + 1) b (!q) false acc (by omega) (by omega)
    have i4 := lsGo_sum s d (pos + 1) (pos + 1) q false (lsEnd s acc b pos) (by omega) (by omega)
    rw [lsGo]
    repeat' split
    all_goals omega
theorem listB_sum (s : ByteArray) : sumS (listB s) ≤ s.size + 1 := by
  have := lsGo_sum s s.size 0 0 false false [] (by omega) (by omega)
  unfold listB
  have h2 : sumS ([] : List ByteArray) = 0 := rfl
  omega
theorem elsB_sum (vs : List ByteArray) : sumS (elsB vs) ≤ sumS vs := by
  induction vs with
  | nil => simp [elsB, sumS]
  | cons x r ih =>
    have := listB_sum x
    unfold elsB at ih ⊢
    rw [List.flatMap_cons, sumS_append, sumS_cons]
    omega
theorem names_sum (l : List S32) (n : ByteArray) : sumS (namesB (elemsB l n)).1 ≤ bulkL l := Nat.le_trans (names_told _).sum (Nat.le_trans (elsB_sum _) (getB_sum l n))
end Go.Proofs.YtalolopngekgbaaDoor.P
