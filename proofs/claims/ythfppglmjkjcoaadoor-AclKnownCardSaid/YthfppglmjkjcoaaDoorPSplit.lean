/- Texts cut at a byte: the first k places. -/
import Derived.Lib.Split
import Derived.Lib.SplitLaws
set_option linter.unusedVariables false
set_option linter.unusedSimpArgs false
namespace Go.Proofs.YthfppglmjkjcoaaDoor.P
open Go

/-- A byte ahead of the first piece. -/
def ahead (b : UInt8) : List (List UInt8) → List (List UInt8)
  | [] => [[b]]
  | h :: t => (b :: h) :: t
/-- A text cut at the first k places of a byte. -/
def spn (c : UInt8) : Nat → List UInt8 → List (List UInt8)
  | _, [] => [[]]
  | 0, b :: l => ahead b (spn c 0 l)
  | k + 1, b :: l => if b == c then [] :: spn c k l else ahead b (spn c (k + 1) l)
theorem spn_ne (c : UInt8) : ∀ (k : Nat) (l : List UInt8), spn c k l ≠ []
  | _, [], h => by simp [spn] at h
  | 0, b :: l, h => by
    rw [spn] at h
    cases hs : spn c 0 l <;> rw [hs] at h <;> simp [ahead] at h
  | k + 1, b :: l, h => by
    rw [spn] at h
    split at h
    · simp at h
    · cases hs : spn c (k + 1) l <;> rw [hs] at h <;> simp [ahead] at h
theorem spn_zero (c : UInt8) : ∀ l : List UInt8, spn c 0 l = [l]
  | [] => rfl
  | b :: l => by rw [spn, spn_zero c l]; rfl
theorem spn_none (c : UInt8) : ∀ (k : Nat) (l : List UInt8), c ∉ l → spn c k l = [l]
  | k, [], _ => by cases k <;> rfl
  | 0, b :: l, _ => spn_zero c _
  | k + 1, b :: l, h => by
    simp only [List.mem_cons, not_or] at h
    rw [spn, if_neg (by simpa using fun e => h.1 e.symm), spn_none c (k + 1) l h.2]; rfl
theorem spn_app (c : UInt8) (k : Nat) (y : List UInt8) : ∀ x : List UInt8, c ∉ x → spn c (k + 1) (x ++ c :: y) = x :: spn c k y
  | [], _ => by rw [List.nil_append, spn, if_pos (by simp)]
  | b :: x, h => by
    simp only [List.mem_cons, not_or] at h
    rw [List.cons_append, spn, if_neg (by simpa using fun e => h.1 e.symm), spn_app c k y x h.2]; rfl
theorem cut_cases (c : UInt8) (s : List UInt8) : c ∉ s ∨ ∃ x y, s = x ++ c :: y ∧ c ∉ x := by
  by_cases h : c ∈ s
  · exact .inr (List.eq_append_cons_of_mem h)
  · exact .inl h
theorem spn_le (c : UInt8) : ∀ (k : Nat) (l p : List UInt8), p ∈ spn c k l → p.length ≤ l.length := by
  intro k l
  induction l generalizing k with
  | nil => intro p hp; cases k <;> simp [spn] at hp <;> simp [hp]
  | cons b l ih =>
    have ha : ∀ (j : Nat) (p : List UInt8), p ∈ ahead b (spn c j l) → p.length ≤ (b :: l).length := by
      intro j p hp
      cases hs : spn c j l with
      | nil => exact absurd hs (spn_ne c j l)
      | cons h t =>
        rw [hs, ahead] at hp
        rcases List.mem_cons.1 hp with rfl | hp
        · have := ih j h (by rw [hs]; simp)
          simp only [List.length_cons]; omega
        · have := ih j p (by rw [hs]; simp [hp])
          simp only [List.length_cons]; omega
    intro p hp
    cases k with
    | zero => exact ha 0 p (by rwa [spn] at hp)
    | succ k =>
      rw [spn] at hp
      split at hp
      · rcases List.mem_cons.1 hp with rfl | hp
        · simp
        · have := ih k p hp
          simp only [List.length_cons]; omega
      · exact ha (k + 1) p hp
/-- More places than there are change nothing. -/
theorem spn_more (c : UInt8) : ∀ (k j : Nat) (s : List UInt8), s.count c ≤ k → s.count c ≤ j → spn c k s = spn c j s := by
  intro k
  induction k with
  | zero =>
    intro j s h1 _
    have : c ∉ s := fun hm => by have := List.count_pos_iff.2 hm; omega
    rw [spn_none c 0 s this, spn_none c j s this]
  | succ k ih =>
    intro j s h1 h2
    rcases cut_cases c s with hn | ⟨x, y, rfl, hx⟩
    · rw [spn_none c _ s hn, spn_none c j s hn]
    · have hc : (x ++ c :: y).count c = y.count c + 1 := by
        rw [List.count_append, List.count_eq_zero.2 hx, List.count_cons_self]; omega
      obtain ⟨j', rfl⟩ : ∃ j', j = j' + 1 := ⟨j - 1, by omega⟩
      rw [spn_app c k y x hx, spn_app c j' y x hx, ih j' y (by omega) (by omega)]
theorem splitK_spn (c : UInt8) : ∀ (s : List UInt8) (k : Nat), Lib.splitK [c] 0 k s = spn c k s
  | s, 0 => by rw [spn_zero]; rfl
  | [], k + 1 => by rw [Lib.splitK]; simp [Lib.index, spn]
  | b :: l, k + 1 => by
    have ih := splitK_spn c l (k + 1)
    by_cases h : b = c
    · subst h
      have hix : Lib.index (b :: l) [b] = 0 := by rw [Lib.index]; simp [List.isPrefixOf]
      rw [Lib.splitK, if_neg (by rw [hix]; decide), hix, spn, if_pos (by simp)]
      simp [splitK_spn b l k]
    · have hp : ([c] : List UInt8).isPrefixOf (b :: l) = false := by simp [List.isPrefixOf, Ne.symm h]
      have hix : Lib.index (b :: l) [c] = if Lib.index l [c] == -1 then -1 else Lib.index l [c] + 1 := by rw [Lib.index, hp]; simp
      rw [spn, if_neg (by simpa using h), ← ih]
      by_cases hm : Lib.index l [c] = -1
      · rw [if_pos (beq_iff_eq.2 hm)] at hix
        rw [Lib.splitK, if_pos (by rw [hix]; rfl), Lib.splitK, if_pos (by rw [hm]; rfl)]
        rfl
      · have hge := Lib.index_ge l [c]
        obtain ⟨j, hj⟩ : ∃ j : Nat, Lib.index l [c] = j := ⟨(Lib.index l [c]).toNat, by omega⟩
        rw [if_neg (by simpa using hm)] at hix
        rw [Lib.splitK, if_neg (by rw [hix]; simp; omega), Lib.splitK, if_neg (by simpa using hm), hix, hj]
        have e : ((j : Int) + 1).toNat = j + 1 := by omega
        rw [e]
        simp [ahead]
/-- The pieces, as texts. -/
def spnB (c : UInt8) (k : Nat) (s : ByteArray) : List ByteArray := (spn c k s.data.toList).map fun l => ⟨l.toArray⟩
theorem splitB_spn (c : UInt8) (k : Nat) (s : ByteArray) : Lib.splitB ⟨#[c]⟩ 0 k s = spnB c k s := by
  have h := Lib.splitB_data ⟨#[c]⟩ 0 k s
  rw [show (⟨#[c]⟩ : ByteArray).data.toList = [c] from rfl, splitK_spn] at h
  rw [spnB, ← h, List.map_map]
  conv => lhs; rw [← List.map_id (Lib.splitB ⟨#[c]⟩ 0 k s)]
  exact List.map_congr_left fun x _ => rfl
theorem spnB_all (c : UInt8) (s : ByteArray) : Lib.splitB ⟨#[c]⟩ 0 (Lib.countB s ⟨#[c]⟩) s = spnB c s.data.toList.length s := by
  rw [splitB_spn, spnB, spnB]
  have h : Lib.countB s ⟨#[c]⟩ = s.data.toList.count c := Lib.count_one c _
  rw [h, spn_more c _ s.data.toList.length s.data.toList (Nat.le_refl _) List.count_le_length]
theorem spnB_len (c : UInt8) (s : ByteArray) : (spnB c s.data.toList.length s).length = Lib.countB s ⟨#[c]⟩ + 1 := by
  rw [← spnB_all]
  exact Lib.splitB_all _ (Nat.le_refl _) 0 _ s rfl
end Go.Proofs.YthfppglmjkjcoaaDoor.P
