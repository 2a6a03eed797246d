/- Texts cut at their first byte of a kind. -/
import Derived.Lib.IndexMore
import Derived.Lib.IndexBytes
import Derived.Lib.IndexAny
set_option linter.unusedVariables false
set_option linter.unusedSimpArgs false
namespace Go.Proofs.YteggopolokblhaaDoor.P
open Go

/-- What stands ahead of the first byte c, what behind it; is there one? -/
def cut1 (c : UInt8) : List UInt8 → List UInt8 × List UInt8 × Bool
  | [] => ([], [], false)
  | b :: l => if b = c then ([], l, true) else (b :: (cut1 c l).1, (cut1 c l).2.1, (cut1 c l).2.2)
theorem cut_one (c : UInt8) : ∀ s : List UInt8, Lib.cut s [c] = cut1 c s
  | [] => by
    have : Lib.index [] [c] = -1 := by simp [Lib.index]
    rw [Lib.cut, this, if_neg (by decide)]; rfl
  | b :: l => by
    have ih := cut_one c l
    rw [cut1, ← ih]
    unfold Lib.cut
    rw [Lib.index_one, Lib.index_one]
    have hge : -1 ≤ Lib.indexByte l c := by have := Lib.index_ge l [c]; rw [Lib.index_one] at this; exact this
    by_cases hb : b = c
    · subst hb
      have : Lib.indexByte (b :: l) b = 0 := by simp [Lib.indexByte]
      rw [this, if_pos (by decide), if_pos rfl]; rfl
    · rw [if_neg hb]
      by_cases hn : Lib.indexByte l c = -1
      · have : Lib.indexByte (b :: l) c = -1 := by simp [Lib.indexByte, hb, hn]
        rw [this, hn, if_neg (by decide), if_neg (by decide)]
      · have e : Lib.indexByte (b :: l) c = Lib.indexByte l c + 1 := by simp [Lib.indexByte, hb, hn]
        rw [e, if_pos (by omega), if_pos (by omega)]
        obtain ⟨i, hi⟩ : ∃ i : Nat, Lib.indexByte l c = i := ⟨(Lib.indexByte l c).toNat, by omega⟩
        rw [hi]
        have e1 : ((i : Int) + 1).toNat = i + 1 := by omega
        have e2 : (i : Int).toNat = i := by omega
        rw [e1, e2]
        have e3 : i + 1 + [c].length = (i + [c].length) + 1 := by simp
        rw [e3, List.take_succ_cons, List.drop_succ_cons]
theorem cut1_none (c : UInt8) : ∀ l : List UInt8, c ∉ l → cut1 c l = (l, [], false)
  | [], _ => rfl
  | b :: l, h => by
    simp only [List.mem_cons, not_or] at h
    rw [cut1, if_neg (fun e => h.1 e.symm), cut1_none c l h.2]
theorem cut1_app (c : UInt8) (y : List UInt8) : ∀ x : List UInt8, c ∉ x → cut1 c (x ++ c :: y) = (x, y, true)
  | [], _ => by rw [List.nil_append, cut1, if_pos rfl]
  | b :: x, h => by
    simp only [List.mem_cons, not_or] at h
    rw [List.cons_append, cut1, if_neg (fun e => h.1 e.symm), cut1_app c y x h.2]
theorem cut1_le (c : UInt8) : ∀ l : List UInt8, (cut1 c l).1.length ≤ l.length ∧ (cut1 c l).2.1.length ≤ l.length ∧ (cut1 c l).1.length + (cut1 c l).2.1.length ≤ l.length
  | [] => by simp [cut1]
  | b :: l => by
    have := cut1_le c l
    rw [cut1]
    split
    · simp
    · simp only [List.length_cons]; omega
end Go.Proofs.YteggopolokblhaaDoor.P
