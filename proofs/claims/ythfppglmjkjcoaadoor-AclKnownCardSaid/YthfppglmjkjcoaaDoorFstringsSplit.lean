/- strings.Split at a separator of one byte. -/
import Derived.Test.YthfppglmjkjcoaaDoorFTab
import Derived.Test.YthfppglmjkjcoaaDoorShelf
import Derived.Test.YthfppglmjkjcoaaDoorPSplit
set_option linter.unusedVariables false
set_option linter.unusedSimpArgs false
namespace Go.Proofs.YthfppglmjkjcoaaDoor.P
open Go.RowKit Go.Proofs.YthfppglmjkjcoaaDoorW.PrintWords Go.Proofs.YthfppglmjkjcoaaDoorW.PrintLast Go.Proofs.YthfppglmjkjcoaaDoorW.PrintMore

/-- A new row of texts. -/
theorem R_texts (w : World) (l : List ByteArray) (hl : l.length ≤ maxLen) : Kd.R Kd.string 9 (w.alloc (.cells (l.map Value.string).toArray 9 (0, 0))) w.heap.size (fun _ => True) (.slice (some ⟨w.heap.size, 0, none⟩) l.length l.length) l := by
  refine Kd.R_of_own ?_ (fun _ _ => trivial)
  refine ⟨by rw [encs_length, Nat.mul_one], .inr ⟨w.heap.size, l.length, (l.map Value.string).toArray, rfl, Nat.le_refl _, blk_new w _, Nat.le_refl _, hl, by simp, ?_⟩⟩
  rw [Nat.mul_one]
  show ((l.map Value.string).toArray.toList).take l.length = l.map Value.string
  rw [List.take_of_length_le (by simp)]
def strings_Split.f (a0 a1 : ByteArray) : Option (List ByteArray) := if a0.size ≤ 1073741824 ∧ a1.size = 1 then some (spnB (a1.get! 0) a0.data.toList.length a0) else none
theorem strings_Split.calls (a0 a1 : ByteArray) (r : List ByteArray) (w : World) (hT : Tab w) (h : strings_Split.f a0 a1 = some r) :
    Calls Tryd.prog 28 #[.string a0, .string a1] w fun e w' => ∃ v0_ : Value, e = .returned (v0_) ∧ Kd.R Kd.string 9 w' w.heap.size (fun _ => True) v0_ r ∧ Below w.heap.size w w' := by
  unfold strings_Split.f at h
  split at h
  · rename_i hc
    obtain ⟨c, rfl⟩ := Lib.one_byte a1 hc.2
    have hr := Option.some.inj h
    have e0 : (⟨#[c]⟩ : ByteArray).get! 0 = c := rfl
    rw [e0] at hr
    obtain ⟨m, hm⟩ := hT.2.1
    refine (Tryd.strings_Split a0 ⟨#[c]⟩ m w (by omega) hm (Nat.le_refl _)).mono ?_
    rintro e w' ⟨rfl, rfl⟩
    rw [spnB_all, hr, ← spnB_len, hr]
    refine ⟨_, rfl, R_texts w r ?_, below_alloc (Below.refl _ _) _⟩
    rw [← hr, spnB_len]
    have h1 := Lib.countB_le ⟨#[c]⟩ (Nat.le_refl _) a0.size a0 (Nat.le_refl _)
    have h2 : maxLen = 9223372036854775807 := rfl
    omega
  · exact absurd h (by simp)
end Go.Proofs.YthfppglmjkjcoaaDoor.P
