/- Runes of texts: the bytes behind a rune's first. -/
import Derived.Test.YteggopolokblhaaDoorQ0
import Derived.Laws.RangeAny
import Derived.Laws.RangeString
set_option linter.unusedVariables false
set_option linter.unusedSimpArgs false
namespace Go.Proofs.YteggopolokblhaaDoor.P
open Go.RowKit Go.Proofs.YteggopolokblhaaDoorW.PrintWords Go.Proofs.YteggopolokblhaaDoorW.PrintLast Go.Proofs.YteggopolokblhaaDoorW.PrintMore

theorem get_atD (s : ByteArray) (pos : Nat) (h : pos < s.size) : s.get! pos = s[pos]'h := by
  simp [ByteArray.get!, getElem!_pos, h]
  rfl
/-- The bytes behind a rune's first are none of ASCII, and stand in the text. -/
theorem dec_tail (s : ByteArray) (pos k : Nat) (h1 : 1 ≤ k) (hk : k < (Utf8.decode s pos).2) : pos + k < s.size ∧ 128 ≤ (s.get! (pos + k)).toNat := by
  simp only [Utf8.decode] at hk
  have hk' : k = 1 ∨ k = 2 ∨ k = 3 ∨ 4 ≤ k := by omega
  repeat' split at hk
  all_goals simp_all
  all_goals rcases hk' with rfl | rfl | rfl | hk'
  all_goals first | (exfalso; omega) | (simp_all; omega)
theorem dec_width (s : ByteArray) (pos : Nat) (h : pos < s.size) : 1 ≤ (Utf8.decode s pos).2 ∧ pos + (Utf8.decode s pos).2 ≤ s.size := by
  have h1 : 1 ≤ (Utf8.decode s pos).2 := by
    by_cases ha : (s[pos]'h).toNat < 128
    · rw [decode_ascii s pos h ha]; exact Nat.le_refl _
    · exact (decode_high s pos h (by omega)).2
  refine ⟨h1, ?_⟩
  by_cases h2 : (Utf8.decode s pos).2 = 1
  · omega
  · have := (dec_tail s pos ((Utf8.decode s pos).2 - 1) (by omega) (by omega)).1
    omega
end Go.Proofs.YteggopolokblhaaDoor.P
