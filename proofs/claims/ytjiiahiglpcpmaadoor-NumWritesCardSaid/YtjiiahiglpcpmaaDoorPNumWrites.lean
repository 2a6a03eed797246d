/- Plain law: NumWrites: what a number is written as is the document's. -/
import Derived.Test.YtjiiahiglpcpmaaDoorPNumReads
import Derived.Test.YtjiiahiglpcpmaaDoorQtollhouselaw03NumWrites
set_option linter.unusedVariables false
set_option linter.unusedSimpArgs false
namespace Go.Proofs.YtjiiahiglpcpmaaDoor.P
open Go.RowKit Go.Proofs.YtjiiahiglpcpmaaDoorW.PrintWords Go.Proofs.YtjiiahiglpcpmaaDoorW.PrintLast Go.Proofs.YtjiiahiglpcpmaaDoorW.PrintMore

theorem numWrite_eq (n : Int) (h0 : 0 ≤ n) (h1 : n < 18446744073709551616) (B : Int) (hB : B = 10 ∨ B = 16) : num_write.f n B = tollhouseref03_write.f n B := by
  unfold num_write.f tollhouseref03_write.f fmtUint.f
  rw [if_pos (show 0 ≤ n ∧ (B = 10 ∨ B = 16) from ⟨h0, hB⟩), if_pos (show 0 ≤ n ∧ n < 18446744073709551616 from ⟨h0, h1⟩)]
  by_cases hc : n > 9007199254740991
  · rw [if_pos hc, if_pos hc]
  · rw [if_neg hc, if_neg hc]
    rcases hB with rfl | rfl
    · rw [if_pos rfl]; rfl
    · rw [if_neg (by decide), if_pos rfl]; rfl
theorem refWrite_some (n : Int) (h0 : 0 ≤ n) (B : Int) (hB : B = 10 ∨ B = 16) : ∃ r, tollhouseref03_write.f n B = some r := by
  unfold tollhouseref03_write.f
  rw [if_pos (show 0 ≤ n ∧ (B = 10 ∨ B = 16) from ⟨h0, hB⟩)]
  split <;> exact ⟨_, rfl⟩
theorem NumWrites_true (n : Int) (w0 : (Lit.int .u64 n).wf = true) : tollhouselaw03_NumWrites.f n = some true := by
  have hw : 0 ≤ n ∧ n < 18446744073709551616 := by
    simp [Lit.wf, IntKind.min, IntKind.max, IntKind.signed, IntKind.bits] at w0
    omega
  unfold tollhouselaw03_NumWrites.f num_Text.f num_HexText.f tollhouseref03_Text.f tollhouseref03_HexText.f
  rw [numWrite_eq n hw.1 hw.2 10 (.inl rfl), numWrite_eq n hw.1 hw.2 16 (.inr rfl)]
  obtain ⟨r, hr⟩ := refWrite_some n hw.1 10 (.inl rfl)
  obtain ⟨t, ht⟩ := refWrite_some n hw.1 16 (.inr rfl)
  rw [hr, ht, awake03]
  simp only [Option.bind_some, if_true, beq_self_eq_true]
end Go.Proofs.YtjiiahiglpcpmaaDoor.P
