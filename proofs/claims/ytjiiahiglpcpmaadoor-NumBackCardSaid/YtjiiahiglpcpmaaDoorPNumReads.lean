/- Plain law: NumReads: what a text says is the document's, to both bases. -/
import Derived.Test.YtjiiahiglpcpmaaDoorPRef03
import Derived.Test.YtjiiahiglpcpmaaDoorQtollhouselaw03NumReads
set_option linter.unusedVariables false
set_option linter.unusedSimpArgs false
namespace Go.Proofs.YtjiiahiglpcpmaaDoor.P
open Go.RowKit Go.Proofs.YtjiiahiglpcpmaaDoorW.PrintWords Go.Proofs.YtjiiahiglpcpmaaDoorW.PrintLast Go.Proofs.YtjiiahiglpcpmaaDoorW.PrintMore

theorem awake03 : tollhouselaw03_awake.f = some true := by
  unfold tollhouselaw03_awake.f num_Decimal.f num_Hex.f numB
  simp only [ByteArray.toList_eq]
  decide +kernel
theorem hexDigit_fin : ∀ n : Fin 256, tollhouseref03_digit.f 10 ((n.val : Nat) : Int) 16 = some (hexW ((n.val : Nat) : Int)) := by decide +kernel
theorem hexDigit (c : Int) (h0 : 0 ≤ c) (h1 : c ≤ 255) : Ev (fun k => tollhouseref03_digit.f k c 16) (hexW c) := by
  have := hexDigit_fin ⟨c.toNat, by omega⟩
  simp only [Int.toNat_of_nonneg h0] at this
  exact Ev.of (fun k => tollhouseref03_digit.mono _ _ k) this
theorem refHex_ok (s : ByteArray) (hs : s.size < 140737488355328) : Ev (fun k => tollhouseref03_Hex.f k s) (numB 16 hexW s) := by
  unfold tollhouseref03_Hex.f
  exact Ev.bind (refRead_ok 16 (.inr rfl) hexW hexOk (fun c h0 h1 => by unfold hexW; repeat' split <;> omega) hexDigit s hs) (Ev.now _)
theorem NumReads_true (s : ByteArray) (w0 : s.size ≤ 140737488351232) (hB : s.size ≤ 1048576) : ∃ k, tollhouselaw03_NumReads.f k s = some true := by
  refine Ev.rounds (g := fun k => tollhouselaw03_NumReads.f k s) ?_
  unfold tollhouselaw03_NumReads.f
  have hd : num_Decimal.f s = some (numB 10 decW s) := by unfold num_Decimal.f; rw [if_pos (by omega)]
  have hh : num_Hex.f s = some (numB 16 hexW s) := by unfold num_Hex.f; rw [if_pos (by omega)]
  refine Ev.congr (fun k => by rw [hd, Option.bind_some]) (Ev.bind (refDecimal_ok s (by omega)) ?_)
  refine Ev.congr (fun k => by rw [hh, Option.bind_some]) (Ev.bind (refHex_ok s (by omega)) ?_)
  refine Ev.congr (fun k => by rw [awake03, Option.bind_some, if_pos rfl, if_pos rfl, if_pos rfl, if_pos rfl, beq_self_eq_true]) (Ev.now _)
end Go.Proofs.YtjiiahiglpcpmaaDoor.P
