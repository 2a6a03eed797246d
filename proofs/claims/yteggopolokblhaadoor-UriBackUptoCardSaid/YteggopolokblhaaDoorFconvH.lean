/- '[]byte(s)': new bytes that may be stored into. -/
import Derived.Test.YteggopolokblhaaDoorFReadsB
import Derived.Test.YteggopolokblhaaDoorFtextLower
import Derived.Lib.SlBytesConst
set_option linter.unusedVariables false
set_option linter.unusedSimpArgs false
namespace Go.Proofs.YteggopolokblhaaDoor.P
open Go.RowKit Go.Proofs.YteggopolokblhaaDoorW.PrintWords Go.Proofs.YteggopolokblhaaDoorW.PrintLast Go.Proofs.YteggopolokblhaaDoorW.PrintMore

section
variable {ops : Array Oper} {rest : List Oper} {oi : Oper} {a : Act} {Q : Exit → Act → World → Prop}
theorem conv_hold (N : Tmp) (hd : oi.dst = some N) (hg : oi.guard = none) (x : Operand) (ho : oi.op = .convert 9 29 x) (s : ByteArray) (hx : a.eval x = .string s) (w : World)
    (h : ∀ (B c : Nat) (w' : World), w.heap.size ≤ B → Holding B (bytesOf s) w' → Below w.heap.size w w' → s.size ≤ c → wpList Tryd.prog ops Q rest (a.put (some N) (.slice (some ⟨B, 0, none⟩) s.size c)) w') : wpList Tryd.prog ops Q (oi :: rest) a w := by
  have hk := h w.heap.size (grownCap w s.size 0 5) (Lib.bytesWorld w 5 s) (Nat.le_refl _) (Holding.new w s) (bytes_below (Below.refl _ w) (Nat.le_refl _) 5 s) (grownCap_ge w s.size 0 5)
  have hrun : (execOp a.eval oi).run Tryd.prog w = .ok (.value (.slice (some ⟨w.heap.size, 0, none⟩) s.size (grownCap w s.size 0 5))) (Lib.bytesWorld w 5 s) := by
    unfold execOp
    simp only [ho, hx, Lib.run_convert_string_bytes (P := Tryd.prog) w 9 29 5 s Tryd.underlying9 Tryd.underlying29 Tryd.underlying5, Sem.run_bind, Result.andThen_ok, Sem.run_pure]
  refine wpList_plain hg fun K hK => ?_
  unfold Oper.wp
  rw [hrun]
  exact hK _ _ (hd ▸ hk)
end
end Go.Proofs.YteggopolokblhaaDoor.P
