/- text.Same: what it tells. -/
import Derived.Test.YtcamdfjjdigaeaaDoorQtextSame
set_option linter.unusedVariables false
set_option linter.unusedSimpArgs false
namespace Go.Proofs.YtcamdfjjdigaeaaDoor.P
open Go.RowKit Go.Proofs.YtcamdfjjdigaeaaDoorW.PrintWords Go.Proofs.YtcamdfjjdigaeaaDoorW.PrintLast Go.Proofs.YtcamdfjjdigaeaaDoorW.PrintMore

def sameB (a b : ByteArray) : Bool := (lowB a).data.toList == (lowB b).data.toList
def fits63 (s : ByteArray) : Bool := decide (s.size ≤ 9223372036854775807)
theorem sameCalls (a b : ByteArray) (w : World) (ha : fits63 a = true) (hb : fits63 b = true) : Calls Tryd.prog 51 #[.string a, .string b] w fun e w' => e = .returned (.bool (sameB a b)) ∧ Below w.heap.size w w' := by
  refine text_Same.calls a b _ w ?_
  unfold fits63 at ha hb
  simp only [text_Same.f, text_Lower.f, if_pos (of_decide_eq_true ha), if_pos (of_decide_eq_true hb), Option.bind_some, ByteArray.toList_eq, sameB]
end Go.Proofs.YtcamdfjjdigaeaaDoor.P
