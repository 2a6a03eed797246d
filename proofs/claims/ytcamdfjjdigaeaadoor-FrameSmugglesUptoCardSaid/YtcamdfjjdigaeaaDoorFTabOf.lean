/- What the search's variable holds, out of the world's shape. -/
import Derived.Test.YtcamdfjjdigaeaaDoorFTab
import Derived.Test.YtcamdfjjdigaeaaDoorShelf
set_option linter.unusedVariables false
set_option linter.unusedSimpArgs false
namespace Go.Proofs.YtcamdfjjdigaeaaDoor.P
open Go.RowKit Go.Proofs.YtcamdfjjdigaeaaDoorW.PrintWords Go.Proofs.YtcamdfjjdigaeaaDoorW.PrintLast Go.Proofs.YtcamdfjjdigaeaaDoorW.PrintMore
theorem tab_of_shaped (W : World) (h : W.ShapedOpen Tryd.prog) : Tab W := Tryd.laysM143.s1_3 W h
end Go.Proofs.YtcamdfjjdigaeaaDoor.P
