/- What the search's variable holds, out of the world's shape. -/
import Derived.Test.YtegdblnalpfndaaDoorFTab
import Derived.Test.YtegdblnalpfndaaDoorShelf
set_option linter.unusedVariables false
set_option linter.unusedSimpArgs false
namespace Go.Proofs.YtegdblnalpfndaaDoor.P
open Go.RowKit Go.Proofs.YtegdblnalpfndaaDoorW.PrintWords Go.Proofs.YtegdblnalpfndaaDoorW.PrintLast Go.Proofs.YtegdblnalpfndaaDoorW.PrintMore
theorem tab_of_shaped (W : World) (h : W.ShapedOpen Tryd.prog) : Tab W := Tryd.laysM143.s1_3 W h
end Go.Proofs.YtegdblnalpfndaaDoor.P
