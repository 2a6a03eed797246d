/- The chapter's rows hold (layer 7). -/
import Derived.Test.YtcamdfjjdigaeaaDoorPRef07
import Derived.Test.YtcamdfjjdigaeaaDoorPBulk
import Derived.Test.YtcamdfjjdigaeaaDoorQtollhouselaw07awake
set_option linter.unusedVariables false
set_option linter.unusedSimpArgs false
namespace Go.Proofs.YtcamdfjjdigaeaaDoor.P
open Go.RowKit Go.Proofs.YtcamdfjjdigaeaaDoorW.PrintWords Go.Proofs.YtcamdfjjdigaeaaDoorW.PrintLast Go.Proofs.YtcamdfjjdigaeaaDoorW.PrintMore
set_option maxRecDepth 100000 in
theorem awake07_true : tollhouselaw07_awake.f 60 = some true := by decide +kernel
theorem awake07_ev : Ev (fun k => tollhouselaw07_awake.f k) true := Ev.of (fun k => tollhouselaw07_awake.mono k) awake07_true
end Go.Proofs.YtcamdfjjdigaeaaDoor.P
