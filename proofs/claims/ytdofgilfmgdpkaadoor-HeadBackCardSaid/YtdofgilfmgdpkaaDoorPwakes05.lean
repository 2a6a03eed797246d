/- The chapter's rows hold (layer 5). -/
import Derived.Test.YtdofgilfmgdpkaaDoorQtollhouselaw05wakes
set_option linter.unusedVariables false
set_option linter.unusedSimpArgs false
namespace Go.Proofs.YtdofgilfmgdpkaaDoor.P
open Go.RowKit Go.Proofs.YtdofgilfmgdpkaaDoorW.PrintWords Go.Proofs.YtdofgilfmgdpkaaDoorW.PrintLast Go.Proofs.YtdofgilfmgdpkaaDoorW.PrintMore
set_option maxRecDepth 100000 in
theorem wakes05_true : tollhouselaw05_wakes.f 60 = some true := by decide +kernel
end Go.Proofs.YtdofgilfmgdpkaaDoor.P
