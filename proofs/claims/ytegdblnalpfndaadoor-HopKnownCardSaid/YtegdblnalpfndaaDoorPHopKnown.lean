/- HopKnown: the plain law. -/
import Derived.Test.YtegdblnalpfndaaDoorQtollhouselaw11HopKnown
set_option linter.unusedVariables false
set_option linter.unusedSimpArgs false
namespace Go.Proofs.YtegdblnalpfndaaDoor.P
open Go.RowKit Go.Proofs.YtegdblnalpfndaaDoorW.PrintWords Go.Proofs.YtegdblnalpfndaaDoorW.PrintLast Go.Proofs.YtegdblnalpfndaaDoorW.PrintMore
set_option maxRecDepth 100000 in
theorem HopKnown_true : ∃ k, tollhouselaw11_HopKnown.f k = some true := ⟨60, by decide +kernel⟩
end Go.Proofs.YtegdblnalpfndaaDoor.P
