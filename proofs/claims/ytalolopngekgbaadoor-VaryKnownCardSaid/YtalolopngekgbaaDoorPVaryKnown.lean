/- VaryKnown: the chapter's rows. -/
import Derived.Test.YtalolopngekgbaaDoorPBase
import Derived.Test.YtalolopngekgbaaDoorQtollhouselaw16VaryKnown
set_option linter.unusedVariables false
set_option linter.unusedSimpArgs false
namespace Go.Proofs.YtalolopngekgbaaDoor.P
open Go.RowKit Go.Proofs.YtalolopngekgbaaDoorW.PrintWords Go.Proofs.YtalolopngekgbaaDoorW.PrintLast Go.Proofs.YtalolopngekgbaaDoorW.PrintMore
set_option maxRecDepth 100000 in
theorem VaryKnown_row : ∃ k, tollhouselaw16_VaryKnown.f k = some true := ⟨60, by decide +kernel⟩
end Go.Proofs.YtalolopngekgbaaDoor.P
