/- The law UriKnown, plain: reckoned. -/
import Derived.Test.YteggopolokblhaaDoorQtollhouselaw10UriKnown
set_option linter.unusedVariables false
set_option linter.unusedSimpArgs false
namespace Go.Proofs.YteggopolokblhaaDoor.P
open Go.RowKit
theorem UriKnown_true : ∃ k, tollhouselaw10_UriKnown.f k = some true := ⟨400, by decide +kernel⟩
end Go.Proofs.YteggopolokblhaaDoor.P
