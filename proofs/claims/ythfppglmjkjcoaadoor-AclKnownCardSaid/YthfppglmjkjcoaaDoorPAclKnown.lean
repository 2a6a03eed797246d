/- Plain law: AclKnown. -/
import Derived.Test.YthfppglmjkjcoaaDoorQtollhouselaw14AclKnown
set_option linter.unusedVariables false
set_option linter.unusedSimpArgs false
namespace Go.Proofs.YthfppglmjkjcoaaDoor.P
open Go.RowKit Go.Proofs.YthfppglmjkjcoaaDoorW.PrintWords Go.Proofs.YthfppglmjkjcoaaDoorW.PrintLast Go.Proofs.YthfppglmjkjcoaaDoorW.PrintMore
set_option maxRecDepth 100000 in
theorem AclKnown_told : tollhouselaw14_AclKnown.f 200 = some true := by decide +kernel
theorem AclKnown_true : ∃ k, tollhouselaw14_AclKnown.f k = some true := ⟨200, AclKnown_told⟩
end Go.Proofs.YthfppglmjkjcoaaDoor.P
