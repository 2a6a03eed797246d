/- Plain law: NumKnown: the examples. -/
import Derived.Test.YtjiiahiglpcpmaaDoorPNumReads
import Derived.Test.YtjiiahiglpcpmaaDoorQtollhouselaw03NumKnown
set_option linter.unusedVariables false
set_option linter.unusedSimpArgs false
namespace Go.Proofs.YtjiiahiglpcpmaaDoor.P
open Go.RowKit Go.Proofs.YtjiiahiglpcpmaaDoorW.PrintWords Go.Proofs.YtjiiahiglpcpmaaDoorW.PrintLast Go.Proofs.YtjiiahiglpcpmaaDoorW.PrintMore

theorem NumKnown_true : tollhouselaw03_NumKnown.f = some true := by
  unfold tollhouselaw03_NumKnown.f
  rw [awake03]
  unfold num_Decimal.f num_Hex.f numB
  simp only [ByteArray.toList_eq]
  decide +kernel
end Go.Proofs.YtjiiahiglpcpmaaDoor.P
