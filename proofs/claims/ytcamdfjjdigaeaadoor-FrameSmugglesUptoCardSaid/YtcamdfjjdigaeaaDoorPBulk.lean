/- A bulk's two spellings. -/
import Derived.Test.YtcamdfjjdigaeaaDoorFBulkA
import Derived.Test.YtcamdfjjdigaeaaDoorFOpen
set_option linter.unusedVariables false
set_option linter.unusedSimpArgs false
namespace Go.Proofs.YtcamdfjjdigaeaaDoor.P
open Go.RowKit Go.Proofs.YtcamdfjjdigaeaaDoorW.PrintWords Go.Proofs.YtcamdfjjdigaeaaDoorW.PrintLast Go.Proofs.YtcamdfjjdigaeaaDoorW.PrintMore
theorem bulkFs_L' (l : List S34) : bulkL l ≤ bulkFs l := by
  induction l with
  | nil => simp [bulkL, bulkFs]
  | cons x r ih =>
    rw [bulkL_cons, show bulkFs (x :: r) = bulkF x + bulkFs r by simp [bulkFs]]
    unfold bulkF
    omega
end Go.Proofs.YtcamdfjjdigaeaaDoor.P
