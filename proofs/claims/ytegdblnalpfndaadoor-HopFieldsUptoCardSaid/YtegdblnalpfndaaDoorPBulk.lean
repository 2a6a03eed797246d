/- A bulk's two spellings. -/
import Derived.Test.YtegdblnalpfndaaDoorFBulkA
import Derived.Test.YtegdblnalpfndaaDoorFOpen
set_option linter.unusedVariables false
set_option linter.unusedSimpArgs false
namespace Go.Proofs.YtegdblnalpfndaaDoor.P
open Go.RowKit Go.Proofs.YtegdblnalpfndaaDoorW.PrintWords Go.Proofs.YtegdblnalpfndaaDoorW.PrintLast Go.Proofs.YtegdblnalpfndaaDoorW.PrintMore
theorem bulkFs_L' (l : List S32) : bulkL l ≤ bulkFs l := by
  induction l with
  | nil => simp [bulkL, bulkFs]
  | cons x r ih =>
    rw [bulkL_cons, show bulkFs (x :: r) = bulkF x + bulkFs r by simp [bulkFs]]
    unfold bulkF
    omega
end Go.Proofs.YtegdblnalpfndaaDoor.P
