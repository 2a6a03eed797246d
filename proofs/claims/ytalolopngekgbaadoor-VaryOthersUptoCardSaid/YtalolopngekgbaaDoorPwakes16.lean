/- The chapter's rows hold (layer 16). -/
import Derived.Test.YtalolopngekgbaaDoorPBase
import Derived.Test.YtalolopngekgbaaDoorFOpen
import Derived.Test.YtalolopngekgbaaDoorFBulk
import Derived.Test.YtalolopngekgbaaDoorQtollhouselaw16wakes
set_option linter.unusedVariables false
set_option linter.unusedSimpArgs false
namespace Go.Proofs.YtalolopngekgbaaDoor.P
open Go.RowKit Go.Proofs.YtalolopngekgbaaDoorW.PrintWords Go.Proofs.YtalolopngekgbaaDoorW.PrintLast Go.Proofs.YtalolopngekgbaaDoorW.PrintMore
theorem wakes16_true : tollhouselaw16_wakes.f 60 = some true := tollhouselaw16_wakes.told
theorem wakes16_ev : Ev (fun k => tollhouselaw16_wakes.f k) true := Ev.of (fun k => tollhouselaw16_wakes.mono k) wakes16_true
theorem bulkFs_L (l : List S32) : bulkL l ≤ bulkFs l := by
  induction l with
  | nil => simp [bulkL, bulkFs]
  | cons x r ih =>
    rw [bulkL_cons, show bulkFs (x :: r) = bulkF x + bulkFs r by simp [bulkFs]]
    unfold bulkF
    omega
end Go.Proofs.YtalolopngekgbaaDoor.P
