/- Rules and tenants lie in memory. -/
import Derived.Test.YtepljhleaohbcaaGreatDoorQ0
set_option linter.unusedVariables false
set_option linter.unusedSimpArgs false
namespace Go.Proofs.YtepljhleaohbcaaGreatDoor.P
open Go.RowKit Go.Proofs.YtepljhleaohbcaaGreatDoorW.PrintWords Go.Proofs.YtepljhleaohbcaaGreatDoorW.PrintLast Go.Proofs.YtepljhleaohbcaaGreatDoorW.PrintMore
theorem heapRule : Kd.Heap k46 := ⟨fun hb h => by
  obtain ⟨A4, c4, rfl, hl, hC⟩ := k46_open h
  exact k46_mk _ _ hl (Kd.heap_string.C hb hC)⟩
theorem heapTenant : Kd.Heap k27 := ⟨fun hb h => by
  obtain ⟨A1, c1, rfl, hl, hC⟩ := k27_open h
  exact k27_mk _ _ hl (heapRule.C hb hC)⟩
end Go.Proofs.YtepljhleaohbcaaGreatDoor.P
