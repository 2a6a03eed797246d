/- Plain law: AuthHolds. -/
import Derived.Test.YtepljhleaohbcaaGreatDoorPTextR
import Derived.Test.YtepljhleaohbcaaGreatDoorQtollhouselaw15AuthHolds
set_option linter.unusedVariables false
set_option linter.unusedSimpArgs false
namespace Go.Proofs.YtepljhleaohbcaaGreatDoor.P
open Go.RowKit Go.Proofs.YtepljhleaohbcaaGreatDoorW.PrintWords Go.Proofs.YtepljhleaohbcaaGreatDoorW.PrintLast Go.Proofs.YtepljhleaohbcaaGreatDoorW.PrintMore

theorem AuthHolds_true (a0 : ByteArray) (l1 : List S48) (a2 : ByteArray) (w0 : a0.size ≤ 140737488351232) (hl1 : l1.length * 32 ≤ 140737488351232) (hy1 : ∀ x ∈ l1, x.f0.size ≤ 140737488351232 ∧ x.f1.size ≤ 140737488351232) (w2 : a2.size ≤ 140737488351232) (hB : a0.size + bulkFs l1 + a2.size ≤ 1048576) : ∃ k, tollhouselaw15_AuthHolds.f k a0 l1 a2 = some true := by
  refine Ev.rounds (g := fun k => tollhouselaw15_AuthHolds.f k a0 l1 a2) ?_
  obtain ⟨s, rfl⟩ := mkOf a2
  rw [mkB_size] at hB
  have hs : SmallF l1 := small_of (by omega)
  unfold tollhouselaw15_AuthHolds.f
  refine Ev.congr (fun k => by rw [cred_code s (by omega), Option.bind_some]) ?_
  refine Ev.bind (refCred_ok s (by omega)) ?_
  refine Ev.congr (fun k => if_pos rfl) (Ev.congr (fun k => if_pos (beq_self_eq_true _)) ?_)
  have hc : Ev (fun k => auth_Holds.f k a0 l1) (holdsB a0 l1) := ⟨l1.length + 1, fun k hk => holds_code a0 l1 hs k (by omega)⟩
  refine Ev.bind hc (Ev.bind (refHolds_ok a0 l1 hs) (Ev.congr (fun k => if_pos (beq_self_eq_true _)) (Ev.bind wakesEv15 (Ev.now _))))
end Go.Proofs.YtepljhleaohbcaaGreatDoor.P
