/- Plain law: AuthConfigs. -/
import Derived.Test.YtepljhleaohbcaaGreatDoorPTenant
import Derived.Test.YtepljhleaohbcaaGreatDoorPAuthHolds
import Derived.Test.YtepljhleaohbcaaGreatDoorQtollhouselaw15AuthConfigs
set_option linter.unusedVariables false
set_option linter.unusedSimpArgs false
namespace Go.Proofs.YtepljhleaohbcaaGreatDoor.P
open Go.RowKit Go.Proofs.YtepljhleaohbcaaGreatDoorW.PrintWords Go.Proofs.YtepljhleaohbcaaGreatDoorW.PrintLast Go.Proofs.YtepljhleaohbcaaGreatDoorW.PrintMore

theorem AuthConfigs_true (l : List S27) (s t : Int) (x : S27) (a2 : ByteArray) (hr0 : (∀ x ∈ l, TenLe x 1048576) ∧ l.length ≤ 1048576) (hr1 : TenLe x 1048576) (w2 : a2.size ≤ 140737488351232) (hB : a2.size ≤ 1048576) : ∃ k, tollhouselaw15_AuthConfigs.f k l s t x.f0 x.f1 x.f2 x.f3 x.f4 x.f5 x.f6 x.f7 x.f8 a2 = some true := by
  refine Ev.rounds (g := fun k => tollhouselaw15_AuthConfigs.f k l s t x.f0 x.f1 x.f2 x.f3 x.f4 x.f5 x.f6 x.f7 x.f8 a2) ?_
  obtain ⟨u, rfl⟩ := mkOf a2
  rw [mkB_size] at hB
  unfold tollhouselaw15_AuthConfigs.f
  refine Ev.congr (fun k => by rw [config_code l s t hr0.2 hr0.1, Option.bind_some]) ?_
  refine Ev.bind (config_ref l s t hr0.2 hr0.1) ?_
  refine Ev.congr (fun k => if_pos (beq_self_eq_true _)) ?_
  refine Ev.congr (fun k => by rw [ten_code x.f0 x.f1 x.f2 x.f3 x.f4 x.f5 x.f6 x.f7 x.f8 hr1.1 hr1.2.1 hr1.2.2, Option.bind_some]) ?_
  refine Ev.bind (ten_ref x.f0 x.f1 x.f2 x.f3 x.f4 x.f5 x.f6 x.f7 x.f8 hr1.1 hr1.2.1 hr1.2.2) ?_
  refine Ev.congr (fun k => if_pos (beq_self_eq_true _)) ?_
  refine Ev.congr (fun k => by rw [may_code u (by omega), Option.bind_some]) ?_
  refine Ev.bind (refMay15_ok u (by omega)) ?_
  refine Ev.congr (fun k => if_pos (beq_self_eq_true _)) (Ev.bind wakesEv15 (Ev.now _))
end Go.Proofs.YtepljhleaohbcaaGreatDoor.P
