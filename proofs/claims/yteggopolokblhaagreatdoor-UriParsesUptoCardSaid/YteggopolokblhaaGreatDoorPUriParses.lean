/- The laws UriParses and UriTexts, plain: UriParses. -/
import Derived.Test.YteggopolokblhaaGreatDoorPUriRefs
import Derived.Test.YteggopolokblhaaGreatDoorQtollhouselaw10UriParses
set_option linter.unusedVariables false
set_option linter.unusedSimpArgs false
namespace Go.Proofs.YteggopolokblhaaGreatDoor.P
open Go.RowKit Go.Proofs.YteggopolokblhaaGreatDoorW.PrintWords Go.Proofs.YteggopolokblhaaGreatDoorW.PrintLast Go.Proofs.YteggopolokblhaaGreatDoorW.PrintMore

theorem wakes_okP : Ev (fun k => tollhouselaw10_wakes.f k) true := Ev.of (fun k => tollhouselaw10_wakes.mono k) tollhouselaw10_wakes.told
theorem wakes_endP : Ev (fun k => (tollhouselaw10_wakes.f k).bind fun t => some t) true := Ev.bind wakes_okP (Ev.now _)
theorem UriParses_true (a : ByteArray) (_ : a.size ≤ 140737488351232) (hB : a.size ≤ 1048576) : ∃ k, tollhouselaw10_UriParses.f k a = some true := by
  obtain ⟨s, rfl⟩ := mkOf a
  rw [mkB_size] at hB
  refine Ev.rounds (g := fun k => tollhouselaw10_UriParses.f k (mkB s)) ?_
  unfold tollhouselaw10_UriParses.f
  refine Ev.bind (parse_ok s (by omega)) ?_
  refine Ev.bind (refParse_ok s hB) ?_
  refine Ev.bind (authority_ok s (by omega)) ?_
  refine Ev.bind (refAuthority_ok s hB) ?_
  generalize parseL s = x
  generalize authorityL s = y
  refine Ev.congr (fun k => if_pos (by simp)) ?_
  refine Ev.congr (fun k => if_pos rfl) ?_
  refine Ev.congr (fun k => if_pos rfl) ?_
  refine Ev.congr (fun k => if_pos rfl) ?_
  refine Ev.congr (fun k => if_pos rfl) ?_
  exact wakes_endP
end Go.Proofs.YteggopolokblhaaGreatDoor.P
