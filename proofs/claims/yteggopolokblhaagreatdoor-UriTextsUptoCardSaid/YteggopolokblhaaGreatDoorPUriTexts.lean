/- The law UriTexts, plain. -/
import Derived.Test.YteggopolokblhaaGreatDoorPUriRefs
import Derived.Test.YteggopolokblhaaGreatDoorQtollhouselaw10UriTexts
set_option linter.unusedVariables false
set_option linter.unusedSimpArgs false
namespace Go.Proofs.YteggopolokblhaaGreatDoor.P
open Go.RowKit Go.Proofs.YteggopolokblhaaGreatDoorW.PrintWords Go.Proofs.YteggopolokblhaaGreatDoorW.PrintLast Go.Proofs.YteggopolokblhaaGreatDoorW.PrintMore

theorem wakes_okT : Ev (fun k => tollhouselaw10_wakes.f k) true := Ev.of (fun k => tollhouselaw10_wakes.mono k) tollhouselaw10_wakes.told
theorem wakes_endT : Ev (fun k => (tollhouselaw10_wakes.f k).bind fun t => some t) true := Ev.bind wakes_okT (Ev.now _)
theorem UriTexts_true (a : ByteArray) (p : Int) (b : ByteArray) (ref : ByteArray) (_ : a.size ≤ 140737488351232) (_ : (Lit.int .i64 p).wf = true) (_ : b.size ≤ 140737488351232) (_ : ref.size ≤ 140737488351232) (hB : (a.size + b.size) + ref.size ≤ 1048576) : ∃ k, tollhouselaw10_UriTexts.f k a p b ref = some true := by
  obtain ⟨h, rfl⟩ := mkOf a
  obtain ⟨t, rfl⟩ := mkOf b
  obtain ⟨r, rfl⟩ := mkOf ref
  rw [mkB_size, mkB_size, mkB_size] at hB
  refine Ev.rounds (g := fun k => tollhouselaw10_UriTexts.f k (mkB h) p (mkB t) (mkB r)) ?_
  unfold tollhouselaw10_UriTexts.f
  refine Ev.bind (join_ok h t r p (by omega) (by omega) (by omega)) ?_
  refine Ev.bind (refJoin_ok h t r p (by omega) (by omega) (by omega)) ?_
  refine Ev.bind (named_ok h (by omega)) ?_
  refine Ev.bind (namedRef_ok h (by omega)) ?_
  refine Ev.congr (fun k => if_pos (by simp)) ?_
  refine Ev.bind (may_ok h t p (by omega) (by omega)) ?_
  refine Ev.bind (refMay_ok h t p (by omega) (by omega)) ?_
  refine Ev.congr (fun k => if_pos (by simp)) ?_
  refine Ev.bind (text_ok h t p (by omega) (by omega)) ?_
  refine Ev.bind (refText_ok h t p (by omega) (by omega)) ?_
  refine Ev.congr (fun k => if_pos rfl) ?_
  refine Ev.bind (host_ok h t p (by omega) (by omega)) ?_
  refine Ev.bind (refHost_ok h t p (by omega) (by omega)) ?_
  refine Ev.congr (fun k => if_pos rfl) ?_
  generalize joinL h p t r = x
  refine Ev.congr (fun k => if_pos (by simp)) ?_
  refine Ev.congr (fun k => if_pos rfl) ?_
  exact wakes_endT
end Go.Proofs.YteggopolokblhaaGreatDoor.P
