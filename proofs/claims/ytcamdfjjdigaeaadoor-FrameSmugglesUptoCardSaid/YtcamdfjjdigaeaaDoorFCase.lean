/- A witness world's table unicode.CaseRanges, by the kit's law, not by the kernel's run; ahead of the last variable on the list. -/
import Derived.Test.YtcamdfjjdigaeaaDoorShelf
import Derived.Lib.LaidCaseMet
import Derived.PinnedBridge
set_option linter.unusedVariables false
set_option linter.unusedSimpArgs false
namespace Go.Proofs.YtcamdfjjdigaeaaDoor.P
open Go.RowKit Go.Shelf Go.Lib Go.Proofs
def caseRen : Ren := ⟨Tryd.lays274_ren.f, Tryd.lays274_ren.t, fun | 13 => 1 | n => n⟩
theorem caseLays : Lays.n274 Tryd.prog caseRen := { Tryd.lays274 with }
theorem caseExtra : CaseExtra Tryd.prog caseRen := ⟨by kernel_rfl, by kernel_rfl, by kernel_rfl, by kernel_rfl, by kernel_rfl, by kernel_rfl⟩
theorem caseT206 : Tryd.prog.underlying (caseRen.t 206) = some (.array 3 (caseRen.t 21)) := by kernel_rfl
theorem laidVars_swap {P : Program} {w : World} {a b : String × DataW Unit} : ∀ {l : List (String × DataW Unit)} {ps : List MemPlace}, DataW.LaidVars P w (l ++ [a, b]) ps → ∃ qs, DataW.LaidVars P w (l ++ [b, a]) qs ∧ qs.Perm ps
  | [], ps, h => by
    obtain ⟨n1, d1⟩ := a
    obtain ⟨n2, d2⟩ := b
    obtain ⟨g, t, cs, fuel, p, q, h1, h2, h3, h4, h5, rfl⟩ := h
    obtain ⟨g', t', cs', fuel', p', q', k1, k2, k3, k4, k5, rfl⟩ := h5
    have hq : q' = [] := k5
    subst hq
    refine ⟨_, ⟨g', t', cs', fuel', p', _, k1, k2, k3, k4, ⟨g, t, cs, fuel, p, [], h1, h2, h3, h4, rfl, rfl⟩, rfl⟩, ?_⟩
    rw [List.append_nil, List.append_nil]
    exact List.perm_append_comm
  | (n, d) :: l, ps, h => by
    obtain ⟨g, t, cs, fuel, p, q, h1, h2, h3, h4, h5, rfl⟩ := h
    obtain ⟨qs, k1, k2⟩ := laidVars_swap h5
    exact ⟨_, ⟨g, t, cs, fuel, p, qs, h1, h2, h3, h4, k1, rfl⟩, k2.append_left _⟩
theorem laidMet_swap {P : Program} {w : World} {l : List (String × DataW Unit)} {a b : String × DataW Unit} (h : laidMet P (l ++ [a, b]) w) : laidMet P (l ++ [b, a]) w := by
  obtain ⟨ps, h1, h2, h3⟩ := h
  obtain ⟨qs, k1, k2⟩ := laidVars_swap h1
  exact ⟨qs, k1, k2.nodup_iff.2 h2, fun b off hb => h3 b off (k2.mem_iff.1 hb)⟩
theorem laid_case {w : World} {l : List (String × DataW Unit)} {f : String × DataW Unit} (fuel : Nat)
    (h : (DataW.laidRun Tryd.prog w fuel ((l ++ [f]).map (·.1))).map (·.1) = some (l ++ [f]))
    (hn : (DataW.laidRun Tryd.prog w fuel ((l ++ [f]).map (·.1))).map (fun x => nodupB (x.2.map MemPlace.codeOf)) = some true)
    (hr : (DataW.laidRun Tryd.prog w fuel ((l ++ [f]).map (·.1))).map (fun x => laidRowsB Tryd.prog w x.2) = some true)
    (R : Nat) (t : TypeId) (hgR : 1 ≠ R)
    (hoff : (DataW.laidRun Tryd.prog w fuel ((l ++ [f]).map (·.1))).map (fun x => x.2.all fun p => p.block != 1 && p.block != R) = some true)
    (hvar : w.heap[(1 : Nat)]? = some (.cells #[.slice (some ⟨R, 0, none⟩) caseA.size caseA.size] (caseRen.t 162) (0, 0)))
    (hblk : w.heap[R]? = some (.cells caseCells5 t (0, 0))) : laidMet Tryd.prog (l ++ [("unicode.CaseRanges", Pinned.caseRanges), f]) w := by
  rw [Pinned.caseRanges_eq]
  refine laidMet_swap ?_
  have := laidMet_with_case caseLays caseT206 caseExtra (w := w) (l := l ++ [f]) fuel h hn hr R t hgR hoff hvar hblk
  rw [List.append_assoc] at this
  exact this
end Go.Proofs.YtcamdfjjdigaeaaDoor.P
