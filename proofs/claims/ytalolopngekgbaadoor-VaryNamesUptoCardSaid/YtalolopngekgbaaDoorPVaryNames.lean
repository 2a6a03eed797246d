/- VaryNames: true for all fields. -/
import Derived.Test.YtalolopngekgbaaDoorPNames16
import Derived.Test.YtalolopngekgbaaDoorPwakes16
import Derived.Test.YtalolopngekgbaaDoorFOpen
import Derived.Test.YtalolopngekgbaaDoorQtollhouselaw16VaryNames
set_option linter.unusedVariables false
set_option linter.unusedSimpArgs false
namespace Go.Proofs.YtalolopngekgbaaDoor.P
open Go.RowKit Go.Proofs.YtalolopngekgbaaDoorW.PrintWords Go.Proofs.YtalolopngekgbaaDoorW.PrintLast Go.Proofs.YtalolopngekgbaaDoorW.PrintMore

theorem VaryNames_row (l : List S32) (hl : l.length * 32 ≤ 140737488351232) (hy : ∀ x ∈ l, x.f0.size ≤ 140737488351232 ∧ x.f1.size ≤ 140737488351232) (hB : bulkFs l ≤ 1048576) :
    ∃ k, tollhouselaw16_VaryNames.f k l = some true := by
  have hb := bulkFs_L l
  have hll := bulkL_len l
  refine Ev.rounds (g := fun k => tollhouselaw16_VaryNames.f k l) ?_
  refine Ev.congr (f := fun k => (tollhouseref16_Names.f k l).bind fun bt197 => (tollhouseref02_Equal.f k (namesB (elemsB l varyS)).1 bt197.1).bind fun t201 => (if t201 = true then (if ((namesB (elemsB l varyS)).2 == bt197.2) = true then ((tollhouseref16_Same.f k l l).bind fun t202 => (if t202 = true then ((tollhouselaw16_wakes.f k).bind fun t203 => (some t203)) else (some false))) else (some false)) else (some false))) (fun k => ?_) ?_
  · unfold tollhouselaw16_VaryNames.f
    rw [if_pos (by simp; omega), Option.bind_some, List.nil_append, names_ok l (by omega), Option.bind_some]
  · have hnl := namesB_len (elemsB l varyS)
    have hel := elemsB_length l varyS
    refine Ev.bind (refNames_ok l (by omega)) (Ev.bind (refEqual_ok _ _ (by omega)) ?_)
    rw [decide_eq_true rfl]
    refine ev_ifL (fun _ => ?_) (fun h => absurd rfl h)
    refine ev_ifL (fun _ => ?_) (fun h => absurd (by simp) h)
    refine Ev.bind (refSame16_ok _ _ (by omega)) ?_
    rw [decide_eq_true rfl]
    refine ev_ifL (fun _ => ?_) (fun h => absurd rfl h)
    exact Ev.bind wakes16_ev (Ev.now _)
end Go.Proofs.YtalolopngekgbaaDoor.P
