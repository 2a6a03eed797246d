/- VarySelects: true for all names and fields. -/
import Derived.Test.YtalolopngekgbaaDoorPNames16
import Derived.Test.YtalolopngekgbaaDoorPwakes16
import Derived.Test.YtalolopngekgbaaDoorFOpenS
import Derived.Test.YtalolopngekgbaaDoorFOpen
import Derived.Test.YtalolopngekgbaaDoorQtollhouselaw16VarySelects
set_option linter.unusedVariables false
set_option linter.unusedSimpArgs false
namespace Go.Proofs.YtalolopngekgbaaDoor.P
open Go.RowKit Go.Proofs.YtalolopngekgbaaDoorW.PrintWords Go.Proofs.YtalolopngekgbaaDoorW.PrintLast Go.Proofs.YtalolopngekgbaaDoorW.PrintMore

theorem vs_l0 (ns : List ByteArray) (l : List S32) (hn : ns.length < 9223372036854775807) (hl : l.length < 9223372036854775807) : ∀ (d i : Nat) (v : List S32), v.length < 9223372036854775807 → v.length - i = d → i ≤ v.length → Ev (fun k => tollhouselaw16_VarySelects.l0 k ns l l ns v true (i : Int)) true := by
  intro d
  induction d with
  | zero =>
    intro i v hv hd hi
    refine Ev.step (f := fun k => (tollhouseref16_Same.f k l l).bind fun t229 => (if t229 = true then ((tollhouseref02_Equal.f k ns ns).bind fun t230 => (if t230 = true then ((tollhouselaw16_wakes.f k).bind fun t231 => (some t231)) else (some false))) else (some false))) (fun k => by rw [tollhouselaw16_VarySelects.l0, if_neg (by omega), if_pos rfl]) ?_
    refine Ev.bind (refSame16_ok _ _ (by omega)) ?_
    rw [decide_eq_true rfl]
    refine ev_ifL (fun _ => ?_) (fun h => absurd rfl h)
    refine Ev.bind (refEqual_ok _ _ (by omega)) ?_
    rw [decide_eq_true rfl]
    refine ev_ifL (fun _ => ?_) (fun h => absurd rfl h)
    exact Ev.bind wakes16_ev (Ev.now _)
  | succ d ih =>
    intro i v hv hd hi
    have hlt : i < v.length := by omega
    exact Ev.step (f := fun k => tollhouselaw16_VarySelects.l0 k ns l l ns (v.set i ⟨⟨#[120]⟩, (rd_T32 v (i : Int)).f1⟩) true ((i + 1 : Nat) : Int)) (fun k => by rw [tollhouselaw16_VarySelects.l0, if_pos (by omega), if_pos (by omega), Int.toNat_natCast, show wrap64 ((i : Int) + 1) = ((i + 1 : Nat) : Int) by unfold wrap64; omega]) (ih (i + 1) _ (by rw [List.length_set]; exact hv) (by rw [List.length_set]; omega) (by rw [List.length_set]; omega))

theorem VarySelects_row (ns : List ByteArray) (l m : List S32) (hn : ns.length * 16 ≤ 140737488351232) (hny : ∀ x ∈ ns, x.size ≤ 140737488351232) (hl : l.length * 32 ≤ 140737488351232) (hy : ∀ x ∈ l, x.f0.size ≤ 140737488351232 ∧ x.f1.size ≤ 140737488351232) (hm : m.length * 32 ≤ 140737488351232) (hmy : ∀ x ∈ m, x.f0.size ≤ 140737488351232 ∧ x.f1.size ≤ 140737488351232) (hB : bulkSs ns + bulkFs l + bulkFs m ≤ 1048576) :
    ∃ k, tollhouselaw16_VarySelects.f k ns l m = some true := by
  have hb := bulkFs_L l
  have hs : sumS ns = bulkSs ns := rfl
  have hsl := selB_len l ns
  have hnl := sumS_len ns
  refine Ev.rounds (g := fun k => tollhouselaw16_VarySelects.f k ns l m) ?_
  refine Ev.congr (f := fun k => (tollhouseref16_Select.f k ns l).bind fun t222 => ((tollhouseref16_Same.f k (selB ns l) t222).bind fun t225 => (if t225 = true then ((vary_Same.f k l m).bind fun t226 => ((tollhouseref16_Same.f k l m).bind fun t227 => (tollhouselaw16_VarySelects.j0 k ns l l ns (selB ns l) (t226 == t227)))) else (tollhouselaw16_VarySelects.j0 k ns l l ns (selB ns l) false)))) (fun k => ?_) ?_
  · unfold tollhouselaw16_VarySelects.f
    rw [if_pos (by simp; omega), Option.bind_some, if_pos (by simp; omega), Option.bind_some, List.nil_append, List.nil_append, select_ok ns l (by omega) (by omega), Option.bind_some]
  · refine Ev.bind (refSelect_ok ns l (by omega) (by omega)) (Ev.bind (refSame16_ok _ _ (by omega)) ?_)
    rw [decide_eq_true rfl]
    refine ev_ifL (fun _ => ?_) (fun h => absurd rfl h)
    refine Ev.bind (same_ok l m (by omega)) (Ev.bind (refSame16_ok l m (by omega)) ?_)
    rw [beq_self_eq_true]
    exact Ev.step (f := fun k => tollhouselaw16_VarySelects.l0 k ns l l ns (selB ns l) true ((0 : Nat) : Int)) (fun k => by rw [tollhouselaw16_VarySelects.j0]; rfl) (vs_l0 ns l (by omega) (by omega) _ 0 (selB ns l) (by omega) rfl (Nat.zero_le _))
end Go.Proofs.YtalolopngekgbaaDoor.P
