/- HeadFields: true for all fields, names, values. -/
import Derived.Test.YtdofgilfmgdpkaaDoorPRef05
import Derived.Test.YtdofgilfmgdpkaaDoorPRefSame
import Derived.Test.YtdofgilfmgdpkaaDoorPwakes05
import Derived.Test.YtdofgilfmgdpkaaDoorQtollhouselaw05HeadFields
set_option linter.unusedVariables false
set_option linter.unusedSimpArgs false
namespace Go.Proofs.YtdofgilfmgdpkaaDoor.P
open Go.RowKit Go.Proofs.YtdofgilfmgdpkaaDoorW.PrintWords Go.Proofs.YtdofgilfmgdpkaaDoorW.PrintLast Go.Proofs.YtdofgilfmgdpkaaDoorW.PrintMore

theorem wakes_evF : Ev (fun k => tollhouselaw05_wakes.f k) true := Ev.of (fun k => tollhouselaw05_wakes.mono k) wakes05_true
theorem refSame_evF (a b : List S45) (hl : a.length < 9223372036854775807) : Ev (fun k => tollhouseref05_Same.f k a b) (decide (a = b)) := ⟨a.length + 1, fun k hk => refSame_ok k a b hl (by omega)⟩
theorem hf_l1 (l : List S45) (hl : l.length < 9223372036854775807) : ∀ (d i : Nat) (w : List S45), w.length < 9223372036854775807 → w.length - i = d → i ≤ w.length → Ev (fun k => tollhouselaw05_HeadFields.l1 k l l w true (i : Int)) true := by
  intro d
  induction d with
  | zero =>
    intro i w hw hd hi
    refine Ev.step (f := fun k => (tollhouseref05_Same.f k l l).bind fun t322 => if t322 = true then (tollhouselaw05_wakes.f k).bind fun t323 => some t323 else some false) (fun k => by rw [tollhouselaw05_HeadFields.l1, if_neg (by omega), if_pos rfl]) ?_
    refine Ev.bind (refSame_evF l l hl) ?_
    simp only [decide_true, if_true]
    exact Ev.bind wakes_evF (Ev.now _)
  | succ d ih =>
    intro i w hw hd hi
    have hlt : i < w.length := by omega
    exact Ev.step (f := fun k => tollhouselaw05_HeadFields.l1 k l l (w.set i ⟨(rd_T45 w (i : Int)).f0, ⟨#[120]⟩⟩) true ((i + 1 : Nat) : Int)) (fun k => by rw [tollhouselaw05_HeadFields.l1, if_pos (by omega), if_pos (by omega), Int.toNat_natCast, show wrap64 ((i : Int) + 1) = ((i + 1 : Nat) : Int) by unfold wrap64; omega]) (ih (i + 1) _ (by rw [List.length_set]; exact hw) (by rw [List.length_set]; omega) (by rw [List.length_set]; omega))
theorem hf_l0 (l w : List S45) (hl : l.length < 9223372036854775807) (hw : w.length < 9223372036854775807) : ∀ (d i : Nat) (v : List S45), v.length < 9223372036854775807 → v.length - i = d → i ≤ v.length → Ev (fun k => tollhouselaw05_HeadFields.l0 k l l v w true (i : Int)) true := by
  intro d
  induction d with
  | zero =>
    intro i v hv hd hi
    exact Ev.step (f := fun k => tollhouselaw05_HeadFields.l1 k l l w true ((0 : Nat) : Int)) (fun k => by rw [tollhouselaw05_HeadFields.l0, if_neg (by omega)]; rfl) (hf_l1 l hl w.length 0 w hw (by omega) (Nat.zero_le _))
  | succ d ih =>
    intro i v hv hd hi
    have hlt : i < v.length := by omega
    exact Ev.step (f := fun k => tollhouselaw05_HeadFields.l0 k l l (v.set i ⟨(rd_T45 v (i : Int)).f0, ⟨#[120]⟩⟩) w true ((i + 1 : Nat) : Int)) (fun k => by rw [tollhouselaw05_HeadFields.l0, if_pos (by omega), if_pos (by omega), Int.toNat_natCast, show wrap64 ((i : Int) + 1) = ((i + 1 : Nat) : Int) by unfold wrap64; omega]) (ih (i + 1) _ (by rw [List.length_set]; exact hv) (by rw [List.length_set]; omega) (by rw [List.length_set]; omega))

theorem HeadFields_row (l : List S45) (n v : ByteArray) (ns : List ByteArray) (hl : l.length * 32 ≤ 140737488351232) (hx : ∀ x ∈ l, x.f0.size ≤ 140737488351232 ∧ x.f1.size ≤ 140737488351232) (hn : n.size ≤ 140737488351232) (hv : v.size ≤ 140737488351232) (hns : ns.length * 16 ≤ 140737488351232) (hnx : ∀ x ∈ ns, x.size ≤ 140737488351232) :
    ∃ k, tollhouselaw05_HeadFields.f k l n v ns = some true := by
  have hx0 : ∀ x ∈ l, x.f0.size ≤ 9223372036854775807 := fun x h => by have := (hx x h).1; omega
  have hx1 : ∀ x ∈ l, x.f0.size < 140737488355328 := fun x h => by have := (hx x h).1; omega
  have hd := dropB_le l ns
  have hd1 := dropB_le l [n]
  refine Ev.rounds (g := fun k => tollhouselaw05_HeadFields.f k l n v ns) ?_
  refine Ev.congr (f := fun k => (head_Put.f k l).bind fun bt289 => ((tollhouseref05_Put.f k l).bind fun bt293 => (if (strOfNums bt289.1).toList = (strOfNums bt293.1).toList then (if bt289.2 = bt293.2 then ((tollhouseref05_May.f k l).bind fun t298 => (if (mayB l != t298) = true then (tollhouselaw05_HeadFields.j0 k l n v ns l true) else ((head_Get.f k l n).bind fun t299 => ((tollhouseref05_Get.f k l n).bind fun t302 => ((tollhouseref02_Equal.f k t299 t302).bind fun t305 => (tollhouselaw05_HeadFields.j0 k l n v ns l (!t305))))))) else (tollhouselaw05_HeadFields.j0 k l n v ns l true)) else (tollhouselaw05_HeadFields.j0 k l n v ns l true)))) (fun k => ?_) ?_
  · unfold tollhouselaw05_HeadFields.f tollhouselaw05_own.f
    rw [if_pos (by simp; omega), List.nil_append, Option.bind_some, may_ok l hx]
    simp only [Option.bind_some]
  · refine Ev.bind (put_ok l hx) (Ev.bind (refPut_ok l (by omega) hx) ?_)
    refine ev_if (fun _ => ?_) (fun h => absurd rfl h)
    refine ev_if (fun _ => ?_) (fun h => absurd rfl h)
    refine Ev.bind (refMay_ok l (by omega) hx) ?_
    refine ev_if (fun h => by simp at h) (fun _ => ?_)
    refine Ev.bind (get_ev l n (by omega) hx0 (by omega)) (Ev.bind (refGet_ok l n (by omega) hx1 (by omega)) ?_)
    have hgl : (getB l n).length ≤ l.length := by unfold getB; rw [List.length_map]; exact List.length_filter_le _ _
    refine Ev.bind (refEqual_ok _ _ (by omega)) ?_
    rw [decide_eq_true rfl]
    refine Ev.step (f := fun k => ((tollhouseref05_Drop.f k l ns).bind fun t312 => ((tollhouseref05_Same.f k (dropB l ns) t312).bind fun t315 => (if t315 = true then ((tollhouseref05_With.f k l n v).bind fun t316 => ((tollhouseref05_Same.f k (dropB l [n] ++ [⟨n, v⟩]) t316).bind fun t319 => (tollhouselaw05_HeadFields.j1 k l l (dropB l ns) (dropB l [n] ++ [⟨n, v⟩]) t319))) else (tollhouselaw05_HeadFields.j1 k l l (dropB l ns) (dropB l [n] ++ [⟨n, v⟩]) false))))) (fun k => ?_) ?_
    · rw [tollhouselaw05_HeadFields.j0, if_neg (by decide), drop_ok l ns (by omega) hx0 (fun m hm => by have := hnx m hm; omega), Option.bind_some, with_ok l n v (by omega) hx0 (by omega), Option.bind_some]
    · refine Ev.bind (refDrop_ok l ns (by omega) hx1 (fun m hm => by have := hnx m hm; omega) (by omega)) ?_
      refine Ev.bind (refSame_evF _ _ (by omega)) ?_
      rw [decide_eq_true rfl]
      refine ev_if (fun _ => ?_) (fun h => absurd rfl h)
      refine Ev.bind (refWith_ok l n v (by omega) hx1 (by omega)) ?_
      have hwl : (dropB l [n] ++ [(⟨n, v⟩ : S45)]).length = (dropB l [n]).length + 1 := by rw [List.length_append]; rfl
      refine Ev.bind (refSame_evF _ _ (by omega)) ?_
      rw [decide_eq_true rfl]
      exact Ev.step (f := fun k => tollhouselaw05_HeadFields.l0 k l l (dropB l ns) (dropB l [n] ++ [⟨n, v⟩]) true ((0 : Nat) : Int)) (fun k => by rw [tollhouselaw05_HeadFields.j1]; rfl) (hf_l0 l _ (by omega) (by omega) _ 0 (dropB l ns) (by omega) rfl (Nat.zero_le _))
end Go.Proofs.YtdofgilfmgdpkaaDoor.P
