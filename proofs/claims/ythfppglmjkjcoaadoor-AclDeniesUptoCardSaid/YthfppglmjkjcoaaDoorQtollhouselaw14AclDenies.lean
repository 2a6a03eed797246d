/- The walk of the Go function tollhouselaw14 AclDenies, and what it computes. By program. Conditions: none but those that each theorem names. -/
import Derived.Test.YthfppglmjkjcoaaDoorQ0
import Derived.Test.YthfppglmjkjcoaaDoorQaclMatches
import Derived.Test.YthfppglmjkjcoaaDoorQaclAdmits
import Derived.Test.YthfppglmjkjcoaaDoorQtollhouselaw14wakes
namespace Go.Proofs.YthfppglmjkjcoaaDoor.P
open Go.RowKit Go.Proofs.YthfppglmjkjcoaaDoorW.PrintWords Go.Proofs.YthfppglmjkjcoaaDoorW.PrintLast Go.Proofs.YthfppglmjkjcoaaDoorW.PrintMore
attribute [local go_sem] max2_int min2_int max_two min_two max_three min_three max_four min_four
set_option linter.unusedVariables false
set_option linter.unusedSimpArgs false

/-! ### tollhouselaw14_AclDenies: function 5 -/
def tollhouselaw14_AclDenies.l0 : Nat → List (S25) → ByteArray → Int → ByteArray → List (S25) → List (S25) → Bool → Bool → Int → Option (Bool)
  | 0, _, _, _, _, _, _, _, _, _ => none
  | k + 1, x0, x1, x2, x3, x9, x10, x11, x12, x13 => if x13 < (x0.length : Int) then (if 0 ≤ x13 then (if (rd_T25 x0 x13).f0 = true then (if x10.length < 2199023255552 then ((some (x10 ++ [(⟨(rd_T25 x0 x13).f0, (rd_T25 x0 x13).f1, (rd_T25 x0 x13).f2, (rd_T25 x0 x13).f3, (rd_T25 x0 x13).f4⟩ : S25)] : List (S25))).bind fun y260 => (if x12 = true then (tollhouselaw14_AclDenies.l0 k x0 x1 x2 x3 x9 y260 x11 true (wrap64 (x13 + 1))) else ((acl_Matches.f k ((rd_T25 x0 x13).f0) ((rd_T25 x0 x13).f1) ((rd_T25 x0 x13).f2) ((rd_T25 x0 x13).f3) ((rd_T25 x0 x13).f4) x1 x2 x3).bind fun t264 => (tollhouselaw14_AclDenies.l0 k x0 x1 x2 x3 x9 y260 x11 t264 (wrap64 (x13 + 1)))))) else (none)) else (if x9.length < 2199023255552 then ((some (x9 ++ [(⟨(rd_T25 x0 x13).f0, (rd_T25 x0 x13).f1, (rd_T25 x0 x13).f2, (rd_T25 x0 x13).f3, (rd_T25 x0 x13).f4⟩ : S25)] : List (S25))).bind fun y266 => (if x11 = true then (tollhouselaw14_AclDenies.l0 k x0 x1 x2 x3 y266 x10 true x12 (wrap64 (x13 + 1))) else ((acl_Matches.f k ((rd_T25 x0 x13).f0) ((rd_T25 x0 x13).f1) ((rd_T25 x0 x13).f2) ((rd_T25 x0 x13).f3) ((rd_T25 x0 x13).f4) x1 x2 x3).bind fun t270 => (tollhouselaw14_AclDenies.l0 k x0 x1 x2 x3 y266 x10 t270 x12 (wrap64 (x13 + 1)))))) else (none))) else (none)) else (if x9.length + x10.length < 2199023255552 then ((acl_Admits.f k (x9 ++ x10) x1 x2 x3).bind fun t274 => (if x12 = true then (if (t274 == (!x11)) = true then ((acl_Admits.f k x0 x1 x2 x3).bind fun t275 => (if t275 = true then (if t274 = true then ((acl_Admits.f k x0 x1 x2 x3).bind fun t276 => (if t276 = true then ((tollhouselaw14_wakes.f k).bind fun t277 => (some t277)) else (some false))) else ((tollhouselaw14_wakes.f k).bind fun t278 => (some t278))) else (if t274 = true then ((acl_Admits.f k x0 x1 x2 x3).bind fun t279 => (if t279 = true then ((tollhouselaw14_wakes.f k).bind fun t280 => (some t280)) else (some false))) else ((tollhouselaw14_wakes.f k).bind fun t281 => (some t281))))) else (some false)) else (if (t274 == false) = true then ((acl_Admits.f k x0 x1 x2 x3).bind fun t282 => (if t282 = true then (some false) else (if t274 = true then ((acl_Admits.f k x0 x1 x2 x3).bind fun t283 => (if t283 = true then ((tollhouselaw14_wakes.f k).bind fun t284 => (some t284)) else (some false))) else ((tollhouselaw14_wakes.f k).bind fun t285 => (some t285))))) else (some false)))) else (none))
def tollhouselaw14_AclDenies.f (k : Nat) (l0 : List (S25)) (a1 : ByteArray) (a2 : Int) (a3 : ByteArray) : Option (Bool) := tollhouselaw14_AclDenies.l0 k l0 a1 a2 a3 ([] : List (S25)) ([] : List (S25)) false false 0
theorem tollhouselaw14_AclDenies.mono_l : ∀ k, (∀ y0 y1 y2 y3 y4 y5 y6 y7 y8, LeO (tollhouselaw14_AclDenies.l0 k y0 y1 y2 y3 y4 y5 y6 y7 y8) (tollhouselaw14_AclDenies.l0 (k + 1) y0 y1 y2 y3 y4 y5 y6 y7 y8))
  | 0 => fun _ _ _ _ _ _ _ _ _ r h => by simp [tollhouselaw14_AclDenies.l0] at h
  | k + 1 => by
    have ih0 := tollhouselaw14_AclDenies.mono_l k
    · intro y0 y1 y2 y3 y4 y5 y6 y7 y8
      unfold tollhouselaw14_AclDenies.l0
      repeat' first
      | (with_reducible exact ih0 _ _ _ _ _ _ _ _ _)
      | (with_reducible exact acl_Admits.mono _ _ _ _ _)
      | (with_reducible exact acl_Matches.mono _ _ _ _ _ _ _ _ _)
      | (with_reducible exact tollhouselaw14_wakes.mono _)
      | (with_reducible exact LeO.refl _)
      | (with_reducible exact LeO.none _)
      | (with_reducible refine LeO.ite ?_ ?_)
      | (with_reducible refine LeO.bind ?_ (fun _ => ?_))
      | exact ih0 _ _ _ _ _ _ _ _ _
      | exact acl_Admits.mono _ _ _ _ _
      | exact acl_Matches.mono _ _ _ _ _ _ _ _ _
      | exact tollhouselaw14_wakes.mono _
      | exact LeO.none _
      | refine LeO.ite ?_ ?_
      | refine LeO.bind ?_ (fun _ => ?_)
theorem tollhouselaw14_AclDenies.mono : ∀ a0 a1 a2 a3 k, LeO (tollhouselaw14_AclDenies.f k a0 a1 a2 a3) (tollhouselaw14_AclDenies.f (k + 1) a0 a1 a2 a3) := by
  intro a0 a1 a2 a3 k
  have ih0 := tollhouselaw14_AclDenies.mono_l k
  unfold tollhouselaw14_AclDenies.f
  repeat' first
      | (with_reducible exact ih0 _ _ _ _ _ _ _ _ _)
      | (with_reducible exact acl_Admits.mono _ _ _ _ _)
      | (with_reducible exact acl_Matches.mono _ _ _ _ _ _ _ _ _)
      | (with_reducible exact tollhouselaw14_wakes.mono _)
      | (with_reducible exact LeO.refl _)
      | (with_reducible exact LeO.none _)
      | (with_reducible refine LeO.ite ?_ ?_)
      | (with_reducible refine LeO.bind ?_ (fun _ => ?_))
      | exact ih0 _ _ _ _ _ _ _ _ _
      | exact acl_Admits.mono _ _ _ _ _
      | exact acl_Matches.mono _ _ _ _ _ _ _ _ _
      | exact tollhouselaw14_wakes.mono _
      | exact LeO.none _
      | refine LeO.ite ?_ ?_
      | refine LeO.bind ?_ (fun _ => ?_)
set_option maxHeartbeats 8000000 in
set_option maxRecDepth 100000 in
theorem tollhouselaw14_AclDenies.calls (k : Nat) (P0_ : Nat → Prop) (A0 : Option Addr) (c0 : Nat) (l0 : List (S25)) (a1 : ByteArray) (a2 : Int) (a3 : ByteArray) (r : Bool) (w : World) (hs0 : Kd.V k25 25 w w.heap.size (fun k_ => P0_ k_) (.slice A0 l0.length c0) l0) (hr_ : r = true) (hT : Tab w) (h : tollhouselaw14_AclDenies.f k l0 a1 a2 a3 = some r) :
    Calls Tryd.prog 5 #[.slice A0 l0.length c0, .string a1, .int .i64 a2, .string a3] w fun e w' => e = .returned (.bool r) ∧ Below w.heap.size w w' := by
  have HT := Aside0.mk hT
  clear hT
  have hu25 := Tryd.underlying25
  have HO0 := Aside0.mk (show Kd.V k25 25 w w.heap.size (fun k_ => (P0_ k_ ∨ w.heap.size ≤ k_)) (.slice A0 l0.length c0) l0 from Kd.V_mono hs0 (fun k_ hk => .inl hk))
  have HB := Aside0.mk (Below.refl w.heap.size w)
  have H : (tollhouselaw14_AclDenies.l0 k l0 a1 a2 a3 ([] : List (S25)) ([] : List (S25)) false false 0) = some r := h
  clear h
  have H' := Aside0.mk H
  clear H
  go_enter Tryd.func5, Tryd.ntmps5
  go_wp2
  go_loopg [9, 10, 11, 12, 13] k (fun kq v9 v10 v11 v12 v13 w' => ∃ (x9_1 : List (S25)) (x10_1 : List (S25)) (x11_1 : Bool) (x12_1 : Bool) (x13_1 : Int), v11 = .bool x11_1 ∧ v12 = .bool x12_1 ∧ v13 = .int .i64 x13_1 ∧ Aside0 (tollhouselaw14_AclDenies.l0 kq l0 a1 a2 a3 x9_1 x10_1 x11_1 x12_1 x13_1 = some r) ∧ Aside0 (kq ≤ k) ∧ Aside0 (Kd.V k25 25 w' w.heap.size (fun k_ => (P0_ k_ ∨ w.heap.size ≤ k_) ∧ some k_ ≠ (v9 : Value).ownBlock ∧ some k_ ≠ (v10 : Value).ownBlock) (.slice A0 l0.length c0) l0) ∧ Aside0 (Kd.N k25 25 w' w.heap.size (fun k_ => (P0_ k_ ∨ w.heap.size ≤ k_) ∧ some k_ ≠ (v10 : Value).ownBlock) v9 x9_1) ∧ Aside0 (Kd.N k25 25 w' w.heap.size (fun k_ => (P0_ k_ ∨ w.heap.size ≤ k_) ∧ some k_ ≠ (v9 : Value).ownBlock) v10 x10_1) ∧ Aside0 (Below w.heap.size w w'))
  case atStart => exact ⟨(([] : List (S25))), (([] : List (S25))), (false), (false), (0), (by first | rfl | (simp; done) | (simp [*]; done)), (by first | rfl | (simp; done) | (simp [*]; done)), (by first | rfl | (simp; done) | (simp [*]; done)), H', ⟨Nat.le_refl _⟩, ⟨by (with_reducible repeat (first | apply Kd.V_alloc | apply Kd.V_drewN | apply Kd.V_drew)); exact Kd.V_mono HO0.out (fun _ hk => ⟨hk, ⟨(by simp [Value.ownBlock]), (by simp [Value.ownBlock])⟩⟩)⟩, ⟨by first | exact Kd.S_nil _ _ _ _ _ | exact Kd.N_nil _ _ _ _ _ | exact Kd.V_nil _ _ _ _ _ | exact Kd.Q_nil _ _ _ _ _ | exact Kd.R_nil _ _ _ _ _⟩, ⟨by first | exact Kd.S_nil _ _ _ _ _ | exact Kd.N_nil _ _ _ _ _ | exact Kd.V_nil _ _ _ _ _ | exact Kd.Q_nil _ _ _ _ _ | exact Kd.R_nil _ _ _ _ _⟩, ⟨by repeat (first | (with_reducible first | exact HB.out | apply below_alloc | apply pw_below_drewN | apply below_drew1) | exact HB.out)⟩⟩
  case round =>
    clear H'
    try clear p2
    obtain ⟨x9_1, x10_1, x11_1, x12_1, x13_1, rfl, rfl, rfl, HA, HK1, HO_0, HO_9, HO_10, HB⟩ := hrel
    cases gk with
    | zero => exact absurd HA.out (by simp [tollhouselaw14_AclDenies.l0])
    | succ k1 =>
      have H := HA.out
      clear HA
      simp only [tollhouselaw14_AclDenies.l0] at H
      by_cases c5 : x13_1 < (l0.length : Int)
      · rw [if_pos c5] at H
        have c5b0 : decide (x13_1 < (l0.length : Int)) = true := decide_eq_true c5
        clear c5
        by_cases c6 : 0 ≤ x13_1
        · rw [if_pos c6] at H
          have c6b0 : decide (0 ≤ x13_1) = true := decide_eq_true c6
          clear c6
          obtain ⟨bq7, hbq7⟩ : ∃ b_ : Bool, b_ = ((rd_T25 l0 x13_1).f0) := ⟨_, rfl⟩
          replace H : (if bq7 = true then (if x10_1.length < 2199023255552 then ((some (x10_1 ++ [(⟨bq7, (rd_T25 l0 x13_1).f1, (rd_T25 l0 x13_1).f2, (rd_T25 l0 x13_1).f3, (rd_T25 l0 x13_1).f4⟩ : S25)] : List (S25))).bind fun y260 => (if x12_1 = true then (tollhouselaw14_AclDenies.l0 k1 l0 a1 a2 a3 x9_1 y260 x11_1 true (wrap64 (x13_1 + 1))) else ((acl_Matches.f k1 (bq7) ((rd_T25 l0 x13_1).f1) ((rd_T25 l0 x13_1).f2) ((rd_T25 l0 x13_1).f3) ((rd_T25 l0 x13_1).f4) a1 a2 a3).bind fun t264 => (tollhouselaw14_AclDenies.l0 k1 l0 a1 a2 a3 x9_1 y260 x11_1 t264 (wrap64 (x13_1 + 1)))))) else (none)) else (if x9_1.length < 2199023255552 then ((some (x9_1 ++ [(⟨bq7, (rd_T25 l0 x13_1).f1, (rd_T25 l0 x13_1).f2, (rd_T25 l0 x13_1).f3, (rd_T25 l0 x13_1).f4⟩ : S25)] : List (S25))).bind fun y266 => (if x11_1 = true then (tollhouselaw14_AclDenies.l0 k1 l0 a1 a2 a3 y266 x10_1 true x12_1 (wrap64 (x13_1 + 1))) else ((acl_Matches.f k1 (bq7) ((rd_T25 l0 x13_1).f1) ((rd_T25 l0 x13_1).f2) ((rd_T25 l0 x13_1).f3) ((rd_T25 l0 x13_1).f4) a1 a2 a3).bind fun t270 => (tollhouselaw14_AclDenies.l0 k1 l0 a1 a2 a3 y266 x10_1 t270 x12_1 (wrap64 (x13_1 + 1)))))) else (none))) = some r := by rw [← hbq7] at H; exact H
          have Nbq7 := Aside0.mk hbq7
          clear hbq7
          by_cases c8 : bq7 = true
          · subst c8
            have H1 : (if x10_1.length < 2199023255552 then ((some (x10_1 ++ [(⟨true, (rd_T25 l0 x13_1).f1, (rd_T25 l0 x13_1).f2, (rd_T25 l0 x13_1).f3, (rd_T25 l0 x13_1).f4⟩ : S25)] : List (S25))).bind fun y260 => (if x12_1 = true then (tollhouselaw14_AclDenies.l0 k1 l0 a1 a2 a3 x9_1 y260 x11_1 true (wrap64 (x13_1 + 1))) else ((acl_Matches.f k1 (true) ((rd_T25 l0 x13_1).f1) ((rd_T25 l0 x13_1).f2) ((rd_T25 l0 x13_1).f3) ((rd_T25 l0 x13_1).f4) a1 a2 a3).bind fun t264 => (tollhouselaw14_AclDenies.l0 k1 l0 a1 a2 a3 x9_1 y260 x11_1 t264 (wrap64 (x13_1 + 1)))))) else (none)) = some r := by rw [if_pos rfl] at H; exact H
            clear H
            have H := H1
            clear H1
            by_cases c9 : x10_1.length < 2199023255552
            · rw [if_pos c9] at H
              have LMc9 := Aside0.mk c9
              clear c9
              obtain ⟨y260, hy260⟩ : ∃ y_ : List (S25), y_ = (x10_1 ++ [(⟨true, (rd_T25 l0 x13_1).f1, (rd_T25 l0 x13_1).f2, (rd_T25 l0 x13_1).f3, (rd_T25 l0 x13_1).f4⟩ : S25)]) := ⟨_, rfl⟩
              replace H : (if x12_1 = true then (tollhouselaw14_AclDenies.l0 k1 l0 a1 a2 a3 x9_1 y260 x11_1 true (wrap64 (x13_1 + 1))) else ((acl_Matches.f k1 (true) ((rd_T25 l0 x13_1).f1) ((rd_T25 l0 x13_1).f2) ((rd_T25 l0 x13_1).f3) ((rd_T25 l0 x13_1).f4) a1 a2 a3).bind fun t264 => (tollhouselaw14_AclDenies.l0 k1 l0 a1 a2 a3 x9_1 y260 x11_1 t264 (wrap64 (x13_1 + 1))))) = some r := by first | (rw [hy260]; with_reducible exact H) | (have H2_ := (Option.bind_some _ _).symm.trans H; rw [hy260]; with_reducible exact H2_) | (have H2_ := (Option.bind_some _ _).symm.trans H; with_reducible exact H2_) | with_reducible exact H | (rw [hy260]; exact H) | exact H
              have Ny260 := Aside0.mk hy260
              clear hy260
              by_cases c10 : x12_1 = true
              · subst c10
                have H1 : (tollhouselaw14_AclDenies.l0 k1 l0 a1 a2 a3 x9_1 y260 x11_1 true (wrap64 (x13_1 + 1))) = some r := by rw [if_pos rfl] at H; exact H
                clear H
                have H := H1
                clear H1
                have H' := Aside0.mk H
                clear H
                have p258 : 0 ≤ (x13_1 : Int) := of_decide_eq_true (by first | (with_reducible assumption) | assumption)
                have q258 : x13_1 < (l0.length : Int) := of_decide_eq_true (by first | (with_reducible assumption) | assumption)
                obtain ⟨ad258, A258_4, c258_4, e258, hx258_0, hx258_1, hx258_2, hx258_3, hx258_4, hl258_4, hi258_4⟩ := at_T25 (Kd.V_reads' HO_0.out).2.2 x13_1 p258 q258
                (try rw [← Nbq7.out] at hx258_0)
                cases e258
                obtain ⟨ce258, hce258, hMe258, hcc258⟩ := Kd.V_get HO_0.out z25 x13_1 p258 (by first | exact q258 | exact of_decide_eq_true (by first | (with_reducible assumption) | assumption) | (have e_ := (Kd.V_reads' HO_0.out).1; omega))
                obtain ⟨ua258_4, uc258_4, rfl, ul258_4, ge258_4⟩ := k25_openF hMe258
                have hv258_4 := hcc258 4 _ rfl
                rw [add_field _ _ 4 (by omega)] at hv258_4
                replace hv258_4 := Option.some.inj (hv258_4.symm.trans hx258_4)
                injection hv258_4 with hva_ hvn_ hvc_
                rw [hva_] at ge258_4
                rw [hvc_] at ul258_4
                have HL258_4 := Aside0.mk (show Kd.V Kd.string 9 _ w.heap.size _ _ ((rd_T25 l0 x13_1).f4) from Kd.V_mk ul258_4 ge258_4)
                clear hva_ hvn_ hvc_ ge258_4 ul258_4
                clear hcc258 hce258
                have HR258_4 := Aside0.mk hi258_4
                have HC258_4 := Aside0.mk hl258_4
                clear hi258_4 hl258_4
                replace p258 := eq_true p258
                replace q258 := eq_true q258
                have p259 : 0 ≤ (x13_1 : Int) := of_decide_eq_true (by first | (with_reducible assumption) | assumption)
                have q259 : x13_1 < (l0.length : Int) := of_decide_eq_true (by first | (with_reducible assumption) | assumption)
                obtain ⟨ad259, A259_4, c259_4, e259, hx259_0, hx259_1, hx259_2, hx259_3, hx259_4, hl259_4, hi259_4⟩ := at_T25 (Kd.V_reads' HO_0.out).2.2 x13_1 p259 q259
                (try rw [← Nbq7.out] at hx259_0)
                obtain rfl : ad258 = ad259 := (by injection e259)
                obtain ⟨ce259, hce259, hMe259, hcc259⟩ := Kd.V_get HO_0.out z25 x13_1 p259 (by first | exact q259 | exact of_decide_eq_true (by first | (with_reducible assumption) | assumption) | (have e_ := (Kd.V_reads' HO_0.out).1; omega))
                obtain ⟨ua259_4, uc259_4, rfl, ul259_4, ge259_4⟩ := k25_openF hMe259
                have hv259_4 := hcc259 4 _ rfl
                rw [add_field _ _ 4 (by omega)] at hv259_4
                replace hv259_4 := Option.some.inj (hv259_4.symm.trans hx259_4)
                injection hv259_4 with hva_ hvn_ hvc_
                rw [hva_] at ge259_4
                rw [hvc_] at ul259_4
                have HL259_4 := Aside0.mk (show Kd.V Kd.string 9 _ w.heap.size _ _ ((rd_T25 l0 x13_1).f4) from Kd.V_mk ul259_4 ge259_4)
                clear hva_ hvn_ hvc_ ge259_4 ul259_4
                clear hcc259 hce259
                have HR259_4 := Aside0.mk hi259_4
                have HC259_4 := Aside0.mk hl259_4
                clear hi259_4 hl259_4
                replace p259 := eq_true p259
                replace q259 := eq_true q259
                have ea_ := Option.some.inj (hx258_4.symm.trans hx259_4)
                injection ea_ with ea_ en_ ec_
                subst ea_
                subst ec_
                clear en_
                go_wp2_with (first | ((with_reducible refine gate_builtin (b := .append) (xs := #[.tmp 26, .tmp 31]) rfl ?_); at_builtin; refine Kd.N_append k25 (w0 := w) w.heap.size rfl (.tmp 26) (.tmp 31) 22 25 (.agg #[(.bool false), (.string ⟨#[]⟩), (.int .i64 0), (.int .i64 0), (.slice none 0 0)]) 64 rfl Tryd.underlying22 info25 rfl (by decide) (by omega) u10 x10_1 (⟨true, (rd_T25 l0 x13_1).f1, (rd_T25 l0 x13_1).f2, (rd_T25 l0 x13_1).f3, (rd_T25 l0 x13_1).f4⟩ : S25) [.bool true, .string ((rd_T25 l0 x13_1).f1), .int .i64 ((rd_T25 l0 x13_1).f2), .int .i64 ((rd_T25 l0 x13_1).f3), .slice A258_4 ((rd_T25 l0 x13_1).f4).length c258_4] (fun k_ => (P0_ k_ ∨ w.heap.size ≤ k_) ∧ some k_ ≠ (u9 : Value).ownBlock) (fun k_ => ((fun k_ => (P0_ k_ ∨ w.heap.size ≤ k_) ∧ some k_ ≠ (u9 : Value).ownBlock)) k_ ∧ some k_ ≠ (u10 : Value).ownBlock) rfl rfl ?aP (fun _ hk => hk) ?aF ?aO ?aB ?aS ?aL ?_; (case aP => exact (k25_mkF _ _ (⟨true, (rd_T25 l0 x13_1).f1, (rd_T25 l0 x13_1).f2, (rd_T25 l0 x13_1).f3, (rd_T25 l0 x13_1).f4⟩ : S25) (Kd.V_reads' (Kd.V_mono (ok' := (fun k_ => ((fun k_ => (P0_ k_ ∨ w.heap.size ≤ k_) ∧ some k_ ≠ (u9 : Value).ownBlock)) k_ ∧ some k_ ≠ (u10 : Value).ownBlock)) (HL259_4.out) (fun k_ hk => ⟨⟨hk.1, hk.2.1⟩, hk.2.2⟩))).2.1 (Kd.V_F (Kd.V_mono (ok' := (fun k_ => ((fun k_ => (P0_ k_ ∨ w.heap.size ≤ k_) ∧ some k_ ≠ (u9 : Value).ownBlock)) k_ ∧ some k_ ≠ (u10 : Value).ownBlock)) (HL259_4.out) (fun k_ hk => ⟨⟨hk.1, hk.2.1⟩, hk.2.2⟩))))); (case aB => exact (by repeat (first | (with_reducible first | exact HB.out | apply below_alloc | apply pw_below_drewN | apply below_drew1) | exact HB.out))); (case aF => exact (fun k_ hk => ⟨(.inr (Nat.le_trans (below_size (by repeat (first | (with_reducible first | exact HB.out | apply below_alloc | apply pw_below_drewN | apply below_drew1) | exact HB.out))) hk)), Kd.fresh' (Kd.N_lt (by (with_reducible repeat (first | apply Kd.N_alloc | apply Kd.N_drewN | apply Kd.N_drew)); exact HO_9.out)) k_ hk⟩)); (case aO => exact (by (with_reducible repeat (first | apply Kd.N_alloc | apply Kd.N_drewN | apply Kd.N_drew)); exact HO_10.out)); (case aS => exact (below_size (by repeat (first | (with_reducible first | exact HB.out | apply below_alloc | apply pw_below_drewN | apply below_drew1) | exact HB.out)))); (case aL => have := LMc9.out; omega); intro v261 w11 ho hb hg hat; rw [← Ny260.out] at ho; have n0_ := Aside0.mk (Kd.V_afterv (ok := (fun k_ => (P0_ k_ ∨ w.heap.size ≤ k_) ∧ some k_ ≠ (u9 : Value).ownBlock)) (by (with_reducible repeat (first | apply Kd.V_alloc | apply Kd.V_drewN | apply Kd.V_drew)); exact Kd.V_mono HO_0.out (fun _ hk => ⟨⟨hk.1, hk.2.1⟩, hk.2.2⟩)) hg hat); have n1_ := Aside0.mk (Kd.N_afterv (ok := (fun k_ => (P0_ k_ ∨ w.heap.size ≤ k_))) (by (with_reducible repeat (first | apply Kd.N_alloc | apply Kd.N_drewN | apply Kd.N_drew)); exact HO_9.out) hg hat); have n2_ := Aside0.mk (Kd.V_afterv (ok := (fun k_ => (P0_ k_ ∨ w.heap.size ≤ k_) ∧ some k_ ≠ (u9 : Value).ownBlock)) (by (with_reducible repeat (first | apply Kd.V_alloc | apply Kd.V_drewN | apply Kd.V_drew)); exact Kd.V_mono HL258_4.out (fun _ hk => ⟨⟨hk.1, hk.2.1⟩, hk.2.2⟩)) hg hat); have n3_ := Aside0.mk (Kd.V_afterv (ok := (fun k_ => (P0_ k_ ∨ w.heap.size ≤ k_) ∧ some k_ ≠ (u9 : Value).ownBlock)) (by (with_reducible repeat (first | apply Kd.V_alloc | apply Kd.V_drewN | apply Kd.V_drew)); exact Kd.V_mono HL259_4.out (fun _ hk => ⟨⟨hk.1, hk.2.1⟩, hk.2.2⟩)) hg hat); have n4_ := Aside0.mk (hb); have n5_ := Aside0.mk (ho); clear HO_0; clear HO_9; clear HL258_4; clear HL259_4; clear HB; clear HO_10; have HO_0 := n0_; have HO_9 := n1_; have HL258_4 := n2_; have HL259_4 := n3_; have HB := n4_; have HO262 := n5_; clear n0_ n1_ n2_ n3_ n4_ n5_; clear ho hb hg hat))
                go_roundg k1
                case measure => have := HK1.out; omega
                case rel => exact ⟨(x9_1), (y260), (x11_1), (true), (wrap64 (x13_1 + 1)), (by first | rfl | (simp; done) | (simp [*]; done)), (by first | rfl | (simp; done) | (simp [*]; done)), (by first | rfl | (simp; done) | (simp [*]; done)), H', ⟨by have := HK1.out; omega⟩, ⟨by (with_reducible repeat (first | apply Kd.V_alloc | apply Kd.V_drewN | apply Kd.V_drew)); exact Kd.V_mono HO_0.out (fun _ hk => ⟨hk.1.1, ⟨hk.1.2, hk.2⟩⟩)⟩, ⟨by (with_reducible repeat (first | apply Kd.N_alloc | apply Kd.N_drewN | apply Kd.N_drew)); exact HO_9.out⟩, ⟨by (with_reducible repeat (first | apply Kd.N_alloc | apply Kd.N_drewN | apply Kd.N_drew)); exact HO262.out⟩, ⟨by repeat (first | (with_reducible first | exact HB.out | apply below_alloc | apply pw_below_drewN | apply below_drew1) | exact HB.out)⟩⟩
              · replace c10 := Bool.eq_false_iff.mpr c10
                subst c10
                have H1 : ((acl_Matches.f k1 (true) ((rd_T25 l0 x13_1).f1) ((rd_T25 l0 x13_1).f2) ((rd_T25 l0 x13_1).f3) ((rd_T25 l0 x13_1).f4) a1 a2 a3).bind fun t264 => (tollhouselaw14_AclDenies.l0 k1 l0 a1 a2 a3 x9_1 y260 x11_1 t264 (wrap64 (x13_1 + 1)))) = some r := by rw [if_neg (show ¬ (false = true) by decide)] at H; exact H
                clear H
                have H := H1
                clear H1
                replace H := Option.bind_eq_some_iff.mp H
                obtain ⟨t264, A120, H⟩ := H
                replace H : (tollhouselaw14_AclDenies.l0 k1 l0 a1 a2 a3 x9_1 y260 x11_1 t264 (wrap64 (x13_1 + 1))) = some r := H
                have A12 := Aside0.mk A120
                clear A120
                have H' := Aside0.mk H
                clear H
                have p258 : 0 ≤ (x13_1 : Int) := of_decide_eq_true (by first | (with_reducible assumption) | assumption)
                have q258 : x13_1 < (l0.length : Int) := of_decide_eq_true (by first | (with_reducible assumption) | assumption)
                obtain ⟨ad258, A258_4, c258_4, e258, hx258_0, hx258_1, hx258_2, hx258_3, hx258_4, hl258_4, hi258_4⟩ := at_T25 (Kd.V_reads' HO_0.out).2.2 x13_1 p258 q258
                (try rw [← Nbq7.out] at hx258_0)
                cases e258
                obtain ⟨ce258, hce258, hMe258, hcc258⟩ := Kd.V_get HO_0.out z25 x13_1 p258 (by first | exact q258 | exact of_decide_eq_true (by first | (with_reducible assumption) | assumption) | (have e_ := (Kd.V_reads' HO_0.out).1; omega))
                obtain ⟨ua258_4, uc258_4, rfl, ul258_4, ge258_4⟩ := k25_openF hMe258
                have hv258_4 := hcc258 4 _ rfl
                rw [add_field _ _ 4 (by omega)] at hv258_4
                replace hv258_4 := Option.some.inj (hv258_4.symm.trans hx258_4)
                injection hv258_4 with hva_ hvn_ hvc_
                rw [hva_] at ge258_4
                rw [hvc_] at ul258_4
                have HL258_4 := Aside0.mk (show Kd.V Kd.string 9 _ w.heap.size _ _ ((rd_T25 l0 x13_1).f4) from Kd.V_mk ul258_4 ge258_4)
                clear hva_ hvn_ hvc_ ge258_4 ul258_4
                clear hcc258 hce258
                have HR258_4 := Aside0.mk hi258_4
                have HC258_4 := Aside0.mk hl258_4
                clear hi258_4 hl258_4
                replace p258 := eq_true p258
                replace q258 := eq_true q258
                have p259 : 0 ≤ (x13_1 : Int) := of_decide_eq_true (by first | (with_reducible assumption) | assumption)
                have q259 : x13_1 < (l0.length : Int) := of_decide_eq_true (by first | (with_reducible assumption) | assumption)
                obtain ⟨ad259, A259_4, c259_4, e259, hx259_0, hx259_1, hx259_2, hx259_3, hx259_4, hl259_4, hi259_4⟩ := at_T25 (Kd.V_reads' HO_0.out).2.2 x13_1 p259 q259
                (try rw [← Nbq7.out] at hx259_0)
                obtain rfl : ad258 = ad259 := (by injection e259)
                obtain ⟨ce259, hce259, hMe259, hcc259⟩ := Kd.V_get HO_0.out z25 x13_1 p259 (by first | exact q259 | exact of_decide_eq_true (by first | (with_reducible assumption) | assumption) | (have e_ := (Kd.V_reads' HO_0.out).1; omega))
                obtain ⟨ua259_4, uc259_4, rfl, ul259_4, ge259_4⟩ := k25_openF hMe259
                have hv259_4 := hcc259 4 _ rfl
                rw [add_field _ _ 4 (by omega)] at hv259_4
                replace hv259_4 := Option.some.inj (hv259_4.symm.trans hx259_4)
                injection hv259_4 with hva_ hvn_ hvc_
                rw [hva_] at ge259_4
                rw [hvc_] at ul259_4
                have HL259_4 := Aside0.mk (show Kd.V Kd.string 9 _ w.heap.size _ _ ((rd_T25 l0 x13_1).f4) from Kd.V_mk ul259_4 ge259_4)
                clear hva_ hvn_ hvc_ ge259_4 ul259_4
                clear hcc259 hce259
                have HR259_4 := Aside0.mk hi259_4
                have HC259_4 := Aside0.mk hl259_4
                clear hi259_4 hl259_4
                replace p259 := eq_true p259
                replace q259 := eq_true q259
                have ea_ := Option.some.inj (hx258_4.symm.trans hx259_4)
                injection ea_ with ea_ en_ ec_
                subst ea_
                subst ec_
                clear en_
                go_wp2_with (first | ((with_reducible refine gate_builtin (b := .append) (xs := #[.tmp 26, .tmp 31]) rfl ?_); at_builtin; refine Kd.N_append k25 (w0 := w) w.heap.size rfl (.tmp 26) (.tmp 31) 22 25 (.agg #[(.bool false), (.string ⟨#[]⟩), (.int .i64 0), (.int .i64 0), (.slice none 0 0)]) 64 rfl Tryd.underlying22 info25 rfl (by decide) (by omega) u10 x10_1 (⟨true, (rd_T25 l0 x13_1).f1, (rd_T25 l0 x13_1).f2, (rd_T25 l0 x13_1).f3, (rd_T25 l0 x13_1).f4⟩ : S25) [.bool true, .string ((rd_T25 l0 x13_1).f1), .int .i64 ((rd_T25 l0 x13_1).f2), .int .i64 ((rd_T25 l0 x13_1).f3), .slice A258_4 ((rd_T25 l0 x13_1).f4).length c258_4] (fun k_ => (P0_ k_ ∨ w.heap.size ≤ k_) ∧ some k_ ≠ (u9 : Value).ownBlock) (fun k_ => ((fun k_ => (P0_ k_ ∨ w.heap.size ≤ k_) ∧ some k_ ≠ (u9 : Value).ownBlock)) k_ ∧ some k_ ≠ (u10 : Value).ownBlock) rfl rfl ?aP (fun _ hk => hk) ?aF ?aO ?aB ?aS ?aL ?_; (case aP => exact (k25_mkF _ _ (⟨true, (rd_T25 l0 x13_1).f1, (rd_T25 l0 x13_1).f2, (rd_T25 l0 x13_1).f3, (rd_T25 l0 x13_1).f4⟩ : S25) (Kd.V_reads' (Kd.V_mono (ok' := (fun k_ => ((fun k_ => (P0_ k_ ∨ w.heap.size ≤ k_) ∧ some k_ ≠ (u9 : Value).ownBlock)) k_ ∧ some k_ ≠ (u10 : Value).ownBlock)) (HL259_4.out) (fun k_ hk => ⟨⟨hk.1, hk.2.1⟩, hk.2.2⟩))).2.1 (Kd.V_F (Kd.V_mono (ok' := (fun k_ => ((fun k_ => (P0_ k_ ∨ w.heap.size ≤ k_) ∧ some k_ ≠ (u9 : Value).ownBlock)) k_ ∧ some k_ ≠ (u10 : Value).ownBlock)) (HL259_4.out) (fun k_ hk => ⟨⟨hk.1, hk.2.1⟩, hk.2.2⟩))))); (case aB => exact (by repeat (first | (with_reducible first | exact HB.out | apply below_alloc | apply pw_below_drewN | apply below_drew1) | exact HB.out))); (case aF => exact (fun k_ hk => ⟨(.inr (Nat.le_trans (below_size (by repeat (first | (with_reducible first | exact HB.out | apply below_alloc | apply pw_below_drewN | apply below_drew1) | exact HB.out))) hk)), Kd.fresh' (Kd.N_lt (by (with_reducible repeat (first | apply Kd.N_alloc | apply Kd.N_drewN | apply Kd.N_drew)); exact HO_9.out)) k_ hk⟩)); (case aO => exact (by (with_reducible repeat (first | apply Kd.N_alloc | apply Kd.N_drewN | apply Kd.N_drew)); exact HO_10.out)); (case aS => exact (below_size (by repeat (first | (with_reducible first | exact HB.out | apply below_alloc | apply pw_below_drewN | apply below_drew1) | exact HB.out)))); (case aL => have := LMc9.out; omega); intro v261 w13 ho hb hg hat; rw [← Ny260.out] at ho; have n0_ := Aside0.mk (Kd.V_afterv (ok := (fun k_ => (P0_ k_ ∨ w.heap.size ≤ k_) ∧ some k_ ≠ (u9 : Value).ownBlock)) (by (with_reducible repeat (first | apply Kd.V_alloc | apply Kd.V_drewN | apply Kd.V_drew)); exact Kd.V_mono HO_0.out (fun _ hk => ⟨⟨hk.1, hk.2.1⟩, hk.2.2⟩)) hg hat); have n1_ := Aside0.mk (Kd.N_afterv (ok := (fun k_ => (P0_ k_ ∨ w.heap.size ≤ k_))) (by (with_reducible repeat (first | apply Kd.N_alloc | apply Kd.N_drewN | apply Kd.N_drew)); exact HO_9.out) hg hat); have n2_ := Aside0.mk (Kd.V_afterv (ok := (fun k_ => (P0_ k_ ∨ w.heap.size ≤ k_) ∧ some k_ ≠ (u9 : Value).ownBlock)) (by (with_reducible repeat (first | apply Kd.V_alloc | apply Kd.V_drewN | apply Kd.V_drew)); exact Kd.V_mono HL258_4.out (fun _ hk => ⟨⟨hk.1, hk.2.1⟩, hk.2.2⟩)) hg hat); have n3_ := Aside0.mk (Kd.V_afterv (ok := (fun k_ => (P0_ k_ ∨ w.heap.size ≤ k_) ∧ some k_ ≠ (u9 : Value).ownBlock)) (by (with_reducible repeat (first | apply Kd.V_alloc | apply Kd.V_drewN | apply Kd.V_drew)); exact Kd.V_mono HL259_4.out (fun _ hk => ⟨⟨hk.1, hk.2.1⟩, hk.2.2⟩)) hg hat); have n4_ := Aside0.mk (hb); have n5_ := Aside0.mk (ho); clear HO_0; clear HO_9; clear HL258_4; clear HL259_4; clear HB; clear HO_10; have HO_0 := n0_; have HO_9 := n1_; have HL258_4 := n2_; have HL259_4 := n3_; have HB := n4_; have HO262 := n5_; clear n0_ n1_ n2_ n3_ n4_ n5_; clear ho hb hg hat; have p263 : 0 ≤ (x13_1 : Int) := of_decide_eq_true (by first | (with_reducible assumption) | assumption); have q263 : x13_1 < (l0.length : Int) := of_decide_eq_true (by first | (with_reducible assumption) | assumption); obtain ⟨ad263, A263_4, c263_4, e263, hx263_0, hx263_1, hx263_2, hx263_3, hx263_4, hl263_4, hi263_4⟩ := at_T25 (Kd.V_reads' HO_0.out).2.2 x13_1 p263 q263; (try rw [← Nbq7.out] at hx263_0); obtain rfl : ad258 = ad263 := (by injection e263); obtain ⟨ce263, hce263, hMe263, hcc263⟩ := Kd.V_get HO_0.out z25 x13_1 p263 (by first | exact q263 | exact of_decide_eq_true (by first | (with_reducible assumption) | assumption) | (have e_ := (Kd.V_reads' HO_0.out).1; omega)); obtain ⟨ua263_4, uc263_4, rfl, ul263_4, ge263_4⟩ := k25_openF hMe263; have hv263_4 := hcc263 4 _ rfl; rw [add_field _ _ 4 (by omega)] at hv263_4; replace hv263_4 := Option.some.inj (hv263_4.symm.trans hx263_4); injection hv263_4 with hva_ hvn_ hvc_; rw [hva_] at ge263_4; rw [hvc_] at ul263_4; have HL263_4 := Aside0.mk (show Kd.V Kd.string 9 _ w.heap.size _ _ ((rd_T25 l0 x13_1).f4) from Kd.V_mk ul263_4 ge263_4); clear hva_ hvn_ hvc_ ge263_4 ul263_4; clear hcc263 hce263; have HR263_4 := Aside0.mk hi263_4; have HC263_4 := Aside0.mk hl263_4; clear hi263_4 hl263_4; replace p263 := eq_true p263; replace q263 := eq_true q263) | (go_at_call 12; (with_reducible refine (acl_Matches.calls k1 true ((rd_T25 l0 x13_1).f1) ((rd_T25 l0 x13_1).f2) ((rd_T25 l0 x13_1).f3) _ _ ((rd_T25 l0 x13_1).f4) a1 a2 a3 t264 _ ?side1 ?side2 A12.out).mono ?_); (case side1 => repeat (first | exact (by repeat (first | (with_reducible exact HR263_4.out) | (with_reducible refine Kd.C_alloc ?_ _) | (with_reducible refine Kd.C_drewN ?_ _) | (with_reducible refine Kd.C_drew ?_) | exact HR263_4.out)) | (with_reducible refine Kd.C_alloc ?_ _) | (with_reducible refine Kd.C_drewN ?_ _) | (with_reducible refine Kd.C_drew ?_))); (case side2 => exact HC263_4.out); rintro e w14 ⟨rfl, hb⟩; have n0_ := Aside0.mk (Kd.V_below (by (with_reducible repeat (first | apply Kd.V_alloc | apply Kd.V_drewN | apply Kd.V_drew)); exact HO_0.out) hb); have n1_ := Aside0.mk (Kd.N_below (by (with_reducible repeat (first | apply Kd.N_alloc | apply Kd.N_drewN | apply Kd.N_drew)); exact HO_9.out) hb); have n2_ := Aside0.mk (Kd.V_below (by (with_reducible repeat (first | apply Kd.V_alloc | apply Kd.V_drewN | apply Kd.V_drew)); exact HL258_4.out) hb); have n3_ := Aside0.mk (Kd.V_below (by (with_reducible repeat (first | apply Kd.V_alloc | apply Kd.V_drewN | apply Kd.V_drew)); exact HL259_4.out) hb); have n4_ := Aside0.mk (Kd.N_below (by (with_reducible repeat (first | apply Kd.N_alloc | apply Kd.N_drewN | apply Kd.N_drew)); exact HO262.out) hb); have n5_ := Aside0.mk (Kd.V_below (by (with_reducible repeat (first | apply Kd.V_alloc | apply Kd.V_drewN | apply Kd.V_drew)); exact HL263_4.out) hb); have n6_ := Aside0.mk (Kd.C_below (by repeat (first | (with_reducible exact HR263_4.out) | (with_reducible refine Kd.C_alloc ?_ _) | (with_reducible refine Kd.C_drewN ?_ _) | (with_reducible refine Kd.C_drew ?_) | exact HR263_4.out)) hb); have n7_ := Aside0.mk (below_step (by repeat (first | (with_reducible first | exact HB.out | apply below_alloc | apply pw_below_drewN | apply below_drew1) | exact HB.out)) hb); clear HO_0; clear HO_9; clear HL258_4; clear HL259_4; clear HO262; clear HL263_4; clear HR263_4; clear HB; have HO_0 := n0_; have HO_9 := n1_; have HL258_4 := n2_; have HL259_4 := n3_; have HO262 := n4_; have HL263_4 := n5_; have HR263_4 := n6_; have HB := n7_; clear n0_ n1_ n2_ n3_ n4_ n5_ n6_ n7_; (try clear hb); (try clear hb2); (try clear hk); (try clear hi)))
                go_roundg k1
                case measure => have := HK1.out; omega
                case rel => exact ⟨(x9_1), (y260), (x11_1), (t264), (wrap64 (x13_1 + 1)), (by first | rfl | (simp; done) | (simp [*]; done)), (by first | rfl | (simp; done) | (simp [*]; done)), (by first | rfl | (simp; done) | (simp [*]; done)), H', ⟨by have := HK1.out; omega⟩, ⟨by (with_reducible repeat (first | apply Kd.V_alloc | apply Kd.V_drewN | apply Kd.V_drew)); exact Kd.V_mono HO_0.out (fun _ hk => ⟨hk.1.1, ⟨hk.1.2, hk.2⟩⟩)⟩, ⟨by (with_reducible repeat (first | apply Kd.N_alloc | apply Kd.N_drewN | apply Kd.N_drew)); exact HO_9.out⟩, ⟨by (with_reducible repeat (first | apply Kd.N_alloc | apply Kd.N_drewN | apply Kd.N_drew)); exact HO262.out⟩, ⟨by repeat (first | (with_reducible first | exact HB.out | apply below_alloc | apply pw_below_drewN | apply below_drew1) | exact HB.out)⟩⟩
            · rw [if_neg c9] at H
              exact absurd H (by simp)
          · replace c8 := Bool.eq_false_iff.mpr c8
            subst c8
            have H1 : (if x9_1.length < 2199023255552 then ((some (x9_1 ++ [(⟨false, (rd_T25 l0 x13_1).f1, (rd_T25 l0 x13_1).f2, (rd_T25 l0 x13_1).f3, (rd_T25 l0 x13_1).f4⟩ : S25)] : List (S25))).bind fun y266 => (if x11_1 = true then (tollhouselaw14_AclDenies.l0 k1 l0 a1 a2 a3 y266 x10_1 true x12_1 (wrap64 (x13_1 + 1))) else ((acl_Matches.f k1 (false) ((rd_T25 l0 x13_1).f1) ((rd_T25 l0 x13_1).f2) ((rd_T25 l0 x13_1).f3) ((rd_T25 l0 x13_1).f4) a1 a2 a3).bind fun t270 => (tollhouselaw14_AclDenies.l0 k1 l0 a1 a2 a3 y266 x10_1 t270 x12_1 (wrap64 (x13_1 + 1)))))) else (none)) = some r := by rw [if_neg (show ¬ (false = true) by decide)] at H; exact H
            clear H
            have H := H1
            clear H1
            by_cases c15 : x9_1.length < 2199023255552
            · rw [if_pos c15] at H
              have LMc15 := Aside0.mk c15
              clear c15
              obtain ⟨y266, hy266⟩ : ∃ y_ : List (S25), y_ = (x9_1 ++ [(⟨false, (rd_T25 l0 x13_1).f1, (rd_T25 l0 x13_1).f2, (rd_T25 l0 x13_1).f3, (rd_T25 l0 x13_1).f4⟩ : S25)]) := ⟨_, rfl⟩
              replace H : (if x11_1 = true then (tollhouselaw14_AclDenies.l0 k1 l0 a1 a2 a3 y266 x10_1 true x12_1 (wrap64 (x13_1 + 1))) else ((acl_Matches.f k1 (false) ((rd_T25 l0 x13_1).f1) ((rd_T25 l0 x13_1).f2) ((rd_T25 l0 x13_1).f3) ((rd_T25 l0 x13_1).f4) a1 a2 a3).bind fun t270 => (tollhouselaw14_AclDenies.l0 k1 l0 a1 a2 a3 y266 x10_1 t270 x12_1 (wrap64 (x13_1 + 1))))) = some r := by first | (rw [hy266]; with_reducible exact H) | (have H2_ := (Option.bind_some _ _).symm.trans H; rw [hy266]; with_reducible exact H2_) | (have H2_ := (Option.bind_some _ _).symm.trans H; with_reducible exact H2_) | with_reducible exact H | (rw [hy266]; exact H) | exact H
              have Ny266 := Aside0.mk hy266
              clear hy266
              by_cases c16 : x11_1 = true
              · subst c16
                have H1 : (tollhouselaw14_AclDenies.l0 k1 l0 a1 a2 a3 y266 x10_1 true x12_1 (wrap64 (x13_1 + 1))) = some r := by rw [if_pos rfl] at H; exact H
                clear H
                have H := H1
                clear H1
                have H' := Aside0.mk H
                clear H
                have p258 : 0 ≤ (x13_1 : Int) := of_decide_eq_true (by first | (with_reducible assumption) | assumption)
                have q258 : x13_1 < (l0.length : Int) := of_decide_eq_true (by first | (with_reducible assumption) | assumption)
                obtain ⟨ad258, A258_4, c258_4, e258, hx258_0, hx258_1, hx258_2, hx258_3, hx258_4, hl258_4, hi258_4⟩ := at_T25 (Kd.V_reads' HO_0.out).2.2 x13_1 p258 q258
                (try rw [← Nbq7.out] at hx258_0)
                cases e258
                obtain ⟨ce258, hce258, hMe258, hcc258⟩ := Kd.V_get HO_0.out z25 x13_1 p258 (by first | exact q258 | exact of_decide_eq_true (by first | (with_reducible assumption) | assumption) | (have e_ := (Kd.V_reads' HO_0.out).1; omega))
                obtain ⟨ua258_4, uc258_4, rfl, ul258_4, ge258_4⟩ := k25_openF hMe258
                have hv258_4 := hcc258 4 _ rfl
                rw [add_field _ _ 4 (by omega)] at hv258_4
                replace hv258_4 := Option.some.inj (hv258_4.symm.trans hx258_4)
                injection hv258_4 with hva_ hvn_ hvc_
                rw [hva_] at ge258_4
                rw [hvc_] at ul258_4
                have HL258_4 := Aside0.mk (show Kd.V Kd.string 9 _ w.heap.size _ _ ((rd_T25 l0 x13_1).f4) from Kd.V_mk ul258_4 ge258_4)
                clear hva_ hvn_ hvc_ ge258_4 ul258_4
                clear hcc258 hce258
                have HR258_4 := Aside0.mk hi258_4
                have HC258_4 := Aside0.mk hl258_4
                clear hi258_4 hl258_4
                replace p258 := eq_true p258
                replace q258 := eq_true q258
                have p265 : 0 ≤ (x13_1 : Int) := of_decide_eq_true (by first | (with_reducible assumption) | assumption)
                have q265 : x13_1 < (l0.length : Int) := of_decide_eq_true (by first | (with_reducible assumption) | assumption)
                obtain ⟨ad265, A265_4, c265_4, e265, hx265_0, hx265_1, hx265_2, hx265_3, hx265_4, hl265_4, hi265_4⟩ := at_T25 (Kd.V_reads' HO_0.out).2.2 x13_1 p265 q265
                (try rw [← Nbq7.out] at hx265_0)
                obtain rfl : ad258 = ad265 := (by injection e265)
                obtain ⟨ce265, hce265, hMe265, hcc265⟩ := Kd.V_get HO_0.out z25 x13_1 p265 (by first | exact q265 | exact of_decide_eq_true (by first | (with_reducible assumption) | assumption) | (have e_ := (Kd.V_reads' HO_0.out).1; omega))
                obtain ⟨ua265_4, uc265_4, rfl, ul265_4, ge265_4⟩ := k25_openF hMe265
                have hv265_4 := hcc265 4 _ rfl
                rw [add_field _ _ 4 (by omega)] at hv265_4
                replace hv265_4 := Option.some.inj (hv265_4.symm.trans hx265_4)
                injection hv265_4 with hva_ hvn_ hvc_
                rw [hva_] at ge265_4
                rw [hvc_] at ul265_4
                have HL265_4 := Aside0.mk (show Kd.V Kd.string 9 _ w.heap.size _ _ ((rd_T25 l0 x13_1).f4) from Kd.V_mk ul265_4 ge265_4)
                clear hva_ hvn_ hvc_ ge265_4 ul265_4
                clear hcc265 hce265
                have HR265_4 := Aside0.mk hi265_4
                have HC265_4 := Aside0.mk hl265_4
                clear hi265_4 hl265_4
                replace p265 := eq_true p265
                replace q265 := eq_true q265
                have ea_ := Option.some.inj (hx258_4.symm.trans hx265_4)
                injection ea_ with ea_ en_ ec_
                subst ea_
                subst ec_
                clear en_
                go_wp2_with (first | ((with_reducible refine gate_builtin (b := .append) (xs := #[.tmp 44, .tmp 49]) rfl ?_); at_builtin; refine Kd.N_append k25 (w0 := w) w.heap.size rfl (.tmp 44) (.tmp 49) 22 25 (.agg #[(.bool false), (.string ⟨#[]⟩), (.int .i64 0), (.int .i64 0), (.slice none 0 0)]) 64 rfl Tryd.underlying22 info25 rfl (by decide) (by omega) u9 x9_1 (⟨false, (rd_T25 l0 x13_1).f1, (rd_T25 l0 x13_1).f2, (rd_T25 l0 x13_1).f3, (rd_T25 l0 x13_1).f4⟩ : S25) [.bool false, .string ((rd_T25 l0 x13_1).f1), .int .i64 ((rd_T25 l0 x13_1).f2), .int .i64 ((rd_T25 l0 x13_1).f3), .slice A258_4 ((rd_T25 l0 x13_1).f4).length c258_4] (fun k_ => (P0_ k_ ∨ w.heap.size ≤ k_) ∧ some k_ ≠ (u10 : Value).ownBlock) (fun k_ => ((fun k_ => (P0_ k_ ∨ w.heap.size ≤ k_) ∧ some k_ ≠ (u10 : Value).ownBlock)) k_ ∧ some k_ ≠ (u9 : Value).ownBlock) rfl rfl ?aP (fun _ hk => hk) ?aF ?aO ?aB ?aS ?aL ?_; (case aP => exact (k25_mkF _ _ (⟨false, (rd_T25 l0 x13_1).f1, (rd_T25 l0 x13_1).f2, (rd_T25 l0 x13_1).f3, (rd_T25 l0 x13_1).f4⟩ : S25) (Kd.V_reads' (Kd.V_mono (ok' := (fun k_ => ((fun k_ => (P0_ k_ ∨ w.heap.size ≤ k_) ∧ some k_ ≠ (u10 : Value).ownBlock)) k_ ∧ some k_ ≠ (u9 : Value).ownBlock)) (HL265_4.out) (fun k_ hk => ⟨⟨hk.1, hk.2.2⟩, hk.2.1⟩))).2.1 (Kd.V_F (Kd.V_mono (ok' := (fun k_ => ((fun k_ => (P0_ k_ ∨ w.heap.size ≤ k_) ∧ some k_ ≠ (u10 : Value).ownBlock)) k_ ∧ some k_ ≠ (u9 : Value).ownBlock)) (HL265_4.out) (fun k_ hk => ⟨⟨hk.1, hk.2.2⟩, hk.2.1⟩))))); (case aB => exact (by repeat (first | (with_reducible first | exact HB.out | apply below_alloc | apply pw_below_drewN | apply below_drew1) | exact HB.out))); (case aF => exact (fun k_ hk => ⟨(.inr (Nat.le_trans (below_size (by repeat (first | (with_reducible first | exact HB.out | apply below_alloc | apply pw_below_drewN | apply below_drew1) | exact HB.out))) hk)), Kd.fresh' (Kd.N_lt (by (with_reducible repeat (first | apply Kd.N_alloc | apply Kd.N_drewN | apply Kd.N_drew)); exact HO_10.out)) k_ hk⟩)); (case aO => exact (by (with_reducible repeat (first | apply Kd.N_alloc | apply Kd.N_drewN | apply Kd.N_drew)); exact HO_9.out)); (case aS => exact (below_size (by repeat (first | (with_reducible first | exact HB.out | apply below_alloc | apply pw_below_drewN | apply below_drew1) | exact HB.out)))); (case aL => have := LMc15.out; omega); intro v267 w17 ho hb hg hat; rw [← Ny266.out] at ho; have n0_ := Aside0.mk (Kd.V_afterv (ok := (fun k_ => (P0_ k_ ∨ w.heap.size ≤ k_) ∧ some k_ ≠ (u10 : Value).ownBlock)) (by (with_reducible repeat (first | apply Kd.V_alloc | apply Kd.V_drewN | apply Kd.V_drew)); exact Kd.V_mono HO_0.out (fun _ hk => ⟨⟨hk.1, hk.2.2⟩, hk.2.1⟩)) hg hat); have n1_ := Aside0.mk (Kd.N_afterv (ok := (fun k_ => (P0_ k_ ∨ w.heap.size ≤ k_))) (by (with_reducible repeat (first | apply Kd.N_alloc | apply Kd.N_drewN | apply Kd.N_drew)); exact HO_10.out) hg hat); have n2_ := Aside0.mk (Kd.V_afterv (ok := (fun k_ => (P0_ k_ ∨ w.heap.size ≤ k_) ∧ some k_ ≠ (u10 : Value).ownBlock)) (by (with_reducible repeat (first | apply Kd.V_alloc | apply Kd.V_drewN | apply Kd.V_drew)); exact Kd.V_mono HL258_4.out (fun _ hk => ⟨⟨hk.1, hk.2.2⟩, hk.2.1⟩)) hg hat); have n3_ := Aside0.mk (Kd.V_afterv (ok := (fun k_ => (P0_ k_ ∨ w.heap.size ≤ k_) ∧ some k_ ≠ (u10 : Value).ownBlock)) (by (with_reducible repeat (first | apply Kd.V_alloc | apply Kd.V_drewN | apply Kd.V_drew)); exact Kd.V_mono HL265_4.out (fun _ hk => ⟨⟨hk.1, hk.2.2⟩, hk.2.1⟩)) hg hat); have n4_ := Aside0.mk (hb); have n5_ := Aside0.mk (ho); clear HO_0; clear HO_10; clear HL258_4; clear HL265_4; clear HB; clear HO_9; have HO_0 := n0_; have HO_10 := n1_; have HL258_4 := n2_; have HL265_4 := n3_; have HB := n4_; have HO268 := n5_; clear n0_ n1_ n2_ n3_ n4_ n5_; clear ho hb hg hat))
                go_roundg k1
                case measure => have := HK1.out; omega
                case rel => exact ⟨(y266), (x10_1), (true), (x12_1), (wrap64 (x13_1 + 1)), (by first | rfl | (simp; done) | (simp [*]; done)), (by first | rfl | (simp; done) | (simp [*]; done)), (by first | rfl | (simp; done) | (simp [*]; done)), H', ⟨by have := HK1.out; omega⟩, ⟨by (with_reducible repeat (first | apply Kd.V_alloc | apply Kd.V_drewN | apply Kd.V_drew)); exact Kd.V_mono HO_0.out (fun _ hk => ⟨hk.1.1, ⟨hk.2, hk.1.2⟩⟩)⟩, ⟨by (with_reducible repeat (first | apply Kd.N_alloc | apply Kd.N_drewN | apply Kd.N_drew)); exact HO268.out⟩, ⟨by (with_reducible repeat (first | apply Kd.N_alloc | apply Kd.N_drewN | apply Kd.N_drew)); exact HO_10.out⟩, ⟨by repeat (first | (with_reducible first | exact HB.out | apply below_alloc | apply pw_below_drewN | apply below_drew1) | exact HB.out)⟩⟩
              · replace c16 := Bool.eq_false_iff.mpr c16
                subst c16
                have H1 : ((acl_Matches.f k1 (false) ((rd_T25 l0 x13_1).f1) ((rd_T25 l0 x13_1).f2) ((rd_T25 l0 x13_1).f3) ((rd_T25 l0 x13_1).f4) a1 a2 a3).bind fun t270 => (tollhouselaw14_AclDenies.l0 k1 l0 a1 a2 a3 y266 x10_1 t270 x12_1 (wrap64 (x13_1 + 1)))) = some r := by rw [if_neg (show ¬ (false = true) by decide)] at H; exact H
                clear H
                have H := H1
                clear H1
                replace H := Option.bind_eq_some_iff.mp H
                obtain ⟨t270, A180, H⟩ := H
                replace H : (tollhouselaw14_AclDenies.l0 k1 l0 a1 a2 a3 y266 x10_1 t270 x12_1 (wrap64 (x13_1 + 1))) = some r := H
                have A18 := Aside0.mk A180
                clear A180
                have H' := Aside0.mk H
                clear H
                have p258 : 0 ≤ (x13_1 : Int) := of_decide_eq_true (by first | (with_reducible assumption) | assumption)
                have q258 : x13_1 < (l0.length : Int) := of_decide_eq_true (by first | (with_reducible assumption) | assumption)
                obtain ⟨ad258, A258_4, c258_4, e258, hx258_0, hx258_1, hx258_2, hx258_3, hx258_4, hl258_4, hi258_4⟩ := at_T25 (Kd.V_reads' HO_0.out).2.2 x13_1 p258 q258
                (try rw [← Nbq7.out] at hx258_0)
                cases e258
                obtain ⟨ce258, hce258, hMe258, hcc258⟩ := Kd.V_get HO_0.out z25 x13_1 p258 (by first | exact q258 | exact of_decide_eq_true (by first | (with_reducible assumption) | assumption) | (have e_ := (Kd.V_reads' HO_0.out).1; omega))
                obtain ⟨ua258_4, uc258_4, rfl, ul258_4, ge258_4⟩ := k25_openF hMe258
                have hv258_4 := hcc258 4 _ rfl
                rw [add_field _ _ 4 (by omega)] at hv258_4
                replace hv258_4 := Option.some.inj (hv258_4.symm.trans hx258_4)
                injection hv258_4 with hva_ hvn_ hvc_
                rw [hva_] at ge258_4
                rw [hvc_] at ul258_4
                have HL258_4 := Aside0.mk (show Kd.V Kd.string 9 _ w.heap.size _ _ ((rd_T25 l0 x13_1).f4) from Kd.V_mk ul258_4 ge258_4)
                clear hva_ hvn_ hvc_ ge258_4 ul258_4
                clear hcc258 hce258
                have HR258_4 := Aside0.mk hi258_4
                have HC258_4 := Aside0.mk hl258_4
                clear hi258_4 hl258_4
                replace p258 := eq_true p258
                replace q258 := eq_true q258
                have p265 : 0 ≤ (x13_1 : Int) := of_decide_eq_true (by first | (with_reducible assumption) | assumption)
                have q265 : x13_1 < (l0.length : Int) := of_decide_eq_true (by first | (with_reducible assumption) | assumption)
                obtain ⟨ad265, A265_4, c265_4, e265, hx265_0, hx265_1, hx265_2, hx265_3, hx265_4, hl265_4, hi265_4⟩ := at_T25 (Kd.V_reads' HO_0.out).2.2 x13_1 p265 q265
                (try rw [← Nbq7.out] at hx265_0)
                obtain rfl : ad258 = ad265 := (by injection e265)
                obtain ⟨ce265, hce265, hMe265, hcc265⟩ := Kd.V_get HO_0.out z25 x13_1 p265 (by first | exact q265 | exact of_decide_eq_true (by first | (with_reducible assumption) | assumption) | (have e_ := (Kd.V_reads' HO_0.out).1; omega))
                obtain ⟨ua265_4, uc265_4, rfl, ul265_4, ge265_4⟩ := k25_openF hMe265
                have hv265_4 := hcc265 4 _ rfl
                rw [add_field _ _ 4 (by omega)] at hv265_4
                replace hv265_4 := Option.some.inj (hv265_4.symm.trans hx265_4)
                injection hv265_4 with hva_ hvn_ hvc_
                rw [hva_] at ge265_4
                rw [hvc_] at ul265_4
                have HL265_4 := Aside0.mk (show Kd.V Kd.string 9 _ w.heap.size _ _ ((rd_T25 l0 x13_1).f4) from Kd.V_mk ul265_4 ge265_4)
                clear hva_ hvn_ hvc_ ge265_4 ul265_4
                clear hcc265 hce265
                have HR265_4 := Aside0.mk hi265_4
                have HC265_4 := Aside0.mk hl265_4
                clear hi265_4 hl265_4
                replace p265 := eq_true p265
                replace q265 := eq_true q265
                have ea_ := Option.some.inj (hx258_4.symm.trans hx265_4)
                injection ea_ with ea_ en_ ec_
                subst ea_
                subst ec_
                clear en_
                go_wp2_with (first | ((with_reducible refine gate_builtin (b := .append) (xs := #[.tmp 44, .tmp 49]) rfl ?_); at_builtin; refine Kd.N_append k25 (w0 := w) w.heap.size rfl (.tmp 44) (.tmp 49) 22 25 (.agg #[(.bool false), (.string ⟨#[]⟩), (.int .i64 0), (.int .i64 0), (.slice none 0 0)]) 64 rfl Tryd.underlying22 info25 rfl (by decide) (by omega) u9 x9_1 (⟨false, (rd_T25 l0 x13_1).f1, (rd_T25 l0 x13_1).f2, (rd_T25 l0 x13_1).f3, (rd_T25 l0 x13_1).f4⟩ : S25) [.bool false, .string ((rd_T25 l0 x13_1).f1), .int .i64 ((rd_T25 l0 x13_1).f2), .int .i64 ((rd_T25 l0 x13_1).f3), .slice A258_4 ((rd_T25 l0 x13_1).f4).length c258_4] (fun k_ => (P0_ k_ ∨ w.heap.size ≤ k_) ∧ some k_ ≠ (u10 : Value).ownBlock) (fun k_ => ((fun k_ => (P0_ k_ ∨ w.heap.size ≤ k_) ∧ some k_ ≠ (u10 : Value).ownBlock)) k_ ∧ some k_ ≠ (u9 : Value).ownBlock) rfl rfl ?aP (fun _ hk => hk) ?aF ?aO ?aB ?aS ?aL ?_; (case aP => exact (k25_mkF _ _ (⟨false, (rd_T25 l0 x13_1).f1, (rd_T25 l0 x13_1).f2, (rd_T25 l0 x13_1).f3, (rd_T25 l0 x13_1).f4⟩ : S25) (Kd.V_reads' (Kd.V_mono (ok' := (fun k_ => ((fun k_ => (P0_ k_ ∨ w.heap.size ≤ k_) ∧ some k_ ≠ (u10 : Value).ownBlock)) k_ ∧ some k_ ≠ (u9 : Value).ownBlock)) (HL265_4.out) (fun k_ hk => ⟨⟨hk.1, hk.2.2⟩, hk.2.1⟩))).2.1 (Kd.V_F (Kd.V_mono (ok' := (fun k_ => ((fun k_ => (P0_ k_ ∨ w.heap.size ≤ k_) ∧ some k_ ≠ (u10 : Value).ownBlock)) k_ ∧ some k_ ≠ (u9 : Value).ownBlock)) (HL265_4.out) (fun k_ hk => ⟨⟨hk.1, hk.2.2⟩, hk.2.1⟩))))); (case aB => exact (by repeat (first | (with_reducible first | exact HB.out | apply below_alloc | apply pw_below_drewN | apply below_drew1) | exact HB.out))); (case aF => exact (fun k_ hk => ⟨(.inr (Nat.le_trans (below_size (by repeat (first | (with_reducible first | exact HB.out | apply below_alloc | apply pw_below_drewN | apply below_drew1) | exact HB.out))) hk)), Kd.fresh' (Kd.N_lt (by (with_reducible repeat (first | apply Kd.N_alloc | apply Kd.N_drewN | apply Kd.N_drew)); exact HO_10.out)) k_ hk⟩)); (case aO => exact (by (with_reducible repeat (first | apply Kd.N_alloc | apply Kd.N_drewN | apply Kd.N_drew)); exact HO_9.out)); (case aS => exact (below_size (by repeat (first | (with_reducible first | exact HB.out | apply below_alloc | apply pw_below_drewN | apply below_drew1) | exact HB.out)))); (case aL => have := LMc15.out; omega); intro v267 w19 ho hb hg hat; rw [← Ny266.out] at ho; have n0_ := Aside0.mk (Kd.V_afterv (ok := (fun k_ => (P0_ k_ ∨ w.heap.size ≤ k_) ∧ some k_ ≠ (u10 : Value).ownBlock)) (by (with_reducible repeat (first | apply Kd.V_alloc | apply Kd.V_drewN | apply Kd.V_drew)); exact Kd.V_mono HO_0.out (fun _ hk => ⟨⟨hk.1, hk.2.2⟩, hk.2.1⟩)) hg hat); have n1_ := Aside0.mk (Kd.N_afterv (ok := (fun k_ => (P0_ k_ ∨ w.heap.size ≤ k_))) (by (with_reducible repeat (first | apply Kd.N_alloc | apply Kd.N_drewN | apply Kd.N_drew)); exact HO_10.out) hg hat); have n2_ := Aside0.mk (Kd.V_afterv (ok := (fun k_ => (P0_ k_ ∨ w.heap.size ≤ k_) ∧ some k_ ≠ (u10 : Value).ownBlock)) (by (with_reducible repeat (first | apply Kd.V_alloc | apply Kd.V_drewN | apply Kd.V_drew)); exact Kd.V_mono HL258_4.out (fun _ hk => ⟨⟨hk.1, hk.2.2⟩, hk.2.1⟩)) hg hat); have n3_ := Aside0.mk (Kd.V_afterv (ok := (fun k_ => (P0_ k_ ∨ w.heap.size ≤ k_) ∧ some k_ ≠ (u10 : Value).ownBlock)) (by (with_reducible repeat (first | apply Kd.V_alloc | apply Kd.V_drewN | apply Kd.V_drew)); exact Kd.V_mono HL265_4.out (fun _ hk => ⟨⟨hk.1, hk.2.2⟩, hk.2.1⟩)) hg hat); have n4_ := Aside0.mk (hb); have n5_ := Aside0.mk (ho); clear HO_0; clear HO_10; clear HL258_4; clear HL265_4; clear HB; clear HO_9; have HO_0 := n0_; have HO_10 := n1_; have HL258_4 := n2_; have HL265_4 := n3_; have HB := n4_; have HO268 := n5_; clear n0_ n1_ n2_ n3_ n4_ n5_; clear ho hb hg hat; have p269 : 0 ≤ (x13_1 : Int) := of_decide_eq_true (by first | (with_reducible assumption) | assumption); have q269 : x13_1 < (l0.length : Int) := of_decide_eq_true (by first | (with_reducible assumption) | assumption); obtain ⟨ad269, A269_4, c269_4, e269, hx269_0, hx269_1, hx269_2, hx269_3, hx269_4, hl269_4, hi269_4⟩ := at_T25 (Kd.V_reads' HO_0.out).2.2 x13_1 p269 q269; (try rw [← Nbq7.out] at hx269_0); obtain rfl : ad258 = ad269 := (by injection e269); obtain ⟨ce269, hce269, hMe269, hcc269⟩ := Kd.V_get HO_0.out z25 x13_1 p269 (by first | exact q269 | exact of_decide_eq_true (by first | (with_reducible assumption) | assumption) | (have e_ := (Kd.V_reads' HO_0.out).1; omega)); obtain ⟨ua269_4, uc269_4, rfl, ul269_4, ge269_4⟩ := k25_openF hMe269; have hv269_4 := hcc269 4 _ rfl; rw [add_field _ _ 4 (by omega)] at hv269_4; replace hv269_4 := Option.some.inj (hv269_4.symm.trans hx269_4); injection hv269_4 with hva_ hvn_ hvc_; rw [hva_] at ge269_4; rw [hvc_] at ul269_4; have HL269_4 := Aside0.mk (show Kd.V Kd.string 9 _ w.heap.size _ _ ((rd_T25 l0 x13_1).f4) from Kd.V_mk ul269_4 ge269_4); clear hva_ hvn_ hvc_ ge269_4 ul269_4; clear hcc269 hce269; have HR269_4 := Aside0.mk hi269_4; have HC269_4 := Aside0.mk hl269_4; clear hi269_4 hl269_4; replace p269 := eq_true p269; replace q269 := eq_true q269) | (go_at_call 12; (with_reducible refine (acl_Matches.calls k1 false ((rd_T25 l0 x13_1).f1) ((rd_T25 l0 x13_1).f2) ((rd_T25 l0 x13_1).f3) _ _ ((rd_T25 l0 x13_1).f4) a1 a2 a3 t270 _ ?side1 ?side2 A18.out).mono ?_); (case side1 => repeat (first | exact (by repeat (first | (with_reducible exact HR269_4.out) | (with_reducible refine Kd.C_alloc ?_ _) | (with_reducible refine Kd.C_drewN ?_ _) | (with_reducible refine Kd.C_drew ?_) | exact HR269_4.out)) | (with_reducible refine Kd.C_alloc ?_ _) | (with_reducible refine Kd.C_drewN ?_ _) | (with_reducible refine Kd.C_drew ?_))); (case side2 => exact HC269_4.out); rintro e w20 ⟨rfl, hb⟩; have n0_ := Aside0.mk (Kd.V_below (by (with_reducible repeat (first | apply Kd.V_alloc | apply Kd.V_drewN | apply Kd.V_drew)); exact HO_0.out) hb); have n1_ := Aside0.mk (Kd.N_below (by (with_reducible repeat (first | apply Kd.N_alloc | apply Kd.N_drewN | apply Kd.N_drew)); exact HO_10.out) hb); have n2_ := Aside0.mk (Kd.V_below (by (with_reducible repeat (first | apply Kd.V_alloc | apply Kd.V_drewN | apply Kd.V_drew)); exact HL258_4.out) hb); have n3_ := Aside0.mk (Kd.V_below (by (with_reducible repeat (first | apply Kd.V_alloc | apply Kd.V_drewN | apply Kd.V_drew)); exact HL265_4.out) hb); have n4_ := Aside0.mk (Kd.N_below (by (with_reducible repeat (first | apply Kd.N_alloc | apply Kd.N_drewN | apply Kd.N_drew)); exact HO268.out) hb); have n5_ := Aside0.mk (Kd.V_below (by (with_reducible repeat (first | apply Kd.V_alloc | apply Kd.V_drewN | apply Kd.V_drew)); exact HL269_4.out) hb); have n6_ := Aside0.mk (Kd.C_below (by repeat (first | (with_reducible exact HR269_4.out) | (with_reducible refine Kd.C_alloc ?_ _) | (with_reducible refine Kd.C_drewN ?_ _) | (with_reducible refine Kd.C_drew ?_) | exact HR269_4.out)) hb); have n7_ := Aside0.mk (below_step (by repeat (first | (with_reducible first | exact HB.out | apply below_alloc | apply pw_below_drewN | apply below_drew1) | exact HB.out)) hb); clear HO_0; clear HO_10; clear HL258_4; clear HL265_4; clear HO268; clear HL269_4; clear HR269_4; clear HB; have HO_0 := n0_; have HO_10 := n1_; have HL258_4 := n2_; have HL265_4 := n3_; have HO268 := n4_; have HL269_4 := n5_; have HR269_4 := n6_; have HB := n7_; clear n0_ n1_ n2_ n3_ n4_ n5_ n6_ n7_; (try clear hb); (try clear hb2); (try clear hk); (try clear hi)))
                go_roundg k1
                case measure => have := HK1.out; omega
                case rel => exact ⟨(y266), (x10_1), (t270), (x12_1), (wrap64 (x13_1 + 1)), (by first | rfl | (simp; done) | (simp [*]; done)), (by first | rfl | (simp; done) | (simp [*]; done)), (by first | rfl | (simp; done) | (simp [*]; done)), H', ⟨by have := HK1.out; omega⟩, ⟨by (with_reducible repeat (first | apply Kd.V_alloc | apply Kd.V_drewN | apply Kd.V_drew)); exact Kd.V_mono HO_0.out (fun _ hk => ⟨hk.1.1, ⟨hk.2, hk.1.2⟩⟩)⟩, ⟨by (with_reducible repeat (first | apply Kd.N_alloc | apply Kd.N_drewN | apply Kd.N_drew)); exact HO268.out⟩, ⟨by (with_reducible repeat (first | apply Kd.N_alloc | apply Kd.N_drewN | apply Kd.N_drew)); exact HO_10.out⟩, ⟨by repeat (first | (with_reducible first | exact HB.out | apply below_alloc | apply pw_below_drewN | apply below_drew1) | exact HB.out)⟩⟩
            · rw [if_neg c15] at H
              exact absurd H (by simp)
        · rw [if_neg c6] at H
          exact absurd H (by simp)
      · rw [if_neg c5] at H
        have c5b0 : decide (x13_1 < (l0.length : Int)) = false := decide_eq_false c5
        clear c5
        by_cases c21 : x9_1.length + x10_1.length < 2199023255552
        · rw [if_pos c21] at H
          have LMc21 := Aside0.mk c21
          clear c21
          obtain ⟨y271, hy271⟩ : ∃ y_ : List (S25), y_ = (x9_1 ++ x10_1) := ⟨_, rfl⟩
          replace H : ((acl_Admits.f k1 y271 a1 a2 a3).bind fun t274 => (if x12_1 = true then (if (t274 == (!x11_1)) = true then ((acl_Admits.f k1 l0 a1 a2 a3).bind fun t275 => (if t275 = true then (if t274 = true then ((acl_Admits.f k1 l0 a1 a2 a3).bind fun t276 => (if t276 = true then ((tollhouselaw14_wakes.f k1).bind fun t277 => (some t277)) else (some false))) else ((tollhouselaw14_wakes.f k1).bind fun t278 => (some t278))) else (if t274 = true then ((acl_Admits.f k1 l0 a1 a2 a3).bind fun t279 => (if t279 = true then ((tollhouselaw14_wakes.f k1).bind fun t280 => (some t280)) else (some false))) else ((tollhouselaw14_wakes.f k1).bind fun t281 => (some t281))))) else (some false)) else (if (t274 == false) = true then ((acl_Admits.f k1 l0 a1 a2 a3).bind fun t282 => (if t282 = true then (some false) else (if t274 = true then ((acl_Admits.f k1 l0 a1 a2 a3).bind fun t283 => (if t283 = true then ((tollhouselaw14_wakes.f k1).bind fun t284 => (some t284)) else (some false))) else ((tollhouselaw14_wakes.f k1).bind fun t285 => (some t285))))) else (some false)))) = some r := by first | (rw [hy271]; with_reducible exact H) | (have H2_ := (Option.bind_some _ _).symm.trans H; rw [hy271]; with_reducible exact H2_) | (have H2_ := (Option.bind_some _ _).symm.trans H; with_reducible exact H2_) | with_reducible exact H | (rw [hy271]; exact H) | exact H
          have Ny271 := Aside0.mk hy271
          clear hy271
          replace H := Option.bind_eq_some_iff.mp H
          obtain ⟨t274, A220, H⟩ := H
          replace H : (if x12_1 = true then (if (t274 == (!x11_1)) = true then ((acl_Admits.f k1 l0 a1 a2 a3).bind fun t275 => (if t275 = true then (if t274 = true then ((acl_Admits.f k1 l0 a1 a2 a3).bind fun t276 => (if t276 = true then ((tollhouselaw14_wakes.f k1).bind fun t277 => (some t277)) else (some false))) else ((tollhouselaw14_wakes.f k1).bind fun t278 => (some t278))) else (if t274 = true then ((acl_Admits.f k1 l0 a1 a2 a3).bind fun t279 => (if t279 = true then ((tollhouselaw14_wakes.f k1).bind fun t280 => (some t280)) else (some false))) else ((tollhouselaw14_wakes.f k1).bind fun t281 => (some t281))))) else (some false)) else (if (t274 == false) = true then ((acl_Admits.f k1 l0 a1 a2 a3).bind fun t282 => (if t282 = true then (some false) else (if t274 = true then ((acl_Admits.f k1 l0 a1 a2 a3).bind fun t283 => (if t283 = true then ((tollhouselaw14_wakes.f k1).bind fun t284 => (some t284)) else (some false))) else ((tollhouselaw14_wakes.f k1).bind fun t285 => (some t285))))) else (some false))) = some r := H
          have A22 := Aside0.mk A220
          clear A220
          by_cases c23 : x12_1 = true
          · subst c23
            have H1 : (if (t274 == (!x11_1)) = true then ((acl_Admits.f k1 l0 a1 a2 a3).bind fun t275 => (if t275 = true then (if t274 = true then ((acl_Admits.f k1 l0 a1 a2 a3).bind fun t276 => (if t276 = true then ((tollhouselaw14_wakes.f k1).bind fun t277 => (some t277)) else (some false))) else ((tollhouselaw14_wakes.f k1).bind fun t278 => (some t278))) else (if t274 = true then ((acl_Admits.f k1 l0 a1 a2 a3).bind fun t279 => (if t279 = true then ((tollhouselaw14_wakes.f k1).bind fun t280 => (some t280)) else (some false))) else ((tollhouselaw14_wakes.f k1).bind fun t281 => (some t281))))) else (some false)) = some r := by rw [if_pos rfl] at H; exact H
            clear H
            have H := H1
            clear H1
            by_cases c24 : (t274 == (!x11_1)) = true
            · rw [if_pos c24] at H
              have c24b0 : (t274 == (!x11_1)) = true := c24
              (try (have c24b1 : decide (t274 = (!x11_1)) = true := by simpa using c24))
              (try (have c24b2 : (t274 == (!x11_1)) = true := by simpa using c24))
              clear c24
              replace H := Option.bind_eq_some_iff.mp H
              obtain ⟨t275, A250, H⟩ := H
              replace H : (if t275 = true then (if t274 = true then ((acl_Admits.f k1 l0 a1 a2 a3).bind fun t276 => (if t276 = true then ((tollhouselaw14_wakes.f k1).bind fun t277 => (some t277)) else (some false))) else ((tollhouselaw14_wakes.f k1).bind fun t278 => (some t278))) else (if t274 = true then ((acl_Admits.f k1 l0 a1 a2 a3).bind fun t279 => (if t279 = true then ((tollhouselaw14_wakes.f k1).bind fun t280 => (some t280)) else (some false))) else ((tollhouselaw14_wakes.f k1).bind fun t281 => (some t281)))) = some r := H
              have A25 := Aside0.mk A250
              clear A250
              by_cases c26 : t275 = true
              · subst c26
                have H1 : (if t274 = true then ((acl_Admits.f k1 l0 a1 a2 a3).bind fun t276 => (if t276 = true then ((tollhouselaw14_wakes.f k1).bind fun t277 => (some t277)) else (some false))) else ((tollhouselaw14_wakes.f k1).bind fun t278 => (some t278))) = some r := by rw [if_pos rfl] at H; exact H
                clear H
                have H := H1
                clear H1
                by_cases c27 : t274 = true
                · subst c27
                  have H1 : ((acl_Admits.f k1 l0 a1 a2 a3).bind fun t276 => (if t276 = true then ((tollhouselaw14_wakes.f k1).bind fun t277 => (some t277)) else (some false))) = some r := by rw [if_pos rfl] at H; exact H
                  clear H
                  have H := H1
                  clear H1
                  replace H := Option.bind_eq_some_iff.mp H
                  obtain ⟨t276, A280, H⟩ := H
                  replace H : (if t276 = true then ((tollhouselaw14_wakes.f k1).bind fun t277 => (some t277)) else (some false)) = some r := H
                  have A28 := Aside0.mk A280
                  clear A280
                  by_cases c29 : t276 = true
                  · subst c29
                    have H1 : ((tollhouselaw14_wakes.f k1).bind fun t277 => (some t277)) = some r := by rw [if_pos rfl] at H; exact H
                    clear H
                    have H := H1
                    clear H1
                    replace H := Option.bind_eq_some_iff.mp H
                    obtain ⟨t277, A300, H⟩ := H
                    replace H : (some t277) = some r := H
                    have A30 := Aside0.mk A300
                    clear A300
                    obtain rfl := Option.some.inj H
                    obtain ⟨Ao32, co32, eo32⟩ := Kd.N_slice HO_10.out
                    subst eo32
                    go_wp2_with (first | ((with_reducible refine gate_builtin (b := .append) (xs := #[.tmp 62, .tmp 63]) rfl ?_); at_builtin; refine Kd.N_append_rows k25 (w0 := w) w.heap.size rfl (.tmp 62) (.tmp 63) 22 25 (.agg #[(.bool false), (.string ⟨#[]⟩), (.int .i64 0), (.int .i64 0), (.slice none 0 0)]) 64 rfl Tryd.underlying22 info25 rfl (by decide) (by omega) u9 x9_1 x10_1 _ _ _ (fun k_ => (P0_ k_ ∨ w.heap.size ≤ k_)) (fun k_ => ((fun k_ => (P0_ k_ ∨ w.heap.size ≤ k_))) k_ ∧ some k_ ≠ (u9 : Value).ownBlock) rfl rfl ?aO ?aR (fun _ hk => hk) ?aF ?aB ?aS ?aL ?_; (case aR => exact (by skip; exact Kd.N_F (Kd.N_mono (ok' := (fun k_ => ((fun k_ => (P0_ k_ ∨ w.heap.size ≤ k_))) k_ ∧ some k_ ≠ (u9 : Value).ownBlock)) (HO_10.out) (fun k_ hk => ⟨hk.1, hk.2⟩)))); (case aB => exact (by repeat (first | (with_reducible first | exact HB.out | apply below_alloc | apply pw_below_drewN | apply below_drew1) | exact HB.out))); (case aF => exact (fun k_ hk => (.inr (Nat.le_trans (below_size (by repeat (first | (with_reducible first | exact HB.out | apply below_alloc | apply pw_below_drewN | apply below_drew1) | exact HB.out))) hk)))); (case aO => exact (by (with_reducible repeat (first | apply Kd.N_alloc | apply Kd.N_drewN | apply Kd.N_drew)); exact Kd.N_mono HO_9.out (fun _ hk => hk.1))); (case aS => exact (below_size (by repeat (first | (with_reducible first | exact HB.out | apply below_alloc | apply pw_below_drewN | apply below_drew1) | exact HB.out)))); (case aL => have := LMc21.out; omega); intro v272 w31 ho hb hg hat; rw [← Ny271.out] at ho; have n0_ := Aside0.mk (Kd.V_afterv (ok := (fun k_ => (P0_ k_ ∨ w.heap.size ≤ k_) ∧ some k_ ≠ (.slice Ao32 x10_1.length co32 : Value).ownBlock)) (by (with_reducible repeat (first | apply Kd.V_alloc | apply Kd.V_drewN | apply Kd.V_drew)); exact Kd.V_mono HO_0.out (fun _ hk => ⟨⟨hk.1, hk.2.2⟩, hk.2.1⟩)) hg hat); have n1_ := Aside0.mk (Kd.N_afterv (ok := (fun k_ => (P0_ k_ ∨ w.heap.size ≤ k_))) (by (with_reducible repeat (first | apply Kd.N_alloc | apply Kd.N_drewN | apply Kd.N_drew)); exact HO_10.out) hg hat); have n2_ := Aside0.mk (hb); have n3_ := Aside0.mk (ho); clear HO_0; clear HO_10; clear HB; clear HO_9; have HO_0 := n0_; have HO_10 := n1_; have HB := n2_; have HO273 := n3_; clear n0_ n1_ n2_ n3_; clear ho hb hg hat; obtain ⟨Ao33, co33, eo33⟩ := Kd.N_slice HO273.out; subst eo33) | ((with_reducible refine gate_callee (f := 14) rfl ?_); refine goesL_ (some 68) rfl rfl Tryd.func14 (by kernel_rfl) rfl #[.slice Ao33 y271.length co33, .string a1, .int .i64 a2, .string a3] rfl (by (try simp only [List.map_toArray, List.map_cons, List.map_nil]); first | done | rfl | (simp only [List.length_drop, List.length_take]; rfl)) ?_; (with_reducible refine (acl_Admits.calls k1 _ _ y271 a1 a2 a3 true _ ?side1 ?side2 A22.out).mono ?_); (case side1 => repeat (first | exact (Kd.N_reads' HO273.out).2.2 | (with_reducible refine Kd.C_alloc ?_ _) | (with_reducible refine Kd.C_drewN ?_ _) | (with_reducible refine Kd.C_drew ?_))); (case side2 => exact (Kd.N_reads' HO273.out).2.1); rintro e w34 ⟨rfl, hb⟩; refine ⟨_, rfl, ?_⟩; have n0_ := Aside0.mk (Kd.V_below (by (with_reducible repeat (first | apply Kd.V_alloc | apply Kd.V_drewN | apply Kd.V_drew)); exact HO_0.out) hb); have n1_ := Aside0.mk (Kd.N_below (by (with_reducible repeat (first | apply Kd.N_alloc | apply Kd.N_drewN | apply Kd.N_drew)); exact HO_10.out) hb); have n2_ := Aside0.mk (Kd.N_below (by (with_reducible repeat (first | apply Kd.N_alloc | apply Kd.N_drewN | apply Kd.N_drew)); exact HO273.out) hb); have n3_ := Aside0.mk (below_step (by repeat (first | (with_reducible first | exact HB.out | apply below_alloc | apply pw_below_drewN | apply below_drew1) | exact HB.out)) hb); clear HO_0; clear HO_10; clear HO273; clear HB; have HO_0 := n0_; have HO_10 := n1_; have HO273 := n2_; have HB := n3_; clear n0_ n1_ n2_ n3_; (try clear hb); (try clear hb2); (try clear hk); (try clear hi)) | (go_at_call 14; (with_reducible refine (acl_Admits.calls k1 _ _ l0 a1 a2 a3 true _ ?side1 ?side2 A25.out).mono ?_); (case side1 => repeat (first | exact (Kd.V_reads' HO_0.out).2.2 | (with_reducible refine Kd.C_alloc ?_ _) | (with_reducible refine Kd.C_drewN ?_ _) | (with_reducible refine Kd.C_drew ?_))); (case side2 => exact (Kd.V_reads' HO_0.out).2.1); rintro e w35 ⟨rfl, hb⟩; have n0_ := Aside0.mk (Kd.V_below (by (with_reducible repeat (first | apply Kd.V_alloc | apply Kd.V_drewN | apply Kd.V_drew)); exact HO_0.out) hb); have n1_ := Aside0.mk (Kd.N_below (by (with_reducible repeat (first | apply Kd.N_alloc | apply Kd.N_drewN | apply Kd.N_drew)); exact HO_10.out) hb); have n2_ := Aside0.mk (Kd.N_below (by (with_reducible repeat (first | apply Kd.N_alloc | apply Kd.N_drewN | apply Kd.N_drew)); exact HO273.out) hb); have n3_ := Aside0.mk (below_step (by repeat (first | (with_reducible first | exact HB.out | apply below_alloc | apply pw_below_drewN | apply below_drew1) | exact HB.out)) hb); clear HO_0; clear HO_10; clear HO273; clear HB; have HO_0 := n0_; have HO_10 := n1_; have HO273 := n2_; have HB := n3_; clear n0_ n1_ n2_ n3_; (try clear hb); (try clear hb2); (try clear hk); (try clear hi)) | (go_at_call 14; (with_reducible refine (acl_Admits.calls k1 _ _ l0 a1 a2 a3 true _ ?side1 ?side2 A28.out).mono ?_); (case side1 => repeat (first | exact (Kd.V_reads' HO_0.out).2.2 | (with_reducible refine Kd.C_alloc ?_ _) | (with_reducible refine Kd.C_drewN ?_ _) | (with_reducible refine Kd.C_drew ?_))); (case side2 => exact (Kd.V_reads' HO_0.out).2.1); rintro e w36 ⟨rfl, hb⟩; have n0_ := Aside0.mk (Kd.V_below (by (with_reducible repeat (first | apply Kd.V_alloc | apply Kd.V_drewN | apply Kd.V_drew)); exact HO_0.out) hb); have n1_ := Aside0.mk (Kd.N_below (by (with_reducible repeat (first | apply Kd.N_alloc | apply Kd.N_drewN | apply Kd.N_drew)); exact HO_10.out) hb); have n2_ := Aside0.mk (Kd.N_below (by (with_reducible repeat (first | apply Kd.N_alloc | apply Kd.N_drewN | apply Kd.N_drew)); exact HO273.out) hb); have n3_ := Aside0.mk (below_step (by repeat (first | (with_reducible first | exact HB.out | apply below_alloc | apply pw_below_drewN | apply below_drew1) | exact HB.out)) hb); clear HO_0; clear HO_10; clear HO273; clear HB; have HO_0 := n0_; have HO_10 := n1_; have HO273 := n2_; have HB := n3_; clear n0_ n1_ n2_ n3_; (try clear hb); (try clear hb2); (try clear hk); (try clear hi)) | (go_at_call 16; (with_reducible refine (tollhouselaw14_wakes.calls k1 t277 _ ?sideT A30.out).mono ?_); (case sideT => repeat (first | exact HT.out | exact (Tab.below HT.out HB.out) | (with_reducible first | refine Tab.alloc ?_ _ | refine Tab.drewN ?_ _ | refine Tab.drew ?_))); rintro e w37 ⟨rfl, hb⟩; have n0_ := Aside0.mk (Kd.V_below (by (with_reducible repeat (first | apply Kd.V_alloc | apply Kd.V_drewN | apply Kd.V_drew)); exact HO_0.out) hb); have n1_ := Aside0.mk (Kd.N_below (by (with_reducible repeat (first | apply Kd.N_alloc | apply Kd.N_drewN | apply Kd.N_drew)); exact HO_10.out) hb); have n2_ := Aside0.mk (Kd.N_below (by (with_reducible repeat (first | apply Kd.N_alloc | apply Kd.N_drewN | apply Kd.N_drew)); exact HO273.out) hb); have n3_ := Aside0.mk (below_step (by repeat (first | (with_reducible first | exact HB.out | apply below_alloc | apply pw_below_drewN | apply below_drew1) | exact HB.out)) hb); clear HO_0; clear HO_10; clear HO273; clear HB; have HO_0 := n0_; have HO_10 := n1_; have HO273 := n2_; have HB := n3_; clear n0_ n1_ n2_ n3_; (try clear hb); (try clear hb2); (try clear hk); (try clear hi)))
                    go_ret
                    exact ⟨by first | rfl | (simp [errW_none, errW_some] <;> rfl) | (simp [*, errW_none, errW_some] <;> rfl), by repeat (first | (with_reducible first | exact HB.out | apply below_alloc | apply pw_below_drewN | apply below_drew1) | exact HB.out)⟩
                  · replace c29 := Bool.eq_false_iff.mpr c29
                    subst c29
                    have H1 : (some false) = some r := by rw [if_neg (show ¬ (false = true) by decide)] at H; exact H
                    clear H
                    have H := H1
                    clear H1
                    exact absurd ((Option.some.inj H).trans hr_) (by decide)
                · replace c27 := Bool.eq_false_iff.mpr c27
                  subst c27
                  have H1 : ((tollhouselaw14_wakes.f k1).bind fun t278 => (some t278)) = some r := by rw [if_neg (show ¬ (false = true) by decide)] at H; exact H
                  clear H
                  have H := H1
                  clear H1
                  replace H := Option.bind_eq_some_iff.mp H
                  obtain ⟨t278, A380, H⟩ := H
                  replace H : (some t278) = some r := H
                  have A38 := Aside0.mk A380
                  clear A380
                  obtain rfl := Option.some.inj H
                  obtain ⟨Ao40, co40, eo40⟩ := Kd.N_slice HO_10.out
                  subst eo40
                  go_wp2_with (first | ((with_reducible refine gate_builtin (b := .append) (xs := #[.tmp 62, .tmp 63]) rfl ?_); at_builtin; refine Kd.N_append_rows k25 (w0 := w) w.heap.size rfl (.tmp 62) (.tmp 63) 22 25 (.agg #[(.bool false), (.string ⟨#[]⟩), (.int .i64 0), (.int .i64 0), (.slice none 0 0)]) 64 rfl Tryd.underlying22 info25 rfl (by decide) (by omega) u9 x9_1 x10_1 _ _ _ (fun k_ => (P0_ k_ ∨ w.heap.size ≤ k_)) (fun k_ => ((fun k_ => (P0_ k_ ∨ w.heap.size ≤ k_))) k_ ∧ some k_ ≠ (u9 : Value).ownBlock) rfl rfl ?aO ?aR (fun _ hk => hk) ?aF ?aB ?aS ?aL ?_; (case aR => exact (by skip; exact Kd.N_F (Kd.N_mono (ok' := (fun k_ => ((fun k_ => (P0_ k_ ∨ w.heap.size ≤ k_))) k_ ∧ some k_ ≠ (u9 : Value).ownBlock)) (HO_10.out) (fun k_ hk => ⟨hk.1, hk.2⟩)))); (case aB => exact (by repeat (first | (with_reducible first | exact HB.out | apply below_alloc | apply pw_below_drewN | apply below_drew1) | exact HB.out))); (case aF => exact (fun k_ hk => (.inr (Nat.le_trans (below_size (by repeat (first | (with_reducible first | exact HB.out | apply below_alloc | apply pw_below_drewN | apply below_drew1) | exact HB.out))) hk)))); (case aO => exact (by (with_reducible repeat (first | apply Kd.N_alloc | apply Kd.N_drewN | apply Kd.N_drew)); exact Kd.N_mono HO_9.out (fun _ hk => hk.1))); (case aS => exact (below_size (by repeat (first | (with_reducible first | exact HB.out | apply below_alloc | apply pw_below_drewN | apply below_drew1) | exact HB.out)))); (case aL => have := LMc21.out; omega); intro v272 w39 ho hb hg hat; rw [← Ny271.out] at ho; have n0_ := Aside0.mk (Kd.V_afterv (ok := (fun k_ => (P0_ k_ ∨ w.heap.size ≤ k_) ∧ some k_ ≠ (.slice Ao40 x10_1.length co40 : Value).ownBlock)) (by (with_reducible repeat (first | apply Kd.V_alloc | apply Kd.V_drewN | apply Kd.V_drew)); exact Kd.V_mono HO_0.out (fun _ hk => ⟨⟨hk.1, hk.2.2⟩, hk.2.1⟩)) hg hat); have n1_ := Aside0.mk (Kd.N_afterv (ok := (fun k_ => (P0_ k_ ∨ w.heap.size ≤ k_))) (by (with_reducible repeat (first | apply Kd.N_alloc | apply Kd.N_drewN | apply Kd.N_drew)); exact HO_10.out) hg hat); have n2_ := Aside0.mk (hb); have n3_ := Aside0.mk (ho); clear HO_0; clear HO_10; clear HB; clear HO_9; have HO_0 := n0_; have HO_10 := n1_; have HB := n2_; have HO273 := n3_; clear n0_ n1_ n2_ n3_; clear ho hb hg hat; obtain ⟨Ao41, co41, eo41⟩ := Kd.N_slice HO273.out; subst eo41) | ((with_reducible refine gate_callee (f := 14) rfl ?_); refine goesL_ (some 68) rfl rfl Tryd.func14 (by kernel_rfl) rfl #[.slice Ao41 y271.length co41, .string a1, .int .i64 a2, .string a3] rfl (by (try simp only [List.map_toArray, List.map_cons, List.map_nil]); first | done | rfl | (simp only [List.length_drop, List.length_take]; rfl)) ?_; (with_reducible refine (acl_Admits.calls k1 _ _ y271 a1 a2 a3 false _ ?side1 ?side2 A22.out).mono ?_); (case side1 => repeat (first | exact (Kd.N_reads' HO273.out).2.2 | (with_reducible refine Kd.C_alloc ?_ _) | (with_reducible refine Kd.C_drewN ?_ _) | (with_reducible refine Kd.C_drew ?_))); (case side2 => exact (Kd.N_reads' HO273.out).2.1); rintro e w42 ⟨rfl, hb⟩; refine ⟨_, rfl, ?_⟩; have n0_ := Aside0.mk (Kd.V_below (by (with_reducible repeat (first | apply Kd.V_alloc | apply Kd.V_drewN | apply Kd.V_drew)); exact HO_0.out) hb); have n1_ := Aside0.mk (Kd.N_below (by (with_reducible repeat (first | apply Kd.N_alloc | apply Kd.N_drewN | apply Kd.N_drew)); exact HO_10.out) hb); have n2_ := Aside0.mk (Kd.N_below (by (with_reducible repeat (first | apply Kd.N_alloc | apply Kd.N_drewN | apply Kd.N_drew)); exact HO273.out) hb); have n3_ := Aside0.mk (below_step (by repeat (first | (with_reducible first | exact HB.out | apply below_alloc | apply pw_below_drewN | apply below_drew1) | exact HB.out)) hb); clear HO_0; clear HO_10; clear HO273; clear HB; have HO_0 := n0_; have HO_10 := n1_; have HO273 := n2_; have HB := n3_; clear n0_ n1_ n2_ n3_; (try clear hb); (try clear hb2); (try clear hk); (try clear hi)) | (go_at_call 14; (with_reducible refine (acl_Admits.calls k1 _ _ l0 a1 a2 a3 true _ ?side1 ?side2 A25.out).mono ?_); (case side1 => repeat (first | exact (Kd.V_reads' HO_0.out).2.2 | (with_reducible refine Kd.C_alloc ?_ _) | (with_reducible refine Kd.C_drewN ?_ _) | (with_reducible refine Kd.C_drew ?_))); (case side2 => exact (Kd.V_reads' HO_0.out).2.1); rintro e w43 ⟨rfl, hb⟩; have n0_ := Aside0.mk (Kd.V_below (by (with_reducible repeat (first | apply Kd.V_alloc | apply Kd.V_drewN | apply Kd.V_drew)); exact HO_0.out) hb); have n1_ := Aside0.mk (Kd.N_below (by (with_reducible repeat (first | apply Kd.N_alloc | apply Kd.N_drewN | apply Kd.N_drew)); exact HO_10.out) hb); have n2_ := Aside0.mk (Kd.N_below (by (with_reducible repeat (first | apply Kd.N_alloc | apply Kd.N_drewN | apply Kd.N_drew)); exact HO273.out) hb); have n3_ := Aside0.mk (below_step (by repeat (first | (with_reducible first | exact HB.out | apply below_alloc | apply pw_below_drewN | apply below_drew1) | exact HB.out)) hb); clear HO_0; clear HO_10; clear HO273; clear HB; have HO_0 := n0_; have HO_10 := n1_; have HO273 := n2_; have HB := n3_; clear n0_ n1_ n2_ n3_; (try clear hb); (try clear hb2); (try clear hk); (try clear hi)) | (go_at_call 16; (with_reducible refine (tollhouselaw14_wakes.calls k1 t278 _ ?sideT A38.out).mono ?_); (case sideT => repeat (first | exact HT.out | exact (Tab.below HT.out HB.out) | (with_reducible first | refine Tab.alloc ?_ _ | refine Tab.drewN ?_ _ | refine Tab.drew ?_))); rintro e w44 ⟨rfl, hb⟩; have n0_ := Aside0.mk (Kd.V_below (by (with_reducible repeat (first | apply Kd.V_alloc | apply Kd.V_drewN | apply Kd.V_drew)); exact HO_0.out) hb); have n1_ := Aside0.mk (Kd.N_below (by (with_reducible repeat (first | apply Kd.N_alloc | apply Kd.N_drewN | apply Kd.N_drew)); exact HO_10.out) hb); have n2_ := Aside0.mk (Kd.N_below (by (with_reducible repeat (first | apply Kd.N_alloc | apply Kd.N_drewN | apply Kd.N_drew)); exact HO273.out) hb); have n3_ := Aside0.mk (below_step (by repeat (first | (with_reducible first | exact HB.out | apply below_alloc | apply pw_below_drewN | apply below_drew1) | exact HB.out)) hb); clear HO_0; clear HO_10; clear HO273; clear HB; have HO_0 := n0_; have HO_10 := n1_; have HO273 := n2_; have HB := n3_; clear n0_ n1_ n2_ n3_; (try clear hb); (try clear hb2); (try clear hk); (try clear hi)))
                  go_ret
                  exact ⟨by first | rfl | (simp [errW_none, errW_some] <;> rfl) | (simp [*, errW_none, errW_some] <;> rfl), by repeat (first | (with_reducible first | exact HB.out | apply below_alloc | apply pw_below_drewN | apply below_drew1) | exact HB.out)⟩
              · replace c26 := Bool.eq_false_iff.mpr c26
                subst c26
                have H1 : (if t274 = true then ((acl_Admits.f k1 l0 a1 a2 a3).bind fun t279 => (if t279 = true then ((tollhouselaw14_wakes.f k1).bind fun t280 => (some t280)) else (some false))) else ((tollhouselaw14_wakes.f k1).bind fun t281 => (some t281))) = some r := by rw [if_neg (show ¬ (false = true) by decide)] at H; exact H
                clear H
                have H := H1
                clear H1
                by_cases c45 : t274 = true
                · subst c45
                  have H1 : ((acl_Admits.f k1 l0 a1 a2 a3).bind fun t279 => (if t279 = true then ((tollhouselaw14_wakes.f k1).bind fun t280 => (some t280)) else (some false))) = some r := by rw [if_pos rfl] at H; exact H
                  clear H
                  have H := H1
                  clear H1
                  replace H := Option.bind_eq_some_iff.mp H
                  obtain ⟨t279, A460, H⟩ := H
                  replace H : (if t279 = true then ((tollhouselaw14_wakes.f k1).bind fun t280 => (some t280)) else (some false)) = some r := H
                  have A46 := Aside0.mk A460
                  clear A460
                  by_cases c47 : t279 = true
                  · subst c47
                    exact absurd (A25.out.symm.trans A46.out) (by decide)
                  · replace c47 := Bool.eq_false_iff.mpr c47
                    subst c47
                    have H1 : (some false) = some r := by rw [if_neg (show ¬ (false = true) by decide)] at H; exact H
                    clear H
                    have H := H1
                    clear H1
                    exact absurd ((Option.some.inj H).trans hr_) (by decide)
                · replace c45 := Bool.eq_false_iff.mpr c45
                  subst c45
                  have H1 : ((tollhouselaw14_wakes.f k1).bind fun t281 => (some t281)) = some r := by rw [if_neg (show ¬ (false = true) by decide)] at H; exact H
                  clear H
                  have H := H1
                  clear H1
                  replace H := Option.bind_eq_some_iff.mp H
                  obtain ⟨t281, A560, H⟩ := H
                  replace H : (some t281) = some r := H
                  have A56 := Aside0.mk A560
                  clear A560
                  obtain rfl := Option.some.inj H
                  obtain ⟨Ao58, co58, eo58⟩ := Kd.N_slice HO_10.out
                  subst eo58
                  go_wp2_with (first | ((with_reducible refine gate_builtin (b := .append) (xs := #[.tmp 62, .tmp 63]) rfl ?_); at_builtin; refine Kd.N_append_rows k25 (w0 := w) w.heap.size rfl (.tmp 62) (.tmp 63) 22 25 (.agg #[(.bool false), (.string ⟨#[]⟩), (.int .i64 0), (.int .i64 0), (.slice none 0 0)]) 64 rfl Tryd.underlying22 info25 rfl (by decide) (by omega) u9 x9_1 x10_1 _ _ _ (fun k_ => (P0_ k_ ∨ w.heap.size ≤ k_)) (fun k_ => ((fun k_ => (P0_ k_ ∨ w.heap.size ≤ k_))) k_ ∧ some k_ ≠ (u9 : Value).ownBlock) rfl rfl ?aO ?aR (fun _ hk => hk) ?aF ?aB ?aS ?aL ?_; (case aR => exact (by skip; exact Kd.N_F (Kd.N_mono (ok' := (fun k_ => ((fun k_ => (P0_ k_ ∨ w.heap.size ≤ k_))) k_ ∧ some k_ ≠ (u9 : Value).ownBlock)) (HO_10.out) (fun k_ hk => ⟨hk.1, hk.2⟩)))); (case aB => exact (by repeat (first | (with_reducible first | exact HB.out | apply below_alloc | apply pw_below_drewN | apply below_drew1) | exact HB.out))); (case aF => exact (fun k_ hk => (.inr (Nat.le_trans (below_size (by repeat (first | (with_reducible first | exact HB.out | apply below_alloc | apply pw_below_drewN | apply below_drew1) | exact HB.out))) hk)))); (case aO => exact (by (with_reducible repeat (first | apply Kd.N_alloc | apply Kd.N_drewN | apply Kd.N_drew)); exact Kd.N_mono HO_9.out (fun _ hk => hk.1))); (case aS => exact (below_size (by repeat (first | (with_reducible first | exact HB.out | apply below_alloc | apply pw_below_drewN | apply below_drew1) | exact HB.out)))); (case aL => have := LMc21.out; omega); intro v272 w57 ho hb hg hat; rw [← Ny271.out] at ho; have n0_ := Aside0.mk (Kd.V_afterv (ok := (fun k_ => (P0_ k_ ∨ w.heap.size ≤ k_) ∧ some k_ ≠ (.slice Ao58 x10_1.length co58 : Value).ownBlock)) (by (with_reducible repeat (first | apply Kd.V_alloc | apply Kd.V_drewN | apply Kd.V_drew)); exact Kd.V_mono HO_0.out (fun _ hk => ⟨⟨hk.1, hk.2.2⟩, hk.2.1⟩)) hg hat); have n1_ := Aside0.mk (Kd.N_afterv (ok := (fun k_ => (P0_ k_ ∨ w.heap.size ≤ k_))) (by (with_reducible repeat (first | apply Kd.N_alloc | apply Kd.N_drewN | apply Kd.N_drew)); exact HO_10.out) hg hat); have n2_ := Aside0.mk (hb); have n3_ := Aside0.mk (ho); clear HO_0; clear HO_10; clear HB; clear HO_9; have HO_0 := n0_; have HO_10 := n1_; have HB := n2_; have HO273 := n3_; clear n0_ n1_ n2_ n3_; clear ho hb hg hat; obtain ⟨Ao59, co59, eo59⟩ := Kd.N_slice HO273.out; subst eo59) | ((with_reducible refine gate_callee (f := 14) rfl ?_); refine goesL_ (some 68) rfl rfl Tryd.func14 (by kernel_rfl) rfl #[.slice Ao59 y271.length co59, .string a1, .int .i64 a2, .string a3] rfl (by (try simp only [List.map_toArray, List.map_cons, List.map_nil]); first | done | rfl | (simp only [List.length_drop, List.length_take]; rfl)) ?_; (with_reducible refine (acl_Admits.calls k1 _ _ y271 a1 a2 a3 false _ ?side1 ?side2 A22.out).mono ?_); (case side1 => repeat (first | exact (Kd.N_reads' HO273.out).2.2 | (with_reducible refine Kd.C_alloc ?_ _) | (with_reducible refine Kd.C_drewN ?_ _) | (with_reducible refine Kd.C_drew ?_))); (case side2 => exact (Kd.N_reads' HO273.out).2.1); rintro e w60 ⟨rfl, hb⟩; refine ⟨_, rfl, ?_⟩; have n0_ := Aside0.mk (Kd.V_below (by (with_reducible repeat (first | apply Kd.V_alloc | apply Kd.V_drewN | apply Kd.V_drew)); exact HO_0.out) hb); have n1_ := Aside0.mk (Kd.N_below (by (with_reducible repeat (first | apply Kd.N_alloc | apply Kd.N_drewN | apply Kd.N_drew)); exact HO_10.out) hb); have n2_ := Aside0.mk (Kd.N_below (by (with_reducible repeat (first | apply Kd.N_alloc | apply Kd.N_drewN | apply Kd.N_drew)); exact HO273.out) hb); have n3_ := Aside0.mk (below_step (by repeat (first | (with_reducible first | exact HB.out | apply below_alloc | apply pw_below_drewN | apply below_drew1) | exact HB.out)) hb); clear HO_0; clear HO_10; clear HO273; clear HB; have HO_0 := n0_; have HO_10 := n1_; have HO273 := n2_; have HB := n3_; clear n0_ n1_ n2_ n3_; (try clear hb); (try clear hb2); (try clear hk); (try clear hi)) | (go_at_call 14; (with_reducible refine (acl_Admits.calls k1 _ _ l0 a1 a2 a3 false _ ?side1 ?side2 A25.out).mono ?_); (case side1 => repeat (first | exact (Kd.V_reads' HO_0.out).2.2 | (with_reducible refine Kd.C_alloc ?_ _) | (with_reducible refine Kd.C_drewN ?_ _) | (with_reducible refine Kd.C_drew ?_))); (case side2 => exact (Kd.V_reads' HO_0.out).2.1); rintro e w61 ⟨rfl, hb⟩; have n0_ := Aside0.mk (Kd.V_below (by (with_reducible repeat (first | apply Kd.V_alloc | apply Kd.V_drewN | apply Kd.V_drew)); exact HO_0.out) hb); have n1_ := Aside0.mk (Kd.N_below (by (with_reducible repeat (first | apply Kd.N_alloc | apply Kd.N_drewN | apply Kd.N_drew)); exact HO_10.out) hb); have n2_ := Aside0.mk (Kd.N_below (by (with_reducible repeat (first | apply Kd.N_alloc | apply Kd.N_drewN | apply Kd.N_drew)); exact HO273.out) hb); have n3_ := Aside0.mk (below_step (by repeat (first | (with_reducible first | exact HB.out | apply below_alloc | apply pw_below_drewN | apply below_drew1) | exact HB.out)) hb); clear HO_0; clear HO_10; clear HO273; clear HB; have HO_0 := n0_; have HO_10 := n1_; have HO273 := n2_; have HB := n3_; clear n0_ n1_ n2_ n3_; (try clear hb); (try clear hb2); (try clear hk); (try clear hi)) | (go_at_call 16; (with_reducible refine (tollhouselaw14_wakes.calls k1 t281 _ ?sideT A56.out).mono ?_); (case sideT => repeat (first | exact HT.out | exact (Tab.below HT.out HB.out) | (with_reducible first | refine Tab.alloc ?_ _ | refine Tab.drewN ?_ _ | refine Tab.drew ?_))); rintro e w62 ⟨rfl, hb⟩; have n0_ := Aside0.mk (Kd.V_below (by (with_reducible repeat (first | apply Kd.V_alloc | apply Kd.V_drewN | apply Kd.V_drew)); exact HO_0.out) hb); have n1_ := Aside0.mk (Kd.N_below (by (with_reducible repeat (first | apply Kd.N_alloc | apply Kd.N_drewN | apply Kd.N_drew)); exact HO_10.out) hb); have n2_ := Aside0.mk (Kd.N_below (by (with_reducible repeat (first | apply Kd.N_alloc | apply Kd.N_drewN | apply Kd.N_drew)); exact HO273.out) hb); have n3_ := Aside0.mk (below_step (by repeat (first | (with_reducible first | exact HB.out | apply below_alloc | apply pw_below_drewN | apply below_drew1) | exact HB.out)) hb); clear HO_0; clear HO_10; clear HO273; clear HB; have HO_0 := n0_; have HO_10 := n1_; have HO273 := n2_; have HB := n3_; clear n0_ n1_ n2_ n3_; (try clear hb); (try clear hb2); (try clear hk); (try clear hi)))
                  go_ret
                  exact ⟨by first | rfl | (simp [errW_none, errW_some] <;> rfl) | (simp [*, errW_none, errW_some] <;> rfl), by repeat (first | (with_reducible first | exact HB.out | apply below_alloc | apply pw_below_drewN | apply below_drew1) | exact HB.out)⟩
            · rw [if_neg c24] at H
              have c24b0 : (t274 == (!x11_1)) = false := by simpa using c24
              (try (have c24b1 : decide (t274 = (!x11_1)) = false := by simpa using c24))
              (try (have c24b2 : (t274 == (!x11_1)) = false := by simpa using c24))
              (try (have c24b3 : ¬ (t274 = (!x11_1)) := by simpa using c24))
              clear c24
              exact absurd ((Option.some.inj H).trans hr_) (by decide)
          · replace c23 := Bool.eq_false_iff.mpr c23
            subst c23
            have H1 : (if (t274 == false) = true then ((acl_Admits.f k1 l0 a1 a2 a3).bind fun t282 => (if t282 = true then (some false) else (if t274 = true then ((acl_Admits.f k1 l0 a1 a2 a3).bind fun t283 => (if t283 = true then ((tollhouselaw14_wakes.f k1).bind fun t284 => (some t284)) else (some false))) else ((tollhouselaw14_wakes.f k1).bind fun t285 => (some t285))))) else (some false)) = some r := by rw [if_neg (show ¬ (false = true) by decide)] at H; exact H
            clear H
            have H := H1
            clear H1
            by_cases c63 : (t274 == false) = true
            · rw [if_pos c63] at H
              have c63b0 : (t274 == false) = true := c63
              (try (have c63b1 : decide (t274 = false) = true := by simpa using c63))
              (try (have c63b2 : (t274 == false) = true := by simpa using c63))
              clear c63
              replace H := Option.bind_eq_some_iff.mp H
              obtain ⟨t282, A640, H⟩ := H
              replace H : (if t282 = true then (some false) else (if t274 = true then ((acl_Admits.f k1 l0 a1 a2 a3).bind fun t283 => (if t283 = true then ((tollhouselaw14_wakes.f k1).bind fun t284 => (some t284)) else (some false))) else ((tollhouselaw14_wakes.f k1).bind fun t285 => (some t285)))) = some r := H
              have A64 := Aside0.mk A640
              clear A640
              by_cases c65 : t282 = true
              · subst c65
                have H1 : (some false) = some r := by rw [if_pos rfl] at H; exact H
                clear H
                have H := H1
                clear H1
                exact absurd ((Option.some.inj H).trans hr_) (by decide)
              · replace c65 := Bool.eq_false_iff.mpr c65
                subst c65
                have H1 : (if t274 = true then ((acl_Admits.f k1 l0 a1 a2 a3).bind fun t283 => (if t283 = true then ((tollhouselaw14_wakes.f k1).bind fun t284 => (some t284)) else (some false))) else ((tollhouselaw14_wakes.f k1).bind fun t285 => (some t285))) = some r := by rw [if_neg (show ¬ (false = true) by decide)] at H; exact H
                clear H
                have H := H1
                clear H1
                by_cases c66 : t274 = true
                · subst c66
                  have H1 : ((acl_Admits.f k1 l0 a1 a2 a3).bind fun t283 => (if t283 = true then ((tollhouselaw14_wakes.f k1).bind fun t284 => (some t284)) else (some false))) = some r := by rw [if_pos rfl] at H; exact H
                  clear H
                  have H := H1
                  clear H1
                  replace H := Option.bind_eq_some_iff.mp H
                  obtain ⟨t283, A670, H⟩ := H
                  replace H : (if t283 = true then ((tollhouselaw14_wakes.f k1).bind fun t284 => (some t284)) else (some false)) = some r := H
                  have A67 := Aside0.mk A670
                  clear A670
                  by_cases c68 : t283 = true
                  · subst c68
                    exact absurd (A64.out.symm.trans A67.out) (by decide)
                  · replace c68 := Bool.eq_false_iff.mpr c68
                    subst c68
                    have H1 : (some false) = some r := by rw [if_neg (show ¬ (false = true) by decide)] at H; exact H
                    clear H
                    have H := H1
                    clear H1
                    exact absurd ((Option.some.inj H).trans hr_) (by decide)
                · replace c66 := Bool.eq_false_iff.mpr c66
                  subst c66
                  have H1 : ((tollhouselaw14_wakes.f k1).bind fun t285 => (some t285)) = some r := by rw [if_neg (show ¬ (false = true) by decide)] at H; exact H
                  clear H
                  have H := H1
                  clear H1
                  replace H := Option.bind_eq_some_iff.mp H
                  obtain ⟨t285, A770, H⟩ := H
                  replace H : (some t285) = some r := H
                  have A77 := Aside0.mk A770
                  clear A770
                  obtain rfl := Option.some.inj H
                  obtain ⟨Ao79, co79, eo79⟩ := Kd.N_slice HO_10.out
                  subst eo79
                  go_wp2_with (first | ((with_reducible refine gate_builtin (b := .append) (xs := #[.tmp 62, .tmp 63]) rfl ?_); at_builtin; refine Kd.N_append_rows k25 (w0 := w) w.heap.size rfl (.tmp 62) (.tmp 63) 22 25 (.agg #[(.bool false), (.string ⟨#[]⟩), (.int .i64 0), (.int .i64 0), (.slice none 0 0)]) 64 rfl Tryd.underlying22 info25 rfl (by decide) (by omega) u9 x9_1 x10_1 _ _ _ (fun k_ => (P0_ k_ ∨ w.heap.size ≤ k_)) (fun k_ => ((fun k_ => (P0_ k_ ∨ w.heap.size ≤ k_))) k_ ∧ some k_ ≠ (u9 : Value).ownBlock) rfl rfl ?aO ?aR (fun _ hk => hk) ?aF ?aB ?aS ?aL ?_; (case aR => exact (by skip; exact Kd.N_F (Kd.N_mono (ok' := (fun k_ => ((fun k_ => (P0_ k_ ∨ w.heap.size ≤ k_))) k_ ∧ some k_ ≠ (u9 : Value).ownBlock)) (HO_10.out) (fun k_ hk => ⟨hk.1, hk.2⟩)))); (case aB => exact (by repeat (first | (with_reducible first | exact HB.out | apply below_alloc | apply pw_below_drewN | apply below_drew1) | exact HB.out))); (case aF => exact (fun k_ hk => (.inr (Nat.le_trans (below_size (by repeat (first | (with_reducible first | exact HB.out | apply below_alloc | apply pw_below_drewN | apply below_drew1) | exact HB.out))) hk)))); (case aO => exact (by (with_reducible repeat (first | apply Kd.N_alloc | apply Kd.N_drewN | apply Kd.N_drew)); exact Kd.N_mono HO_9.out (fun _ hk => hk.1))); (case aS => exact (below_size (by repeat (first | (with_reducible first | exact HB.out | apply below_alloc | apply pw_below_drewN | apply below_drew1) | exact HB.out)))); (case aL => have := LMc21.out; omega); intro v272 w78 ho hb hg hat; rw [← Ny271.out] at ho; have n0_ := Aside0.mk (Kd.V_afterv (ok := (fun k_ => (P0_ k_ ∨ w.heap.size ≤ k_) ∧ some k_ ≠ (.slice Ao79 x10_1.length co79 : Value).ownBlock)) (by (with_reducible repeat (first | apply Kd.V_alloc | apply Kd.V_drewN | apply Kd.V_drew)); exact Kd.V_mono HO_0.out (fun _ hk => ⟨⟨hk.1, hk.2.2⟩, hk.2.1⟩)) hg hat); have n1_ := Aside0.mk (Kd.N_afterv (ok := (fun k_ => (P0_ k_ ∨ w.heap.size ≤ k_))) (by (with_reducible repeat (first | apply Kd.N_alloc | apply Kd.N_drewN | apply Kd.N_drew)); exact HO_10.out) hg hat); have n2_ := Aside0.mk (hb); have n3_ := Aside0.mk (ho); clear HO_0; clear HO_10; clear HB; clear HO_9; have HO_0 := n0_; have HO_10 := n1_; have HB := n2_; have HO273 := n3_; clear n0_ n1_ n2_ n3_; clear ho hb hg hat; obtain ⟨Ao80, co80, eo80⟩ := Kd.N_slice HO273.out; subst eo80) | ((with_reducible refine gate_callee (f := 14) rfl ?_); refine goesL_ (some 68) rfl rfl Tryd.func14 (by kernel_rfl) rfl #[.slice Ao80 y271.length co80, .string a1, .int .i64 a2, .string a3] rfl (by (try simp only [List.map_toArray, List.map_cons, List.map_nil]); first | done | rfl | (simp only [List.length_drop, List.length_take]; rfl)) ?_; (with_reducible refine (acl_Admits.calls k1 _ _ y271 a1 a2 a3 false _ ?side1 ?side2 A22.out).mono ?_); (case side1 => repeat (first | exact (Kd.N_reads' HO273.out).2.2 | (with_reducible refine Kd.C_alloc ?_ _) | (with_reducible refine Kd.C_drewN ?_ _) | (with_reducible refine Kd.C_drew ?_))); (case side2 => exact (Kd.N_reads' HO273.out).2.1); rintro e w81 ⟨rfl, hb⟩; refine ⟨_, rfl, ?_⟩; have n0_ := Aside0.mk (Kd.V_below (by (with_reducible repeat (first | apply Kd.V_alloc | apply Kd.V_drewN | apply Kd.V_drew)); exact HO_0.out) hb); have n1_ := Aside0.mk (Kd.N_below (by (with_reducible repeat (first | apply Kd.N_alloc | apply Kd.N_drewN | apply Kd.N_drew)); exact HO_10.out) hb); have n2_ := Aside0.mk (Kd.N_below (by (with_reducible repeat (first | apply Kd.N_alloc | apply Kd.N_drewN | apply Kd.N_drew)); exact HO273.out) hb); have n3_ := Aside0.mk (below_step (by repeat (first | (with_reducible first | exact HB.out | apply below_alloc | apply pw_below_drewN | apply below_drew1) | exact HB.out)) hb); clear HO_0; clear HO_10; clear HO273; clear HB; have HO_0 := n0_; have HO_10 := n1_; have HO273 := n2_; have HB := n3_; clear n0_ n1_ n2_ n3_; (try clear hb); (try clear hb2); (try clear hk); (try clear hi)) | (go_at_call 14; (with_reducible refine (acl_Admits.calls k1 _ _ l0 a1 a2 a3 false _ ?side1 ?side2 A64.out).mono ?_); (case side1 => repeat (first | exact (Kd.V_reads' HO_0.out).2.2 | (with_reducible refine Kd.C_alloc ?_ _) | (with_reducible refine Kd.C_drewN ?_ _) | (with_reducible refine Kd.C_drew ?_))); (case side2 => exact (Kd.V_reads' HO_0.out).2.1); rintro e w82 ⟨rfl, hb⟩; have n0_ := Aside0.mk (Kd.V_below (by (with_reducible repeat (first | apply Kd.V_alloc | apply Kd.V_drewN | apply Kd.V_drew)); exact HO_0.out) hb); have n1_ := Aside0.mk (Kd.N_below (by (with_reducible repeat (first | apply Kd.N_alloc | apply Kd.N_drewN | apply Kd.N_drew)); exact HO_10.out) hb); have n2_ := Aside0.mk (Kd.N_below (by (with_reducible repeat (first | apply Kd.N_alloc | apply Kd.N_drewN | apply Kd.N_drew)); exact HO273.out) hb); have n3_ := Aside0.mk (below_step (by repeat (first | (with_reducible first | exact HB.out | apply below_alloc | apply pw_below_drewN | apply below_drew1) | exact HB.out)) hb); clear HO_0; clear HO_10; clear HO273; clear HB; have HO_0 := n0_; have HO_10 := n1_; have HO273 := n2_; have HB := n3_; clear n0_ n1_ n2_ n3_; (try clear hb); (try clear hb2); (try clear hk); (try clear hi)) | (go_at_call 16; (with_reducible refine (tollhouselaw14_wakes.calls k1 t285 _ ?sideT A77.out).mono ?_); (case sideT => repeat (first | exact HT.out | exact (Tab.below HT.out HB.out) | (with_reducible first | refine Tab.alloc ?_ _ | refine Tab.drewN ?_ _ | refine Tab.drew ?_))); rintro e w83 ⟨rfl, hb⟩; have n0_ := Aside0.mk (Kd.V_below (by (with_reducible repeat (first | apply Kd.V_alloc | apply Kd.V_drewN | apply Kd.V_drew)); exact HO_0.out) hb); have n1_ := Aside0.mk (Kd.N_below (by (with_reducible repeat (first | apply Kd.N_alloc | apply Kd.N_drewN | apply Kd.N_drew)); exact HO_10.out) hb); have n2_ := Aside0.mk (Kd.N_below (by (with_reducible repeat (first | apply Kd.N_alloc | apply Kd.N_drewN | apply Kd.N_drew)); exact HO273.out) hb); have n3_ := Aside0.mk (below_step (by repeat (first | (with_reducible first | exact HB.out | apply below_alloc | apply pw_below_drewN | apply below_drew1) | exact HB.out)) hb); clear HO_0; clear HO_10; clear HO273; clear HB; have HO_0 := n0_; have HO_10 := n1_; have HO273 := n2_; have HB := n3_; clear n0_ n1_ n2_ n3_; (try clear hb); (try clear hb2); (try clear hk); (try clear hi)))
                  go_ret
                  exact ⟨by first | rfl | (simp [errW_none, errW_some] <;> rfl) | (simp [*, errW_none, errW_some] <;> rfl), by repeat (first | (with_reducible first | exact HB.out | apply below_alloc | apply pw_below_drewN | apply below_drew1) | exact HB.out)⟩
            · rw [if_neg c63] at H
              have c63b0 : (t274 == false) = false := by simpa using c63
              (try (have c63b1 : decide (t274 = false) = false := by simpa using c63))
              (try (have c63b2 : (t274 == false) = false := by simpa using c63))
              (try (have c63b3 : ¬ (t274 = false) := by simpa using c63))
              clear c63
              exact absurd ((Option.some.inj H).trans hr_) (by decide)
        · rw [if_neg c21] at H
          exact absurd H (by simp)

end Go.Proofs.YthfppglmjkjcoaaDoor.P
