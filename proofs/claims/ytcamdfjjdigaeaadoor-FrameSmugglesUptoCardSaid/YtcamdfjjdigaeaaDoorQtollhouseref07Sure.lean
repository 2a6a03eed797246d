/- The walk of the Go function tollhouseref07 Sure, and what it computes. By program. Conditions: none but those that each theorem names. -/
import Derived.Test.YtcamdfjjdigaeaaDoorQ0
import Derived.Test.YtcamdfjjdigaeaaDoorQRef02
import Derived.Test.YtcamdfjjdigaeaaDoorQRef07
import Derived.Test.YtcamdfjjdigaeaaDoorQRef03
namespace Go.Proofs.YtcamdfjjdigaeaaDoor.P
open Go.RowKit Go.Proofs.YtcamdfjjdigaeaaDoorW.PrintWords Go.Proofs.YtcamdfjjdigaeaaDoorW.PrintLast Go.Proofs.YtcamdfjjdigaeaaDoorW.PrintMore
attribute [local go_sem] max2_int min2_int max_two min_two max_three min_three max_four min_four
set_option linter.unusedVariables false
set_option linter.unusedSimpArgs false

/-! ### tollhouseref07_Sure: function 24 -/
mutual
def tollhouseref07_Sure.j0 : Nat → Int → List ByteArray → Int → List ByteArray → Int → Bool → Option (Bool)
  | 0, _, _, _, _, _, _ => none
  | k + 1, x0, x5, x6, x7, x8, x29 => if x29 = true then (some false) else (if x8 > 0 then (if x0 = 1 then (if (x7.length : Int) = 1 then (if 0 < (x7.length : Int) then ((tollhouseref02_Same.f k (rdOf ByteArray.empty x7 0) (⟨#[99, 104, 117, 110, 107, 101, 100]⟩ : ByteArray)).bind fun t255 => (some t255)) else (none)) else (some false)) else (some false)) else (if x6 = 0 then (some true) else (if (x5.length : Int) = 0 then (some false) else (if 0 < (x5.length : Int) then ((tollhouseref03_Decimal.f k (rdOf ByteArray.empty x5 0)).bind fun bt257 => (if bt257.2 = 5 then (some false) else (tollhouseref07_Sure.l0 k x5 bt257.1 bt257.2 1))) else (none)))))
def tollhouseref07_Sure.l0 : Nat → List ByteArray → Int → Int → Int → Option (Bool)
  | 0, _, _, _, _ => none
  | k + 1, x5, x9, x10, x11 => if x11 < (x5.length : Int) then (if 0 ≤ x11 then ((tollhouseref03_Decimal.f k (rdOf ByteArray.empty x5 x11)).bind fun bt260 => (if bt260.2 = x10 then (tollhouseref07_Sure.j2 k x5 x9 x10 x11 (bt260.1 != x9)) else (tollhouseref07_Sure.j2 k x5 x9 x10 x11 true))) else (none)) else (some true)
def tollhouseref07_Sure.j2 : Nat → List ByteArray → Int → Int → Int → Bool → Option (Bool)
  | 0, _, _, _, _, _ => none
  | k + 1, x5, x9, x10, x11, x80 => if x80 = true then (some false) else (if x10 = 3 then (if 0 ≤ x11 then (if x11 < (x5.length : Int) then (if 0 < (x5.length : Int) then (if (rdOf ByteArray.empty x5 x11).toList = (rdOf ByteArray.empty x5 0).toList then (tollhouseref07_Sure.l0 k x5 x9 x10 (wrap64 (x11 + 1))) else (some false)) else (none)) else (none)) else (none)) else (tollhouseref07_Sure.l0 k x5 x9 x10 (wrap64 (x11 + 1))))
end
def tollhouseref07_Sure.f (k : Nat) (a0 : Int) (l1 : List (S34)) : Option (Bool) := (tollhouseref07_elements.f k l1 (⟨#[99, 111, 110, 116, 101, 110, 116, 45, 108, 101, 110, 103, 116, 104]⟩ : ByteArray)).bind fun bt246 => ((tollhouseref07_elements.f k l1 (⟨#[116, 114, 97, 110, 115, 102, 101, 114, 45, 101, 110, 99, 111, 100, 105, 110, 103]⟩ : ByteArray)).bind fun bt250 => (if bt246.2 > 0 then (tollhouseref07_Sure.j0 k a0 bt246.1 bt246.2 bt250.1 bt250.2 (decide (bt250.2 > 0))) else (tollhouseref07_Sure.j0 k a0 bt246.1 bt246.2 bt250.1 bt250.2 false)))
theorem tollhouseref07_Sure.mono_l : ∀ k, (∀ y0 y1 y2 y3 y4 y5, LeO (tollhouseref07_Sure.j0 k y0 y1 y2 y3 y4 y5) (tollhouseref07_Sure.j0 (k + 1) y0 y1 y2 y3 y4 y5)) ∧ (∀ y0 y1 y2 y3, LeO (tollhouseref07_Sure.l0 k y0 y1 y2 y3) (tollhouseref07_Sure.l0 (k + 1) y0 y1 y2 y3)) ∧ (∀ y0 y1 y2 y3 y4, LeO (tollhouseref07_Sure.j2 k y0 y1 y2 y3 y4) (tollhouseref07_Sure.j2 (k + 1) y0 y1 y2 y3 y4))
  | 0 => ⟨fun _ _ _ _ _ _ r h => by simp [tollhouseref07_Sure.j0] at h, fun _ _ _ _ r h => by simp [tollhouseref07_Sure.l0] at h, fun _ _ _ _ _ r h => by simp [tollhouseref07_Sure.j2] at h⟩
  | k + 1 => by
    obtain ⟨ih0, ih1, ih2⟩ := tollhouseref07_Sure.mono_l k
    refine ⟨?_, ?_, ?_⟩
    · intro y0 y1 y2 y3 y4 y5
      unfold tollhouseref07_Sure.j0
      repeat' first
      | (with_reducible exact ih0 _ _ _ _ _ _)
      | (with_reducible exact ih1 _ _ _ _)
      | (with_reducible exact ih2 _ _ _ _ _)
      | (with_reducible exact tollhouseref02_Same.mono _ _ _)
      | (with_reducible exact tollhouseref03_Decimal.mono _ _)
      | (with_reducible exact tollhouseref07_elements.mono _ _ _)
      | (with_reducible exact LeO.refl _)
      | (with_reducible exact LeO.none _)
      | (with_reducible refine LeO.ite ?_ ?_)
      | (with_reducible refine LeO.bind ?_ (fun _ => ?_))
      | exact ih0 _ _ _ _ _ _
      | exact ih1 _ _ _ _
      | exact ih2 _ _ _ _ _
      | exact tollhouseref02_Same.mono _ _ _
      | exact tollhouseref03_Decimal.mono _ _
      | exact tollhouseref07_elements.mono _ _ _
      | exact LeO.none _
      | refine LeO.ite ?_ ?_
      | refine LeO.bind ?_ (fun _ => ?_)
    · intro y0 y1 y2 y3
      unfold tollhouseref07_Sure.l0
      repeat' first
      | (with_reducible exact ih0 _ _ _ _ _ _)
      | (with_reducible exact ih1 _ _ _ _)
      | (with_reducible exact ih2 _ _ _ _ _)
      | (with_reducible exact tollhouseref02_Same.mono _ _ _)
      | (with_reducible exact tollhouseref03_Decimal.mono _ _)
      | (with_reducible exact tollhouseref07_elements.mono _ _ _)
      | (with_reducible exact LeO.refl _)
      | (with_reducible exact LeO.none _)
      | (with_reducible refine LeO.ite ?_ ?_)
      | (with_reducible refine LeO.bind ?_ (fun _ => ?_))
      | exact ih0 _ _ _ _ _ _
      | exact ih1 _ _ _ _
      | exact ih2 _ _ _ _ _
      | exact tollhouseref02_Same.mono _ _ _
      | exact tollhouseref03_Decimal.mono _ _
      | exact tollhouseref07_elements.mono _ _ _
      | exact LeO.none _
      | refine LeO.ite ?_ ?_
      | refine LeO.bind ?_ (fun _ => ?_)
    · intro y0 y1 y2 y3 y4
      unfold tollhouseref07_Sure.j2
      repeat' first
      | (with_reducible exact ih0 _ _ _ _ _ _)
      | (with_reducible exact ih1 _ _ _ _)
      | (with_reducible exact ih2 _ _ _ _ _)
      | (with_reducible exact tollhouseref02_Same.mono _ _ _)
      | (with_reducible exact tollhouseref03_Decimal.mono _ _)
      | (with_reducible exact tollhouseref07_elements.mono _ _ _)
      | (with_reducible exact LeO.refl _)
      | (with_reducible exact LeO.none _)
      | (with_reducible refine LeO.ite ?_ ?_)
      | (with_reducible refine LeO.bind ?_ (fun _ => ?_))
      | exact ih0 _ _ _ _ _ _
      | exact ih1 _ _ _ _
      | exact ih2 _ _ _ _ _
      | exact tollhouseref02_Same.mono _ _ _
      | exact tollhouseref03_Decimal.mono _ _
      | exact tollhouseref07_elements.mono _ _ _
      | exact LeO.none _
      | refine LeO.ite ?_ ?_
      | refine LeO.bind ?_ (fun _ => ?_)
theorem tollhouseref07_Sure.mono : ∀ a0 a1 k, LeO (tollhouseref07_Sure.f k a0 a1) (tollhouseref07_Sure.f (k + 1) a0 a1) := by
  intro a0 a1 k
  obtain ⟨ih0, ih1, ih2⟩ := tollhouseref07_Sure.mono_l k
  unfold tollhouseref07_Sure.f
  repeat' first
      | (with_reducible exact ih0 _ _ _ _ _ _)
      | (with_reducible exact ih1 _ _ _ _)
      | (with_reducible exact ih2 _ _ _ _ _)
      | (with_reducible exact tollhouseref02_Same.mono _ _ _)
      | (with_reducible exact tollhouseref03_Decimal.mono _ _)
      | (with_reducible exact tollhouseref07_elements.mono _ _ _)
      | (with_reducible exact LeO.refl _)
      | (with_reducible exact LeO.none _)
      | (with_reducible refine LeO.ite ?_ ?_)
      | (with_reducible refine LeO.bind ?_ (fun _ => ?_))
      | exact ih0 _ _ _ _ _ _
      | exact ih1 _ _ _ _
      | exact ih2 _ _ _ _ _
      | exact tollhouseref02_Same.mono _ _ _
      | exact tollhouseref03_Decimal.mono _ _
      | exact tollhouseref07_elements.mono _ _ _
      | exact LeO.none _
      | refine LeO.ite ?_ ?_
      | refine LeO.bind ?_ (fun _ => ?_)
set_option maxHeartbeats 8000000 in
set_option maxRecDepth 100000 in
theorem tollhouseref07_Sure.calls (k : Nat) (a0 : Int) (A1 : Option Addr) (c1 : Nat) (l1 : List (S34)) (r : Bool) (w : World) (hr1 : Kd.C k34 w A1 l1.length l1) (hc1 : l1.length ≤ c1) (h : tollhouseref07_Sure.f k a0 l1 = some r) :
    Calls Tryd.prog 24 #[.int .i64 a0, .slice A1 l1.length c1] w fun e w' => e = .returned (.bool r) ∧ Below w.heap.size w w' := by
  have HR1 := Aside0.mk hr1
  have HC1 := Aside0.mk hc1
  clear hr1 hc1
  have HB := Aside0.mk (Below.refl w.heap.size w)
  have H : ((tollhouseref07_elements.f k l1 (⟨#[99, 111, 110, 116, 101, 110, 116, 45, 108, 101, 110, 103, 116, 104]⟩ : ByteArray)).bind fun bt246 => ((tollhouseref07_elements.f k l1 (⟨#[116, 114, 97, 110, 115, 102, 101, 114, 45, 101, 110, 99, 111, 100, 105, 110, 103]⟩ : ByteArray)).bind fun bt250 => (if bt246.2 > 0 then (tollhouseref07_Sure.j0 k a0 bt246.1 bt246.2 bt250.1 bt250.2 (decide (bt250.2 > 0))) else (tollhouseref07_Sure.j0 k a0 bt246.1 bt246.2 bt250.1 bt250.2 false)))) = some r := h
  clear h
  replace H := Option.bind_eq_some_iff.mp H
  obtain ⟨⟨t246, t247⟩, A30, H⟩ := H
  replace H : ((tollhouseref07_elements.f k l1 (⟨#[116, 114, 97, 110, 115, 102, 101, 114, 45, 101, 110, 99, 111, 100, 105, 110, 103]⟩ : ByteArray)).bind fun bt250 => (if t247 > 0 then (tollhouseref07_Sure.j0 k a0 t246 t247 bt250.1 bt250.2 (decide (bt250.2 > 0))) else (tollhouseref07_Sure.j0 k a0 t246 t247 bt250.1 bt250.2 false))) = some r := H
  have A3 := Aside0.mk A30
  clear A30
  replace H := Option.bind_eq_some_iff.mp H
  obtain ⟨⟨t250, t251⟩, A40, H⟩ := H
  replace H : (if t247 > 0 then (tollhouseref07_Sure.j0 k a0 t246 t247 t250 t251 (decide (t251 > 0))) else (tollhouseref07_Sure.j0 k a0 t246 t247 t250 t251 false)) = some r := H
  have A4 := Aside0.mk A40
  clear A40
  have HC5 := Aside0.mk H
  clear H
  go_enter Tryd.func24, Tryd.ntmps24
  go_upto_region 3 with (first | (go_at_call 41; (with_reducible refine (tollhouseref07_elements.calls k _ _ l1 (⟨#[99, 111, 110, 116, 101, 110, 116, 45, 108, 101, 110, 103, 116, 104]⟩ : ByteArray) t246 t247 _ ?side1 ?side2 A3.out).mono ?_); (case side1 => repeat (first | exact HR1.out | (with_reducible refine Kd.C_alloc ?_ _) | (with_reducible refine Kd.C_drewN ?_ _) | (with_reducible refine Kd.C_drew ?_))); (case side2 => exact HC1.out); rintro e w6 ⟨v248, rfl, ho0, hb⟩; have n0_ := Aside0.mk (Kd.R_lower ho0 (below_size (by repeat (first | (with_reducible first | exact HB.out | apply below_alloc | apply pw_below_drewN | apply below_drew1) | exact HB.out)))); have n1_ := Aside0.mk (below_step (by repeat (first | (with_reducible first | exact HB.out | apply below_alloc | apply pw_below_drewN | apply below_drew1) | exact HB.out)) hb); clear HB; have HO249 := n0_; have HB := n1_; clear n0_ n1_; (try clear hb); (try clear hb2); (try clear hk); (try clear hi); (try clear ho0)) | (go_at_call 41; (with_reducible refine (tollhouseref07_elements.calls k _ _ l1 (⟨#[116, 114, 97, 110, 115, 102, 101, 114, 45, 101, 110, 99, 111, 100, 105, 110, 103]⟩ : ByteArray) t250 t251 _ ?side1 ?side2 A4.out).mono ?_); (case side1 => repeat (first | exact (Kd.C_below HR1.out HB.out) | (with_reducible refine Kd.C_alloc ?_ _) | (with_reducible refine Kd.C_drewN ?_ _) | (with_reducible refine Kd.C_drew ?_))); (case side2 => exact HC1.out); rintro e w7 ⟨v252, rfl, ho0, hb⟩; have n0_ := Aside0.mk (Kd.R_elder' (by (with_reducible repeat (first | apply Kd.R_alloc | apply Kd.R_drewN | apply Kd.R_drew)); exact HO249.out) (Kd.R_base ho0) hb); have n1_ := Aside0.mk (Kd.R_lower (Kd.R_new' ho0 (Kd.R_lt (by (with_reducible repeat (first | apply Kd.R_alloc | apply Kd.R_drewN | apply Kd.R_drew)); exact HO249.out))) (below_size (by repeat (first | (with_reducible first | exact HB.out | apply below_alloc | apply pw_below_drewN | apply below_drew1) | exact HB.out)))); have n2_ := Aside0.mk (below_step (by repeat (first | (with_reducible first | exact HB.out | apply below_alloc | apply pw_below_drewN | apply below_drew1) | exact HB.out)) hb); clear HO249; clear HB; have HO249 := n0_; have HO253 := n1_; have HB := n2_; clear n0_ n1_ n2_; (try clear hb); (try clear hb2); (try clear hk); (try clear hi); (try clear ho0)))
  repeat (go_quiet (first | (go_at_call 41; (with_reducible refine (tollhouseref07_elements.calls k _ _ l1 (⟨#[99, 111, 110, 116, 101, 110, 116, 45, 108, 101, 110, 103, 116, 104]⟩ : ByteArray) t246 t247 _ ?side1 ?side2 A3.out).mono ?_); (case side1 => repeat (first | exact HR1.out | (with_reducible refine Kd.C_alloc ?_ _) | (with_reducible refine Kd.C_drewN ?_ _) | (with_reducible refine Kd.C_drew ?_))); (case side2 => exact HC1.out); rintro e w6 ⟨v248, rfl, ho0, hb⟩; have n0_ := Aside0.mk (Kd.R_lower ho0 (below_size (by repeat (first | (with_reducible first | exact HB.out | apply below_alloc | apply pw_below_drewN | apply below_drew1) | exact HB.out)))); have n1_ := Aside0.mk (below_step (by repeat (first | (with_reducible first | exact HB.out | apply below_alloc | apply pw_below_drewN | apply below_drew1) | exact HB.out)) hb); clear HB; have HO249 := n0_; have HB := n1_; clear n0_ n1_; (try clear hb); (try clear hb2); (try clear hk); (try clear hi); (try clear ho0)) | (go_at_call 41; (with_reducible refine (tollhouseref07_elements.calls k _ _ l1 (⟨#[116, 114, 97, 110, 115, 102, 101, 114, 45, 101, 110, 99, 111, 100, 105, 110, 103]⟩ : ByteArray) t250 t251 _ ?side1 ?side2 A4.out).mono ?_); (case side1 => repeat (first | exact (Kd.C_below HR1.out HB.out) | (with_reducible refine Kd.C_alloc ?_ _) | (with_reducible refine Kd.C_drewN ?_ _) | (with_reducible refine Kd.C_drew ?_))); (case side2 => exact HC1.out); rintro e w7 ⟨v252, rfl, ho0, hb⟩; have n0_ := Aside0.mk (Kd.R_elder' (by (with_reducible repeat (first | apply Kd.R_alloc | apply Kd.R_drewN | apply Kd.R_drew)); exact HO249.out) (Kd.R_base ho0) hb); have n1_ := Aside0.mk (Kd.R_lower (Kd.R_new' ho0 (Kd.R_lt (by (with_reducible repeat (first | apply Kd.R_alloc | apply Kd.R_drewN | apply Kd.R_drew)); exact HO249.out))) (below_size (by repeat (first | (with_reducible first | exact HB.out | apply below_alloc | apply pw_below_drewN | apply below_drew1) | exact HB.out)))); have n2_ := Aside0.mk (below_step (by repeat (first | (with_reducible first | exact HB.out | apply below_alloc | apply pw_below_drewN | apply below_drew1) | exact HB.out)) hb); clear HO249; clear HB; have HO249 := n0_; have HO253 := n1_; have HB := n2_; clear n0_ n1_ n2_; (try clear hb); (try clear hb2); (try clear hk); (try clear hi); (try clear ho0))); go_upto_region 3 with (first | (go_at_call 41; (with_reducible refine (tollhouseref07_elements.calls k _ _ l1 (⟨#[99, 111, 110, 116, 101, 110, 116, 45, 108, 101, 110, 103, 116, 104]⟩ : ByteArray) t246 t247 _ ?side1 ?side2 A3.out).mono ?_); (case side1 => repeat (first | exact HR1.out | (with_reducible refine Kd.C_alloc ?_ _) | (with_reducible refine Kd.C_drewN ?_ _) | (with_reducible refine Kd.C_drew ?_))); (case side2 => exact HC1.out); rintro e w6 ⟨v248, rfl, ho0, hb⟩; have n0_ := Aside0.mk (Kd.R_lower ho0 (below_size (by repeat (first | (with_reducible first | exact HB.out | apply below_alloc | apply pw_below_drewN | apply below_drew1) | exact HB.out)))); have n1_ := Aside0.mk (below_step (by repeat (first | (with_reducible first | exact HB.out | apply below_alloc | apply pw_below_drewN | apply below_drew1) | exact HB.out)) hb); clear HB; have HO249 := n0_; have HB := n1_; clear n0_ n1_; (try clear hb); (try clear hb2); (try clear hk); (try clear hi); (try clear ho0)) | (go_at_call 41; (with_reducible refine (tollhouseref07_elements.calls k _ _ l1 (⟨#[116, 114, 97, 110, 115, 102, 101, 114, 45, 101, 110, 99, 111, 100, 105, 110, 103]⟩ : ByteArray) t250 t251 _ ?side1 ?side2 A4.out).mono ?_); (case side1 => repeat (first | exact (Kd.C_below HR1.out HB.out) | (with_reducible refine Kd.C_alloc ?_ _) | (with_reducible refine Kd.C_drewN ?_ _) | (with_reducible refine Kd.C_drew ?_))); (case side2 => exact HC1.out); rintro e w7 ⟨v252, rfl, ho0, hb⟩; have n0_ := Aside0.mk (Kd.R_elder' (by (with_reducible repeat (first | apply Kd.R_alloc | apply Kd.R_drewN | apply Kd.R_drew)); exact HO249.out) (Kd.R_base ho0) hb); have n1_ := Aside0.mk (Kd.R_lower (Kd.R_new' ho0 (Kd.R_lt (by (with_reducible repeat (first | apply Kd.R_alloc | apply Kd.R_drewN | apply Kd.R_drew)); exact HO249.out))) (below_size (by repeat (first | (with_reducible first | exact HB.out | apply below_alloc | apply pw_below_drewN | apply below_drew1) | exact HB.out)))); have n2_ := Aside0.mk (below_step (by repeat (first | (with_reducible first | exact HB.out | apply below_alloc | apply pw_below_drewN | apply below_drew1) | exact HB.out)) hb); clear HO249; clear HB; have HO249 := n0_; have HO253 := n1_; have HB := n2_; clear n0_ n1_ n2_; (try clear hb); (try clear hb2); (try clear hk); (try clear hi); (try clear ho0))))
  (try simp only [Act.put, List.setIfInBounds_toArray, List.set_cons_zero, List.set_cons_succ])
  go_cut [29] (fun v29 wc => ∃ (kq : Nat) (x29_4 : Bool), v29 = .bool x29_4 ∧ Aside0 (tollhouseref07_Sure.j0 kq a0 t246 t247 t250 t251 x29_4 = some r) ∧ Aside0 (kq ≤ k) ∧ Aside0 (Kd.R Kd.string 9 wc w.heap.size (fun k_ => some k_ ≠ (v252 : Value).ownBlock) v248 t246) ∧ Aside0 (Kd.R Kd.string 9 wc w.heap.size (fun k_ => some k_ ≠ (v248 : Value).ownBlock) v252 t250) ∧ Aside0 (Below w.heap.size w wc))
  case first =>
    have H := HC5.out
    clear HC5
    by_cases c8 : t247 > 0
    · rw [if_pos c8] at H
      have c8b0 : decide (0 < t247) = true := decide_eq_true c8
      clear c8
      (first | rw [c8b0] | (simp only [i64_w, i32_w]; rw [c8b0]) | skip)
      have H' := Aside0.mk H
      clear H
      go_wp2
      repeat (go_quiet (fail); try go_wp2)
      go_meet
      case rel => exact ⟨_, (decide (t251 > 0)), (by first | rfl | (simp; done) | (simp [*]; done)), H', ⟨by first | omega | exact Nat.le_refl _⟩, ⟨by (with_reducible repeat (first | apply Kd.R_alloc | apply Kd.R_drewN | apply Kd.R_drew)); exact Kd.R_mono HO249.out (fun _ hk => hk.2)⟩, ⟨by (with_reducible repeat (first | apply Kd.R_alloc | apply Kd.R_drewN | apply Kd.R_drew)); exact Kd.R_mono HO253.out (fun _ hk => hk.2)⟩, ⟨by repeat (first | (with_reducible first | exact HB.out | apply below_alloc | apply pw_below_drewN | apply below_drew1) | exact HB.out)⟩⟩
    · rw [if_neg c8] at H
      have c8b0 : decide (0 < t247) = false := decide_eq_false c8
      clear c8
      (first | rw [c8b0] | (simp only [i64_w, i32_w]; rw [c8b0]) | skip)
      have H' := Aside0.mk H
      clear H
      go_wp2
      repeat (go_quiet (fail); try go_wp2)
      go_meet
      case rel => exact ⟨_, (false), (by first | rfl | (simp; done) | (simp [*]; done)), H', ⟨by first | omega | exact Nat.le_refl _⟩, ⟨by (with_reducible repeat (first | apply Kd.R_alloc | apply Kd.R_drewN | apply Kd.R_drew)); exact Kd.R_mono HO249.out (fun _ hk => hk.2)⟩, ⟨by (with_reducible repeat (first | apply Kd.R_alloc | apply Kd.R_drewN | apply Kd.R_drew)); exact Kd.R_mono HO253.out (fun _ hk => hk.2)⟩, ⟨by repeat (first | (with_reducible first | exact HB.out | apply below_alloc | apply pw_below_drewN | apply below_drew1) | exact HB.out)⟩⟩
  case rest =>
    clear HC5
    try clear c1
    try clear c2
    try clear p2
    try clear c8
    try clear c8b0
    obtain ⟨kq, x29_4, rfl, HA, HJ4, HO_5, HO_7, HB⟩ := hcut
    cases kq with
    | zero => exact absurd HA.out (by simp [tollhouseref07_Sure.j0])
    | succ kj4 =>
      have H := HA.out
      clear HA
      simp only [tollhouseref07_Sure.j0] at H
      by_cases c9 : x29_4 = true
      · subst c9
        have H1 : (some false) = some r := by rw [if_pos rfl] at H; exact H
        clear H
        have H := H1
        clear H1
        obtain rfl := Option.some.inj H
        go_wp2
        repeat (go_quiet (fail); try go_wp2)
        go_ret
        exact ⟨by first | rfl | (simp [errW_none, errW_some] <;> rfl) | (simp [*, errW_none, errW_some] <;> rfl), by repeat (first | (with_reducible first | exact HB.out | apply below_alloc | apply pw_below_drewN | apply below_drew1) | exact HB.out)⟩
      · replace c9 := Bool.eq_false_iff.mpr c9
        subst c9
        have H1 : (if t251 > 0 then (if a0 = 1 then (if (t250.length : Int) = 1 then (if 0 < (t250.length : Int) then ((tollhouseref02_Same.f kj4 (rdOf ByteArray.empty t250 0) (⟨#[99, 104, 117, 110, 107, 101, 100]⟩ : ByteArray)).bind fun t255 => (some t255)) else (none)) else (some false)) else (some false)) else (if t247 = 0 then (some true) else (if (t246.length : Int) = 0 then (some false) else (if 0 < (t246.length : Int) then ((tollhouseref03_Decimal.f kj4 (rdOf ByteArray.empty t246 0)).bind fun bt257 => (if bt257.2 = 5 then (some false) else (tollhouseref07_Sure.l0 kj4 t246 bt257.1 bt257.2 1))) else (none))))) = some r := by rw [if_neg (show ¬ (false = true) by decide)] at H; exact H
        clear H
        have H := H1
        clear H1
        by_cases c10 : t251 > 0
        · rw [if_pos c10] at H
          have c10b0 : decide (0 < t251) = true := decide_eq_true c10
          clear c10
          by_cases c11 : a0 = 1
          · rw [if_pos c11] at H
            have c11b0 : (a0 == 1) = true := beq_iff_eq.mpr c11
            have c11b1 : (a0 != 1) = false := bne_eq_false_iff_eq.mpr c11
            clear c11
            by_cases c12 : (t250.length : Int) = 1
            · rw [if_pos c12] at H
              have c12b0 : ((t250.length : Int) == 1) = true := beq_iff_eq.mpr c12
              have c12b1 : ((t250.length : Int) != 1) = false := bne_eq_false_iff_eq.mpr c12
              clear c12
              by_cases c13 : 0 < (t250.length : Int)
              · rw [if_pos c13] at H
                have c13b0 : decide (0 < (t250.length : Int)) = true := decide_eq_true c13
                have c13b1 : decide (0 < t250.length) = true := decide_eq_true (by omega)
                clear c13
                replace H := Option.bind_eq_some_iff.mp H
                obtain ⟨t255, A140, H⟩ := H
                replace H : (some t255) = some r := H
                have A14 := Aside0.mk A140
                clear A140
                obtain rfl := Option.some.inj H
                obtain ⟨Ao15, co15, eo15⟩ := Kd.R_slice HO_7.out
                subst eo15
                have p254 : 0 ≤ (0 : Int) := (by omega)
                have q254 : 0 < (t250.length : Int) := of_decide_eq_true (by first | (with_reducible assumption) | assumption)
                obtain ⟨ad254, e254, hx254_0⟩ := Kd.at_string (Kd.R_reads' HO_7.out).2.2 0 p254 q254
                cases e254
                have qi254 : (0 < t250.length) = True := eq_true (by omega)
                (try rw [show ((0 : Int)).toNat = 0 from rfl] at hx254_0)
                (try rw [Addr.add_zero'] at hx254_0)
                replace p254 := eq_true p254
                replace q254 := eq_true q254
                go_wp2_with (first | (go_at_call 13; (with_reducible refine (tollhouseref02_Same.calls kj4 (rdOf ByteArray.empty t250 0) (⟨#[99, 104, 117, 110, 107, 101, 100]⟩ : ByteArray) t255 _ A14.out).mono ?_); rintro e w16 ⟨rfl, hb⟩; have n0_ := Aside0.mk (Kd.R_below (by (with_reducible repeat (first | apply Kd.R_alloc | apply Kd.R_drewN | apply Kd.R_drew)); exact HO_5.out) hb); have n1_ := Aside0.mk (Kd.R_below (by (with_reducible repeat (first | apply Kd.R_alloc | apply Kd.R_drewN | apply Kd.R_drew)); exact HO_7.out) hb); have n2_ := Aside0.mk (below_step (by repeat (first | (with_reducible first | exact HB.out | apply below_alloc | apply pw_below_drewN | apply below_drew1) | exact HB.out)) hb); clear HO_5; clear HO_7; clear HB; have HO_5 := n0_; have HO_7 := n1_; have HB := n2_; clear n0_ n1_ n2_; (try clear hb); (try clear hb2); (try clear hk); (try clear hi)))
                repeat (go_quiet (first | (go_at_call 13; (with_reducible refine (tollhouseref02_Same.calls kj4 (rdOf ByteArray.empty t250 0) (⟨#[99, 104, 117, 110, 107, 101, 100]⟩ : ByteArray) t255 _ A14.out).mono ?_); rintro e w16 ⟨rfl, hb⟩; have n0_ := Aside0.mk (Kd.R_below (by (with_reducible repeat (first | apply Kd.R_alloc | apply Kd.R_drewN | apply Kd.R_drew)); exact HO_5.out) hb); have n1_ := Aside0.mk (Kd.R_below (by (with_reducible repeat (first | apply Kd.R_alloc | apply Kd.R_drewN | apply Kd.R_drew)); exact HO_7.out) hb); have n2_ := Aside0.mk (below_step (by repeat (first | (with_reducible first | exact HB.out | apply below_alloc | apply pw_below_drewN | apply below_drew1) | exact HB.out)) hb); clear HO_5; clear HO_7; clear HB; have HO_5 := n0_; have HO_7 := n1_; have HB := n2_; clear n0_ n1_ n2_; (try clear hb); (try clear hb2); (try clear hk); (try clear hi))); try go_wp2_with (first | (go_at_call 13; (with_reducible refine (tollhouseref02_Same.calls kj4 (rdOf ByteArray.empty t250 0) (⟨#[99, 104, 117, 110, 107, 101, 100]⟩ : ByteArray) t255 _ A14.out).mono ?_); rintro e w16 ⟨rfl, hb⟩; have n0_ := Aside0.mk (Kd.R_below (by (with_reducible repeat (first | apply Kd.R_alloc | apply Kd.R_drewN | apply Kd.R_drew)); exact HO_5.out) hb); have n1_ := Aside0.mk (Kd.R_below (by (with_reducible repeat (first | apply Kd.R_alloc | apply Kd.R_drewN | apply Kd.R_drew)); exact HO_7.out) hb); have n2_ := Aside0.mk (below_step (by repeat (first | (with_reducible first | exact HB.out | apply below_alloc | apply pw_below_drewN | apply below_drew1) | exact HB.out)) hb); clear HO_5; clear HO_7; clear HB; have HO_5 := n0_; have HO_7 := n1_; have HB := n2_; clear n0_ n1_ n2_; (try clear hb); (try clear hb2); (try clear hk); (try clear hi))))
                go_ret
                exact ⟨by first | rfl | (simp [errW_none, errW_some] <;> rfl) | (simp [*, errW_none, errW_some] <;> rfl), by repeat (first | (with_reducible first | exact HB.out | apply below_alloc | apply pw_below_drewN | apply below_drew1) | exact HB.out)⟩
              · rw [if_neg c13] at H
                exact absurd H (by simp)
            · rw [if_neg c12] at H
              have c12b0 : ((t250.length : Int) == 1) = false := beq_eq_false_iff_ne.mpr c12
              have c12b1 : ((t250.length : Int) != 1) = true := bne_iff_ne.mpr c12
              obtain rfl := Option.some.inj H
              obtain ⟨Ao17, co17, eo17⟩ := Kd.R_slice HO_7.out
              subst eo17
              go_wp2
              repeat (go_quiet (fail); try go_wp2)
              go_ret
              exact ⟨by first | rfl | (simp [errW_none, errW_some] <;> rfl) | (simp [*, errW_none, errW_some] <;> rfl), by repeat (first | (with_reducible first | exact HB.out | apply below_alloc | apply pw_below_drewN | apply below_drew1) | exact HB.out)⟩
          · rw [if_neg c11] at H
            have c11b0 : (a0 == 1) = false := beq_eq_false_iff_ne.mpr c11
            have c11b1 : (a0 != 1) = true := bne_iff_ne.mpr c11
            obtain rfl := Option.some.inj H
            go_wp2
            repeat (go_quiet (fail); try go_wp2)
            go_ret
            exact ⟨by first | rfl | (simp [errW_none, errW_some] <;> rfl) | (simp [*, errW_none, errW_some] <;> rfl), by repeat (first | (with_reducible first | exact HB.out | apply below_alloc | apply pw_below_drewN | apply below_drew1) | exact HB.out)⟩
        · rw [if_neg c10] at H
          have c10b0 : decide (0 < t251) = false := decide_eq_false c10
          clear c10
          by_cases c18 : t247 = 0
          · rw [if_pos c18] at H
            have c18b0 : (t247 == 0) = true := beq_iff_eq.mpr c18
            have c18b1 : (t247 != 0) = false := bne_eq_false_iff_eq.mpr c18
            clear c18
            obtain rfl := Option.some.inj H
            go_wp2
            repeat (go_quiet (fail); try go_wp2)
            go_ret
            exact ⟨by first | rfl | (simp [errW_none, errW_some] <;> rfl) | (simp [*, errW_none, errW_some] <;> rfl), by repeat (first | (with_reducible first | exact HB.out | apply below_alloc | apply pw_below_drewN | apply below_drew1) | exact HB.out)⟩
          · rw [if_neg c18] at H
            have c18b0 : (t247 == 0) = false := beq_eq_false_iff_ne.mpr c18
            have c18b1 : (t247 != 0) = true := bne_iff_ne.mpr c18
            by_cases c19 : (t246.length : Int) = 0
            · rw [if_pos c19] at H
              have c19b0 : ((t246.length : Int) == 0) = true := beq_iff_eq.mpr c19
              have c19b1 : ((t246.length : Int) != 0) = false := bne_eq_false_iff_eq.mpr c19
              clear c19
              obtain rfl := Option.some.inj H
              obtain ⟨Ao20, co20, eo20⟩ := Kd.R_slice HO_5.out
              subst eo20
              go_wp2
              repeat (go_quiet (fail); try go_wp2)
              go_ret
              exact ⟨by first | rfl | (simp [errW_none, errW_some] <;> rfl) | (simp [*, errW_none, errW_some] <;> rfl), by repeat (first | (with_reducible first | exact HB.out | apply below_alloc | apply pw_below_drewN | apply below_drew1) | exact HB.out)⟩
            · rw [if_neg c19] at H
              have c19b0 : ((t246.length : Int) == 0) = false := beq_eq_false_iff_ne.mpr c19
              have c19b1 : ((t246.length : Int) != 0) = true := bne_iff_ne.mpr c19
              have c19b2 : ¬ (t246 = []) := fun h_ => c19 (by rw [h_]; rfl)
              by_cases c21 : 0 < (t246.length : Int)
              · rw [if_pos c21] at H
                have c21b0 : decide (0 < (t246.length : Int)) = true := decide_eq_true c21
                have c21b1 : decide (0 < t246.length) = true := decide_eq_true (by omega)
                clear c21
                replace H := Option.bind_eq_some_iff.mp H
                obtain ⟨⟨t257, t258⟩, A220, H⟩ := H
                replace H : (if t258 = 5 then (some false) else (tollhouseref07_Sure.l0 kj4 t246 t257 t258 1)) = some r := H
                have A22 := Aside0.mk A220
                clear A220
                by_cases c23 : t258 = 5
                · rw [if_pos c23] at H
                  have c23b0 : (t258 == 5) = true := beq_iff_eq.mpr c23
                  have c23b1 : (t258 != 5) = false := bne_eq_false_iff_eq.mpr c23
                  clear c23
                  obtain rfl := Option.some.inj H
                  obtain ⟨Ao24, co24, eo24⟩ := Kd.R_slice HO_5.out
                  subst eo24
                  have p256 : 0 ≤ (0 : Int) := (by omega)
                  have q256 : 0 < (t246.length : Int) := of_decide_eq_true (by first | (with_reducible assumption) | assumption)
                  obtain ⟨ad256, e256, hx256_0⟩ := Kd.at_string (Kd.R_reads' HO_5.out).2.2 0 p256 q256
                  cases e256
                  have qi256 : (0 < t246.length) = True := eq_true (by omega)
                  (try rw [show ((0 : Int)).toNat = 0 from rfl] at hx256_0)
                  (try rw [Addr.add_zero'] at hx256_0)
                  replace p256 := eq_true p256
                  replace q256 := eq_true q256
                  go_wp2_with (first | (go_at_call 42; (with_reducible refine (tollhouseref03_Decimal.calls kj4 (rdOf ByteArray.empty t246 0) t257 t258 _ A22.out).mono ?_); rintro e w' ⟨rfl, ⟨nd, rfl⟩⟩; (try first | exact ⟨rfl, _, World.drewN_drewN _ _ _⟩ | exact ⟨rfl, _, Eq.trans (World.drewN_drewN _ _ _) (congrArg (World.drewN _) (Nat.add_assoc _ _ _))⟩)))
                  repeat (go_quiet (first | (go_at_call 42; (with_reducible refine (tollhouseref03_Decimal.calls kj4 (rdOf ByteArray.empty t246 0) t257 t258 _ A22.out).mono ?_); rintro e w' ⟨rfl, ⟨nd, rfl⟩⟩; (try first | exact ⟨rfl, _, World.drewN_drewN _ _ _⟩ | exact ⟨rfl, _, Eq.trans (World.drewN_drewN _ _ _) (congrArg (World.drewN _) (Nat.add_assoc _ _ _))⟩))); try go_wp2_with (first | (go_at_call 42; (with_reducible refine (tollhouseref03_Decimal.calls kj4 (rdOf ByteArray.empty t246 0) t257 t258 _ A22.out).mono ?_); rintro e w' ⟨rfl, ⟨nd, rfl⟩⟩; (try first | exact ⟨rfl, _, World.drewN_drewN _ _ _⟩ | exact ⟨rfl, _, Eq.trans (World.drewN_drewN _ _ _) (congrArg (World.drewN _) (Nat.add_assoc _ _ _))⟩))))
                  go_ret
                  exact ⟨by first | rfl | (simp [errW_none, errW_some] <;> rfl) | (simp [*, errW_none, errW_some] <;> rfl), by repeat (first | (with_reducible first | exact HB.out | apply below_alloc | apply pw_below_drewN | apply below_drew1) | exact HB.out)⟩
                · rw [if_neg c23] at H
                  have c23b0 : (t258 == 5) = false := beq_eq_false_iff_ne.mpr c23
                  have c23b1 : (t258 != 5) = true := bne_iff_ne.mpr c23
                  have H' := Aside0.mk H
                  clear H
                  obtain ⟨Ao25, co25, eo25⟩ := Kd.R_slice HO_5.out
                  subst eo25
                  have p256 : 0 ≤ (0 : Int) := (by omega)
                  have q256 : 0 < (t246.length : Int) := of_decide_eq_true (by first | (with_reducible assumption) | assumption)
                  obtain ⟨ad256, e256, hx256_0⟩ := Kd.at_string (Kd.R_reads' HO_5.out).2.2 0 p256 q256
                  cases e256
                  have qi256 : (0 < t246.length) = True := eq_true (by omega)
                  (try rw [show ((0 : Int)).toNat = 0 from rfl] at hx256_0)
                  (try rw [Addr.add_zero'] at hx256_0)
                  replace p256 := eq_true p256
                  replace q256 := eq_true q256
                  go_wp2_with (first | (go_at_call 42; (with_reducible refine (tollhouseref03_Decimal.calls kj4 (rdOf ByteArray.empty t246 0) t257 t258 _ A22.out).mono ?_); rintro e w' ⟨rfl, ⟨nd, rfl⟩⟩; (try first | exact ⟨rfl, _, World.drewN_drewN _ _ _⟩ | exact ⟨rfl, _, Eq.trans (World.drewN_drewN _ _ _) (congrArg (World.drewN _) (Nat.add_assoc _ _ _))⟩)))
                  repeat (go_quiet (first | (go_at_call 42; (with_reducible refine (tollhouseref03_Decimal.calls kj4 (rdOf ByteArray.empty t246 0) t257 t258 _ A22.out).mono ?_); rintro e w' ⟨rfl, ⟨nd, rfl⟩⟩; (try first | exact ⟨rfl, _, World.drewN_drewN _ _ _⟩ | exact ⟨rfl, _, Eq.trans (World.drewN_drewN _ _ _) (congrArg (World.drewN _) (Nat.add_assoc _ _ _))⟩))); try go_wp2_with (first | (go_at_call 42; (with_reducible refine (tollhouseref03_Decimal.calls kj4 (rdOf ByteArray.empty t246 0) t257 t258 _ A22.out).mono ?_); rintro e w' ⟨rfl, ⟨nd, rfl⟩⟩; (try first | exact ⟨rfl, _, World.drewN_drewN _ _ _⟩ | exact ⟨rfl, _, Eq.trans (World.drewN_drewN _ _ _) (congrArg (World.drewN _) (Nat.add_assoc _ _ _))⟩))))
                  go_loopg [11] kj4 (fun kq v11 w' => ∃ (x11_2 : Int), v11 = .int .i64 x11_2 ∧ Aside0 (tollhouseref07_Sure.l0 kq t246 t257 t258 x11_2 = some r) ∧ Aside0 (kq ≤ kj4) ∧ Aside0 (Kd.R Kd.string 9 w' w.heap.size (fun _ => True) (.slice (some ad256) t246.length co25) t246) ∧ Aside0 (Below w.heap.size w w'))
                  case atStart => exact ⟨(1), (by first | rfl | (simp; done) | (simp [*]; done)), H', ⟨Nat.le_refl _⟩, ⟨by (with_reducible repeat (first | apply Kd.R_alloc | apply Kd.R_drewN | apply Kd.R_drew)); exact Kd.R_mono HO_5.out (fun _ hk => trivial)⟩, ⟨by repeat (first | (with_reducible first | exact HB.out | apply below_alloc | apply pw_below_drewN | apply below_drew1) | exact HB.out)⟩⟩
                  case round =>
                    clear H'
                    try clear c1
                    try clear c2
                    try clear p2
                    try clear q2
                    try clear hx2
                    try clear qi2
                    try clear c8
                    try clear c8b0
                    try clear c9
                    try clear c10
                    try clear c10b0
                    try clear c11
                    try clear c11b0
                    try clear c11b1
                    try clear c12
                    try clear c12b0
                    try clear c12b1
                    try clear c13
                    try clear c13b0
                    try clear c13b1
                    try clear c18
                    try clear c18b0
                    try clear c18b1
                    try clear c19
                    try clear c19b0
                    try clear c19b1
                    try clear c19b2
                    try clear c21
                    try clear c21b0
                    try clear c21b1
                    try clear c23
                    try clear c23b0
                    try clear c23b1
                    try clear c24
                    try clear p25
                    try clear q25
                    try clear hx25
                    try clear qi25
                    try clear hx254_0
                    try clear hx256_0
                    try clear p2
                    try clear p254
                    try clear p256
                    try clear q254
                    try clear q256
                    obtain ⟨x11_2, rfl, HA, HK2, HO_5, HB⟩ := hrel
                    cases gk with
                    | zero => exact absurd HA.out (by simp [tollhouseref07_Sure.l0])
                    | succ k2 =>
                      have H := HA.out
                      clear HA
                      simp only [tollhouseref07_Sure.l0] at H
                      by_cases c26 : x11_2 < (t246.length : Int)
                      · rw [if_pos c26] at H
                        have c26b0 : decide (x11_2 < (t246.length : Int)) = true := decide_eq_true c26
                        clear c26
                        by_cases c27 : 0 ≤ x11_2
                        · rw [if_pos c27] at H
                          have c27b0 : decide (0 ≤ x11_2) = true := decide_eq_true c27
                          clear c27
                          replace H := Option.bind_eq_some_iff.mp H
                          obtain ⟨⟨t260, t261⟩, A280, H⟩ := H
                          replace H : (if t261 = t258 then (tollhouseref07_Sure.j2 k2 t246 t257 t258 x11_2 (t260 != t257)) else (tollhouseref07_Sure.j2 k2 t246 t257 t258 x11_2 true)) = some r := H
                          have A28 := Aside0.mk A280
                          clear A280
                          have HC29 := Aside0.mk H
                          clear H
                          have p259 : 0 ≤ (x11_2 : Int) := of_decide_eq_true (by first | (with_reducible assumption) | assumption)
                          have q259 : x11_2 < (t246.length : Int) := of_decide_eq_true (by first | (with_reducible assumption) | assumption)
                          obtain ⟨ad259, e259, hx259_0⟩ := Kd.at_string (Kd.R_reads' HO_5.out).2.2 x11_2 p259 q259
                          obtain rfl : ad256 = ad259 := (by injection e259)
                          replace p259 := eq_true p259
                          replace q259 := eq_true q259
                          go_upto_region 18 with (first | (go_at_call 42; (with_reducible refine (tollhouseref03_Decimal.calls k2 (rdOf ByteArray.empty t246 x11_2) t260 t261 _ A28.out).mono ?_); rintro e w' ⟨rfl, ⟨nd, rfl⟩⟩; (try first | exact ⟨rfl, _, World.drewN_drewN _ _ _⟩ | exact ⟨rfl, _, Eq.trans (World.drewN_drewN _ _ _) (congrArg (World.drewN _) (Nat.add_assoc _ _ _))⟩)))
                          repeat (go_quiet (first | (go_at_call 42; (with_reducible refine (tollhouseref03_Decimal.calls k2 (rdOf ByteArray.empty t246 x11_2) t260 t261 _ A28.out).mono ?_); rintro e w' ⟨rfl, ⟨nd, rfl⟩⟩; (try first | exact ⟨rfl, _, World.drewN_drewN _ _ _⟩ | exact ⟨rfl, _, Eq.trans (World.drewN_drewN _ _ _) (congrArg (World.drewN _) (Nat.add_assoc _ _ _))⟩))); go_upto_region 18 with (first | (go_at_call 42; (with_reducible refine (tollhouseref03_Decimal.calls k2 (rdOf ByteArray.empty t246 x11_2) t260 t261 _ A28.out).mono ?_); rintro e w' ⟨rfl, ⟨nd, rfl⟩⟩; (try first | exact ⟨rfl, _, World.drewN_drewN _ _ _⟩ | exact ⟨rfl, _, Eq.trans (World.drewN_drewN _ _ _) (congrArg (World.drewN _) (Nat.add_assoc _ _ _))⟩))))
                          (try simp only [Act.put, List.setIfInBounds_toArray, List.set_cons_zero, List.set_cons_succ])
                          go_cut [80] (fun v80 wc => ∃ (kq : Nat) (x80_28 : Bool), v80 = .bool x80_28 ∧ Aside0 (tollhouseref07_Sure.j2 kq t246 t257 t258 x11_2 x80_28 = some r) ∧ Aside0 (kq ≤ k2) ∧ Aside0 (Kd.R Kd.string 9 wc w.heap.size (fun _ => True) (.slice (some ad256) t246.length co25) t246) ∧ Aside0 (Below w.heap.size w wc))
                          case first =>
                            have H := HC29.out
                            clear HC29
                            by_cases c30 : t261 = t258
                            · rw [if_pos c30] at H
                              have c30b0 : (t261 == t258) = true := beq_iff_eq.mpr c30
                              have c30b1 : (t261 != t258) = false := bne_eq_false_iff_eq.mpr c30
                              clear c30
                              (first | rw [c30b0] | (simp only [i64_w, i32_w]; rw [c30b0]) | skip)
                              have H' := Aside0.mk H
                              clear H
                              go_wp2
                              repeat (go_quiet (fail); try go_wp2)
                              go_meet
                              case rel => exact ⟨_, ((t260 != t257)), (by first | rfl | (simp; done) | (simp [*]; done)), H', ⟨by have := HJ4.out; have := HK2.out; first | omega | exact Nat.le_refl _⟩, ⟨by (with_reducible repeat (first | apply Kd.R_alloc | apply Kd.R_drewN | apply Kd.R_drew)); exact HO_5.out⟩, ⟨by repeat (first | (with_reducible first | exact HB.out | apply below_alloc | apply pw_below_drewN | apply below_drew1) | exact HB.out)⟩⟩
                            · rw [if_neg c30] at H
                              have c30b0 : (t261 == t258) = false := beq_eq_false_iff_ne.mpr c30
                              have c30b1 : (t261 != t258) = true := bne_iff_ne.mpr c30
                              (first | rw [c30b0] | (simp only [i64_w, i32_w]; rw [c30b0]) | skip)
                              have H' := Aside0.mk H
                              clear H
                              go_wp2
                              repeat (go_quiet (fail); try go_wp2)
                              go_meet
                              case rel => exact ⟨_, (true), (by first | rfl | (simp; done) | (simp [*]; done)), H', ⟨by have := HJ4.out; have := HK2.out; first | omega | exact Nat.le_refl _⟩, ⟨by (with_reducible repeat (first | apply Kd.R_alloc | apply Kd.R_drewN | apply Kd.R_drew)); exact HO_5.out⟩, ⟨by repeat (first | (with_reducible first | exact HB.out | apply below_alloc | apply pw_below_drewN | apply below_drew1) | exact HB.out)⟩⟩
                          case rest =>
                            clear HC29
                            try clear c1
                            try clear c2
                            try clear p2
                            try clear q2
                            try clear hx2
                            try clear qi2
                            try clear c3
                            try clear c8
                            try clear c8b0
                            try clear c9
                            try clear c10
                            try clear c10b0
                            try clear c11
                            try clear c11b0
                            try clear c11b1
                            try clear c12
                            try clear c12b0
                            try clear c12b1
                            try clear c13
                            try clear c13b0
                            try clear c13b1
                            try clear c18
                            try clear c18b0
                            try clear c18b1
                            try clear c19
                            try clear c19b0
                            try clear c19b1
                            try clear c19b2
                            try clear c21
                            try clear c21b0
                            try clear c21b1
                            try clear c23
                            try clear c23b0
                            try clear c23b1
                            try clear c24
                            try clear p25
                            try clear q25
                            try clear hx25
                            try clear qi25
                            try clear c26
                            try clear c26b0
                            try clear c27
                            try clear c27b0
                            try clear c30
                            try clear c30b0
                            try clear c30b1
                            try clear hx254_0
                            try clear hx256_0
                            try clear hx259_0
                            try clear p2
                            try clear p25
                            try clear p254
                            try clear p256
                            try clear p259
                            try clear q2
                            try clear q25
                            try clear q254
                            try clear q256
                            try clear q259
                            obtain ⟨kq, x80_28, rfl, HA, HJ28, HO_5, HB⟩ := hcut
                            cases kq with
                            | zero => exact absurd HA.out (by simp [tollhouseref07_Sure.j2])
                            | succ kj28 =>
                              have H := HA.out
                              clear HA
                              simp only [tollhouseref07_Sure.j2] at H
                              by_cases c31 : x80_28 = true
                              · subst c31
                                have H1 : (some false) = some r := by rw [if_pos rfl] at H; exact H
                                clear H
                                have H := H1
                                clear H1
                                obtain rfl := Option.some.inj H
                                go_wp2
                                repeat (go_quiet (fail); try go_wp2)
                                go_ret
                                exact ⟨by first | rfl | (simp [errW_none, errW_some] <;> rfl) | (simp [*, errW_none, errW_some] <;> rfl), by repeat (first | (with_reducible first | exact HB.out | apply below_alloc | apply pw_below_drewN | apply below_drew1) | exact HB.out)⟩
                              · replace c31 := Bool.eq_false_iff.mpr c31
                                subst c31
                                have H1 : (if t258 = 3 then (if 0 ≤ x11_2 then (if x11_2 < (t246.length : Int) then (if 0 < (t246.length : Int) then (if (rdOf ByteArray.empty t246 x11_2).toList = (rdOf ByteArray.empty t246 0).toList then (tollhouseref07_Sure.l0 kj28 t246 t257 t258 (wrap64 (x11_2 + 1))) else (some false)) else (none)) else (none)) else (none)) else (tollhouseref07_Sure.l0 kj28 t246 t257 t258 (wrap64 (x11_2 + 1)))) = some r := by rw [if_neg (show ¬ (false = true) by decide)] at H; exact H
                                clear H
                                have H := H1
                                clear H1
                                by_cases c32 : t258 = 3
                                · rw [if_pos c32] at H
                                  have c32b0 : (t258 == 3) = true := beq_iff_eq.mpr c32
                                  have c32b1 : (t258 != 3) = false := bne_eq_false_iff_eq.mpr c32
                                  clear c32
                                  by_cases c33 : 0 ≤ x11_2
                                  · rw [if_pos c33] at H
                                    have c33b0 : decide (0 ≤ x11_2) = true := decide_eq_true c33
                                    clear c33
                                    by_cases c34 : x11_2 < (t246.length : Int)
                                    · rw [if_pos c34] at H
                                      have c34b0 : decide (x11_2 < (t246.length : Int)) = true := decide_eq_true c34
                                      clear c34
                                      by_cases c35 : 0 < (t246.length : Int)
                                      · rw [if_pos c35] at H
                                        have c35b0 : decide (0 < (t246.length : Int)) = true := decide_eq_true c35
                                        have c35b1 : decide (0 < t246.length) = true := decide_eq_true (by omega)
                                        clear c35
                                        by_cases c36 : (rdOf ByteArray.empty t246 x11_2).toList = (rdOf ByteArray.empty t246 0).toList
                                        · rw [if_pos c36] at H
                                          have c36b0 : ((rdOf ByteArray.empty t246 x11_2).toList == (rdOf ByteArray.empty t246 0).toList) = true := beq_iff_eq.mpr c36
                                          have c36b1 : ((rdOf ByteArray.empty t246 x11_2).toList != (rdOf ByteArray.empty t246 0).toList) = false := bne_eq_false_iff_eq.mpr c36
                                          clear c36
                                          have H' := Aside0.mk H
                                          clear H
                                          have p262 : 0 ≤ (x11_2 : Int) := of_decide_eq_true (by first | (with_reducible assumption) | assumption)
                                          have q262 : x11_2 < (t246.length : Int) := of_decide_eq_true (by first | (with_reducible assumption) | assumption)
                                          obtain ⟨ad262, e262, hx262_0⟩ := Kd.at_string (Kd.R_reads' HO_5.out).2.2 x11_2 p262 q262
                                          obtain rfl : ad256 = ad262 := (by injection e262)
                                          replace p262 := eq_true p262
                                          replace q262 := eq_true q262
                                          have p263 : 0 ≤ (0 : Int) := (by omega)
                                          have q263 : 0 < (t246.length : Int) := of_decide_eq_true (by first | (with_reducible assumption) | assumption)
                                          obtain ⟨ad263, e263, hx263_0⟩ := Kd.at_string (Kd.R_reads' HO_5.out).2.2 0 p263 q263
                                          obtain rfl : ad256 = ad263 := (by injection e263)
                                          have qi263 : (0 < t246.length) = True := eq_true (by omega)
                                          (try rw [show ((0 : Int)).toNat = 0 from rfl] at hx263_0)
                                          (try rw [Addr.add_zero'] at hx263_0)
                                          replace p263 := eq_true p263
                                          replace q263 := eq_true q263
                                          go_wp2
                                          repeat (go_quiet (fail); try go_wp2)
                                          go_roundg kj28
                                          case measure => have := HJ4.out; have := HK2.out; have := HJ28.out; omega
                                          case rel => exact ⟨(wrap64 (x11_2 + 1)), (by first | rfl | (simp; done) | (simp [*]; done)), H', ⟨by have := HJ4.out; have := HK2.out; have := HJ28.out; omega⟩, ⟨by (with_reducible repeat (first | apply Kd.R_alloc | apply Kd.R_drewN | apply Kd.R_drew)); exact HO_5.out⟩, ⟨by repeat (first | (with_reducible first | exact HB.out | apply below_alloc | apply pw_below_drewN | apply below_drew1) | exact HB.out)⟩⟩
                                        · rw [if_neg c36] at H
                                          have c36b0 : ((rdOf ByteArray.empty t246 x11_2).toList == (rdOf ByteArray.empty t246 0).toList) = false := beq_eq_false_iff_ne.mpr c36
                                          have c36b1 : ((rdOf ByteArray.empty t246 x11_2).toList != (rdOf ByteArray.empty t246 0).toList) = true := bne_iff_ne.mpr c36
                                          obtain rfl := Option.some.inj H
                                          have p262 : 0 ≤ (x11_2 : Int) := of_decide_eq_true (by first | (with_reducible assumption) | assumption)
                                          have q262 : x11_2 < (t246.length : Int) := of_decide_eq_true (by first | (with_reducible assumption) | assumption)
                                          obtain ⟨ad262, e262, hx262_0⟩ := Kd.at_string (Kd.R_reads' HO_5.out).2.2 x11_2 p262 q262
                                          obtain rfl : ad256 = ad262 := (by injection e262)
                                          replace p262 := eq_true p262
                                          replace q262 := eq_true q262
                                          have p263 : 0 ≤ (0 : Int) := (by omega)
                                          have q263 : 0 < (t246.length : Int) := of_decide_eq_true (by first | (with_reducible assumption) | assumption)
                                          obtain ⟨ad263, e263, hx263_0⟩ := Kd.at_string (Kd.R_reads' HO_5.out).2.2 0 p263 q263
                                          obtain rfl : ad256 = ad263 := (by injection e263)
                                          have qi263 : (0 < t246.length) = True := eq_true (by omega)
                                          (try rw [show ((0 : Int)).toNat = 0 from rfl] at hx263_0)
                                          (try rw [Addr.add_zero'] at hx263_0)
                                          replace p263 := eq_true p263
                                          replace q263 := eq_true q263
                                          go_wp2
                                          repeat (go_quiet (fail); try go_wp2)
                                          go_ret
                                          exact ⟨by first | rfl | (simp [errW_none, errW_some] <;> rfl) | (simp [*, errW_none, errW_some] <;> rfl), by repeat (first | (with_reducible first | exact HB.out | apply below_alloc | apply pw_below_drewN | apply below_drew1) | exact HB.out)⟩
                                      · rw [if_neg c35] at H
                                        exact absurd H (by simp)
                                    · rw [if_neg c34] at H
                                      exact absurd H (by simp)
                                  · rw [if_neg c33] at H
                                    exact absurd H (by simp)
                                · rw [if_neg c32] at H
                                  have c32b0 : (t258 == 3) = false := beq_eq_false_iff_ne.mpr c32
                                  have c32b1 : (t258 != 3) = true := bne_iff_ne.mpr c32
                                  have H' := Aside0.mk H
                                  clear H
                                  go_wp2
                                  repeat (go_quiet (fail); try go_wp2)
                                  go_roundg kj28
                                  case measure => have := HJ4.out; have := HK2.out; have := HJ28.out; omega
                                  case rel => exact ⟨(wrap64 (x11_2 + 1)), (by first | rfl | (simp; done) | (simp [*]; done)), H', ⟨by have := HJ4.out; have := HK2.out; have := HJ28.out; omega⟩, ⟨by (with_reducible repeat (first | apply Kd.R_alloc | apply Kd.R_drewN | apply Kd.R_drew)); exact HO_5.out⟩, ⟨by repeat (first | (with_reducible first | exact HB.out | apply below_alloc | apply pw_below_drewN | apply below_drew1) | exact HB.out)⟩⟩
                        · rw [if_neg c27] at H
                          exact absurd H (by simp)
                      · rw [if_neg c26] at H
                        have c26b0 : decide (x11_2 < (t246.length : Int)) = false := decide_eq_false c26
                        clear c26
                        obtain rfl := Option.some.inj H
                        go_wp2
                        repeat (go_quiet (fail); try go_wp2)
                        go_ret
                        exact ⟨by first | rfl | (simp [errW_none, errW_some] <;> rfl) | (simp [*, errW_none, errW_some] <;> rfl), by repeat (first | (with_reducible first | exact HB.out | apply below_alloc | apply pw_below_drewN | apply below_drew1) | exact HB.out)⟩
              · rw [if_neg c21] at H
                exact absurd H (by simp)

end Go.Proofs.YtcamdfjjdigaeaaDoor.P
