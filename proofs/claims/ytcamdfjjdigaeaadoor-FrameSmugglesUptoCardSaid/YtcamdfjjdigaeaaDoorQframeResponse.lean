/- The walk of the Go function frame Response, and what it computes. By program. Conditions: none but those that each theorem names. -/
import Derived.Test.YtcamdfjjdigaeaaDoorQ0
import Derived.Test.YtcamdfjjdigaeaaDoorQframefits
import Derived.Test.YtcamdfjjdigaeaaDoorQframesure
namespace Go.Proofs.YtcamdfjjdigaeaaDoor.P
open Go.RowKit Go.Proofs.YtcamdfjjdigaeaaDoorW.PrintWords Go.Proofs.YtcamdfjjdigaeaaDoorW.PrintLast Go.Proofs.YtcamdfjjdigaeaaDoorW.PrintMore
attribute [local go_sem] max2_int min2_int max_two min_two max_three min_three max_four min_four
set_option linter.unusedVariables false
set_option linter.unusedSimpArgs false

/-! ### frame_Response: function 10 -/
mutual
def frame_Response.j0 : Nat → Int → ByteArray → Int → List (S34) → Bool → Option (Int × Int × Int)
  | 0, _, _, _, _, _ => none
  | k + 1, x0, x1, x2, x3, x28 => if x28 = true then (some (0, 0, 1)) else ((frame_sure.f k x2 x3).bind fun bt126 => (if bt126.2.2.2 = 0 then (if x1.toList = ([72, 69, 65, 68] : List UInt8) then (frame_Response.j1 k bt126.1 bt126.2.1 bt126.2.2.1 bt126.2.2.2 (x1.toList == ([72, 69, 65, 68] : List UInt8))) else (if x0 < 200 then (frame_Response.j1 k bt126.1 bt126.2.1 bt126.2.2.1 bt126.2.2.2 (decide (x0 < 200))) else (if x0 = 204 then (frame_Response.j1 k bt126.1 bt126.2.1 bt126.2.2.1 bt126.2.2.2 (x0 == 204)) else (if x0 = 304 then (frame_Response.j1 k bt126.1 bt126.2.1 bt126.2.2.1 bt126.2.2.2 (x0 == 304)) else (if x1.toList = ([67, 79, 78, 78, 69, 67, 84] : List UInt8) then (frame_Response.j1 k bt126.1 bt126.2.1 bt126.2.2.1 bt126.2.2.2 (decide (x0 < 300))) else (frame_Response.j1 k bt126.1 bt126.2.1 bt126.2.2.1 bt126.2.2.2 false)))))) else (some (0, 0, bt126.2.2.2))))
def frame_Response.j1 : Nat → Int → Int → Bool → Int → Bool → Option (Int × Int × Int)
  | 0, _, _, _, _, _ => none
  | k + 1, x11, x12, x13, x14, x41 => if x41 = true then (some (0, 0, 0)) else (if x11 = 0 then (some (3, 0, 0)) else ((frame_fits.f k x11 x12 x13 x14).bind fun bt130 => (some (bt130.1, bt130.2.1, bt130.2.2))))
end
def frame_Response.f (k : Nat) (a0 : Int) (a1 : ByteArray) (a2 : Int) (l3 : List (S34)) : Option (Int × Int × Int) := if a2 = 0 then (if a0 < 100 then (frame_Response.j0 k a0 a1 a2 l3 true) else (frame_Response.j0 k a0 a1 a2 l3 (decide (a0 > 599)))) else (if a2 = 1 then (if a0 < 100 then (frame_Response.j0 k a0 a1 a2 l3 true) else (frame_Response.j0 k a0 a1 a2 l3 (decide (a0 > 599)))) else (frame_Response.j0 k a0 a1 a2 l3 true))
theorem frame_Response.mono_l : ∀ k, (∀ y0 y1 y2 y3 y4, LeO (frame_Response.j0 k y0 y1 y2 y3 y4) (frame_Response.j0 (k + 1) y0 y1 y2 y3 y4)) ∧ (∀ y0 y1 y2 y3 y4, LeO (frame_Response.j1 k y0 y1 y2 y3 y4) (frame_Response.j1 (k + 1) y0 y1 y2 y3 y4))
  | 0 => ⟨fun _ _ _ _ _ r h => by simp [frame_Response.j0] at h, fun _ _ _ _ _ r h => by simp [frame_Response.j1] at h⟩
  | k + 1 => by
    obtain ⟨ih0, ih1⟩ := frame_Response.mono_l k
    refine ⟨?_, ?_⟩
    · intro y0 y1 y2 y3 y4
      unfold frame_Response.j0
      repeat' first
      | (with_reducible exact ih0 _ _ _ _ _)
      | (with_reducible exact ih1 _ _ _ _ _)
      | (with_reducible exact frame_fits.mono _ _ _ _ _)
      | (with_reducible exact frame_sure.mono _ _ _)
      | (with_reducible exact LeO.refl _)
      | (with_reducible exact LeO.none _)
      | (with_reducible refine LeO.ite ?_ ?_)
      | (with_reducible refine LeO.bind ?_ (fun _ => ?_))
      | exact ih0 _ _ _ _ _
      | exact ih1 _ _ _ _ _
      | exact frame_fits.mono _ _ _ _ _
      | exact frame_sure.mono _ _ _
      | exact LeO.none _
      | refine LeO.ite ?_ ?_
      | refine LeO.bind ?_ (fun _ => ?_)
    · intro y0 y1 y2 y3 y4
      unfold frame_Response.j1
      repeat' first
      | (with_reducible exact ih0 _ _ _ _ _)
      | (with_reducible exact ih1 _ _ _ _ _)
      | (with_reducible exact frame_fits.mono _ _ _ _ _)
      | (with_reducible exact frame_sure.mono _ _ _)
      | (with_reducible exact LeO.refl _)
      | (with_reducible exact LeO.none _)
      | (with_reducible refine LeO.ite ?_ ?_)
      | (with_reducible refine LeO.bind ?_ (fun _ => ?_))
      | exact ih0 _ _ _ _ _
      | exact ih1 _ _ _ _ _
      | exact frame_fits.mono _ _ _ _ _
      | exact frame_sure.mono _ _ _
      | exact LeO.none _
      | refine LeO.ite ?_ ?_
      | refine LeO.bind ?_ (fun _ => ?_)
theorem frame_Response.mono : ∀ a0 a1 a2 a3 k, LeO (frame_Response.f k a0 a1 a2 a3) (frame_Response.f (k + 1) a0 a1 a2 a3) := by
  intro a0 a1 a2 a3 k
  obtain ⟨ih0, ih1⟩ := frame_Response.mono_l k
  unfold frame_Response.f
  repeat' first
      | (with_reducible exact ih0 _ _ _ _ _)
      | (with_reducible exact ih1 _ _ _ _ _)
      | (with_reducible exact frame_fits.mono _ _ _ _ _)
      | (with_reducible exact frame_sure.mono _ _ _)
      | (with_reducible exact LeO.refl _)
      | (with_reducible exact LeO.none _)
      | (with_reducible refine LeO.ite ?_ ?_)
      | (with_reducible refine LeO.bind ?_ (fun _ => ?_))
      | exact ih0 _ _ _ _ _
      | exact ih1 _ _ _ _ _
      | exact frame_fits.mono _ _ _ _ _
      | exact frame_sure.mono _ _ _
      | exact LeO.none _
      | refine LeO.ite ?_ ?_
      | refine LeO.bind ?_ (fun _ => ?_)
set_option maxHeartbeats 8000000 in
set_option maxRecDepth 100000 in
theorem frame_Response.calls (k : Nat) (a0 : Int) (a1 : ByteArray) (a2 : Int) (A3 : Option Addr) (c3 : Nat) (l3 : List (S34)) (r1 : Int) (r2 : Int) (r3 : Int) (w : World) (hr3 : Kd.C k34 w A3 l3.length l3) (hc3 : l3.length ≤ c3) (h : frame_Response.f k a0 a1 a2 l3 = some (r1, r2, r3)) :
    Calls Tryd.prog 10 #[.int .i64 a0, .string a1, .int .i64 a2, .slice A3 l3.length c3] w fun e w' => e = .returned (.tuple #[.int .i64 r1, .int .u64 r2, .int .i64 r3]) ∧ Below w.heap.size w w' := by
  have HR3 := Aside0.mk hr3
  have HC3 := Aside0.mk hc3
  clear hr3 hc3
  have HB := Aside0.mk (Below.refl w.heap.size w)
  have H : (if a2 = 0 then (if a0 < 100 then (frame_Response.j0 k a0 a1 a2 l3 true) else (frame_Response.j0 k a0 a1 a2 l3 (decide (a0 > 599)))) else (if a2 = 1 then (if a0 < 100 then (frame_Response.j0 k a0 a1 a2 l3 true) else (frame_Response.j0 k a0 a1 a2 l3 (decide (a0 > 599)))) else (frame_Response.j0 k a0 a1 a2 l3 true))) = some (r1, r2, r3) := h
  clear h
  have HC5 := Aside0.mk H
  clear H
  go_enter Tryd.func10, Tryd.ntmps10
  go_upto_region 1 with (fail)
  go_cut [28] (fun v28 wc => ∃ (kq : Nat) (x28_4 : Bool), v28 = .bool x28_4 ∧ Aside0 (frame_Response.j0 kq a0 a1 a2 l3 x28_4 = some (r1, r2, r3)) ∧ Aside0 (kq ≤ k) ∧ Aside0 (Below w.heap.size w wc))
  case first =>
    have H := HC5.out
    clear HC5
    by_cases c6 : a2 = 0
    · rw [if_pos c6] at H
      have c6b0 : (a2 == 0) = true := beq_iff_eq.mpr c6
      have c6b1 : (a2 != 0) = false := bne_eq_false_iff_eq.mpr c6
      clear c6
      (first | rw [c6b0] | (simp only [i64_w, i32_w]; rw [c6b0]) | skip)
      by_cases c7 : a0 < 100
      · rw [if_pos c7] at H
        have c7b0 : decide (a0 < 100) = true := decide_eq_true c7
        clear c7
        have H' := Aside0.mk H
        clear H
        go_wp2
        go_meet
        case rel => exact ⟨_, (true), (by first | rfl | (simp; done) | (simp [*]; done)), H', ⟨by first | omega | exact Nat.le_refl _⟩, ⟨by repeat (first | (with_reducible first | exact HB.out | apply below_alloc | apply pw_below_drewN | apply below_drew1) | exact HB.out)⟩⟩
      · rw [if_neg c7] at H
        have c7b0 : decide (a0 < 100) = false := decide_eq_false c7
        clear c7
        have H' := Aside0.mk H
        clear H
        go_wp2
        go_meet
        case rel => exact ⟨_, (decide (a0 > 599)), (by first | rfl | (simp; done) | (simp [*]; done)), H', ⟨by first | omega | exact Nat.le_refl _⟩, ⟨by repeat (first | (with_reducible first | exact HB.out | apply below_alloc | apply pw_below_drewN | apply below_drew1) | exact HB.out)⟩⟩
    · rw [if_neg c6] at H
      have c6b0 : (a2 == 0) = false := beq_eq_false_iff_ne.mpr c6
      have c6b1 : (a2 != 0) = true := bne_iff_ne.mpr c6
      (first | rw [c6b0] | (simp only [i64_w, i32_w]; rw [c6b0]) | skip)
      by_cases c8 : a2 = 1
      · rw [if_pos c8] at H
        have c8b0 : (a2 == 1) = true := beq_iff_eq.mpr c8
        have c8b1 : (a2 != 1) = false := bne_eq_false_iff_eq.mpr c8
        clear c8
        by_cases c9 : a0 < 100
        · rw [if_pos c9] at H
          have c9b0 : decide (a0 < 100) = true := decide_eq_true c9
          clear c9
          have H' := Aside0.mk H
          clear H
          go_wp2
          go_meet
          case rel => exact ⟨_, (true), (by first | rfl | (simp; done) | (simp [*]; done)), H', ⟨by first | omega | exact Nat.le_refl _⟩, ⟨by repeat (first | (with_reducible first | exact HB.out | apply below_alloc | apply pw_below_drewN | apply below_drew1) | exact HB.out)⟩⟩
        · rw [if_neg c9] at H
          have c9b0 : decide (a0 < 100) = false := decide_eq_false c9
          clear c9
          have H' := Aside0.mk H
          clear H
          go_wp2
          go_meet
          case rel => exact ⟨_, (decide (a0 > 599)), (by first | rfl | (simp; done) | (simp [*]; done)), H', ⟨by first | omega | exact Nat.le_refl _⟩, ⟨by repeat (first | (with_reducible first | exact HB.out | apply below_alloc | apply pw_below_drewN | apply below_drew1) | exact HB.out)⟩⟩
      · rw [if_neg c8] at H
        have c8b0 : (a2 == 1) = false := beq_eq_false_iff_ne.mpr c8
        have c8b1 : (a2 != 1) = true := bne_iff_ne.mpr c8
        have H' := Aside0.mk H
        clear H
        go_wp2
        go_meet
        case rel => exact ⟨_, (true), (by first | rfl | (simp; done) | (simp [*]; done)), H', ⟨by first | omega | exact Nat.le_refl _⟩, ⟨by repeat (first | (with_reducible first | exact HB.out | apply below_alloc | apply pw_below_drewN | apply below_drew1) | exact HB.out)⟩⟩
  case rest =>
    clear HC5
    try clear c1
    try clear p2
    try clear c3
    try clear c6
    try clear c6b0
    try clear c6b1
    try clear c7
    try clear c7b0
    try clear c8
    try clear c8b0
    try clear c8b1
    try clear c9
    try clear c9b0
    obtain ⟨kq, x28_4, rfl, HA, HJ4, HB⟩ := hcut
    cases kq with
    | zero => exact absurd HA.out (by simp [frame_Response.j0])
    | succ kj4 =>
      have H := HA.out
      clear HA
      simp only [frame_Response.j0] at H
      by_cases c10 : x28_4 = true
      · subst c10
        have H1 : (some (0, 0, 1)) = some (r1, r2, r3) := by rw [if_pos rfl] at H; exact H
        clear H
        have H := H1
        clear H1
        simp only [Option.some.injEq, Prod.mk.injEq] at H
        obtain ⟨rfl, rfl, rfl⟩ := H
        go_wp2
        go_ret3
        exact ⟨by first | rfl | (simp [errW_none, errW_some] <;> rfl) | (simp [*, errW_none, errW_some] <;> rfl), by repeat (first | (with_reducible first | exact HB.out | apply below_alloc | apply pw_below_drewN | apply below_drew1) | exact HB.out)⟩
      · replace c10 := Bool.eq_false_iff.mpr c10
        subst c10
        have H1 : ((frame_sure.f kj4 a2 l3).bind fun bt126 => (if bt126.2.2.2 = 0 then (if a1.toList = ([72, 69, 65, 68] : List UInt8) then (frame_Response.j1 kj4 bt126.1 bt126.2.1 bt126.2.2.1 bt126.2.2.2 (a1.toList == ([72, 69, 65, 68] : List UInt8))) else (if a0 < 200 then (frame_Response.j1 kj4 bt126.1 bt126.2.1 bt126.2.2.1 bt126.2.2.2 (decide (a0 < 200))) else (if a0 = 204 then (frame_Response.j1 kj4 bt126.1 bt126.2.1 bt126.2.2.1 bt126.2.2.2 (a0 == 204)) else (if a0 = 304 then (frame_Response.j1 kj4 bt126.1 bt126.2.1 bt126.2.2.1 bt126.2.2.2 (a0 == 304)) else (if a1.toList = ([67, 79, 78, 78, 69, 67, 84] : List UInt8) then (frame_Response.j1 kj4 bt126.1 bt126.2.1 bt126.2.2.1 bt126.2.2.2 (decide (a0 < 300))) else (frame_Response.j1 kj4 bt126.1 bt126.2.1 bt126.2.2.1 bt126.2.2.2 false)))))) else (some (0, 0, bt126.2.2.2)))) = some (r1, r2, r3) := by rw [if_neg (show ¬ (false = true) by decide)] at H; exact H
        clear H
        have H := H1
        clear H1
        replace H := Option.bind_eq_some_iff.mp H
        obtain ⟨⟨t126, t127, t128, t129⟩, A110, H⟩ := H
        replace H : (if t129 = 0 then (if a1.toList = ([72, 69, 65, 68] : List UInt8) then (frame_Response.j1 kj4 t126 t127 t128 t129 (a1.toList == ([72, 69, 65, 68] : List UInt8))) else (if a0 < 200 then (frame_Response.j1 kj4 t126 t127 t128 t129 (decide (a0 < 200))) else (if a0 = 204 then (frame_Response.j1 kj4 t126 t127 t128 t129 (a0 == 204)) else (if a0 = 304 then (frame_Response.j1 kj4 t126 t127 t128 t129 (a0 == 304)) else (if a1.toList = ([67, 79, 78, 78, 69, 67, 84] : List UInt8) then (frame_Response.j1 kj4 t126 t127 t128 t129 (decide (a0 < 300))) else (frame_Response.j1 kj4 t126 t127 t128 t129 false)))))) else (some (0, 0, t129))) = some (r1, r2, r3) := H
        have A11 := Aside0.mk A110
        clear A110
        by_cases c12 : t129 = 0
        · rw [if_pos c12] at H
          have c12b0 : (t129 == 0) = true := beq_iff_eq.mpr c12
          have c12b1 : (t129 != 0) = false := bne_eq_false_iff_eq.mpr c12
          clear c12
          have HC13 := Aside0.mk H
          clear H
          go_upto_if 41 with (first | ((with_reducible refine gate_callee (f := 23) rfl ?_); refine goesL_ (some 32) rfl rfl Tryd.func23 (by kernel_rfl) rfl #[.int .i64 a2, .slice A3 l3.length c3] rfl (by (try simp only [List.map_toArray, List.map_cons, List.map_nil]); first | done | rfl | (simp only [List.length_drop, List.length_take]; rfl)) ?_; (with_reducible refine (frame_sure.calls kj4 a2 _ _ l3 t126 t127 t128 t129 _ ?side1 ?side2 A11.out).mono ?_); (case side1 => repeat (first | exact (Kd.C_below HR3.out HB.out) | (with_reducible refine Kd.C_alloc ?_ _) | (with_reducible refine Kd.C_drewN ?_ _) | (with_reducible refine Kd.C_drew ?_))); (case side2 => exact HC3.out); rintro e w14 ⟨rfl, hb⟩; refine ⟨_, rfl, ?_⟩; have n0_ := Aside0.mk (below_step (by repeat (first | (with_reducible first | exact HB.out | apply below_alloc | apply pw_below_drewN | apply below_drew1) | exact HB.out)) hb); clear HB; have HB := n0_; clear n0_; (try clear hb); (try clear hb2); (try clear hk); (try clear hi)))
          (try simp only [Act.put, List.setIfInBounds_toArray, List.set_cons_zero, List.set_cons_succ])
          go_cut [41] (fun v41 wc => ∃ (kq : Nat) (x41_12 : Bool), v41 = .bool x41_12 ∧ Aside0 (frame_Response.j1 kq t126 t127 t128 t129 x41_12 = some (r1, r2, r3)) ∧ Aside0 (kq ≤ kj4) ∧ Aside0 (Below w.heap.size w wc))
          case first =>
            have H := HC13.out
            clear HC13
            by_cases c15 : a1.toList = ([72, 69, 65, 68] : List UInt8)
            · rw [if_pos c15] at H
              have c15b0 : (a1.toList == ([72, 69, 65, 68] : List UInt8)) = true := beq_iff_eq.mpr c15
              have c15b1 : (a1.toList != ([72, 69, 65, 68] : List UInt8)) = false := bne_eq_false_iff_eq.mpr c15
              clear c15
              (first | rw [c15b0] | (simp only [i64_w, i32_w]; rw [c15b0]) | skip)
              have H' := Aside0.mk H
              clear H
              go_wp2
              go_meet
              case rel => exact ⟨_, ((a1.toList == ([72, 69, 65, 68] : List UInt8))), (by first | rfl | (simp; done) | (simp [*]; done)), H', ⟨by have := HJ4.out; first | omega | exact Nat.le_refl _⟩, ⟨by repeat (first | (with_reducible first | exact HB.out | apply below_alloc | apply pw_below_drewN | apply below_drew1) | exact HB.out)⟩⟩
            · rw [if_neg c15] at H
              have c15b0 : (a1.toList == ([72, 69, 65, 68] : List UInt8)) = false := beq_eq_false_iff_ne.mpr c15
              have c15b1 : (a1.toList != ([72, 69, 65, 68] : List UInt8)) = true := bne_iff_ne.mpr c15
              (first | rw [c15b0] | (simp only [i64_w, i32_w]; rw [c15b0]) | skip)
              by_cases c16 : a0 < 200
              · rw [if_pos c16] at H
                have c16b0 : decide (a0 < 200) = true := decide_eq_true c16
                clear c16
                have H' := Aside0.mk H
                clear H
                go_wp2
                go_meet
                case rel => exact ⟨_, (decide (a0 < 200)), (by first | rfl | (simp; done) | (simp [*]; done)), H', ⟨by have := HJ4.out; first | omega | exact Nat.le_refl _⟩, ⟨by repeat (first | (with_reducible first | exact HB.out | apply below_alloc | apply pw_below_drewN | apply below_drew1) | exact HB.out)⟩⟩
              · rw [if_neg c16] at H
                have c16b0 : decide (a0 < 200) = false := decide_eq_false c16
                clear c16
                by_cases c17 : a0 = 204
                · rw [if_pos c17] at H
                  have c17b0 : (a0 == 204) = true := beq_iff_eq.mpr c17
                  have c17b1 : (a0 != 204) = false := bne_eq_false_iff_eq.mpr c17
                  clear c17
                  have H' := Aside0.mk H
                  clear H
                  go_wp2
                  go_meet
                  case rel => exact ⟨_, ((a0 == 204)), (by first | rfl | (simp; done) | (simp [*]; done)), H', ⟨by have := HJ4.out; first | omega | exact Nat.le_refl _⟩, ⟨by repeat (first | (with_reducible first | exact HB.out | apply below_alloc | apply pw_below_drewN | apply below_drew1) | exact HB.out)⟩⟩
                · rw [if_neg c17] at H
                  have c17b0 : (a0 == 204) = false := beq_eq_false_iff_ne.mpr c17
                  have c17b1 : (a0 != 204) = true := bne_iff_ne.mpr c17
                  by_cases c18 : a0 = 304
                  · rw [if_pos c18] at H
                    have c18b0 : (a0 == 304) = true := beq_iff_eq.mpr c18
                    have c18b1 : (a0 != 304) = false := bne_eq_false_iff_eq.mpr c18
                    clear c18
                    have H' := Aside0.mk H
                    clear H
                    go_wp2
                    go_meet
                    case rel => exact ⟨_, ((a0 == 304)), (by first | rfl | (simp; done) | (simp [*]; done)), H', ⟨by have := HJ4.out; first | omega | exact Nat.le_refl _⟩, ⟨by repeat (first | (with_reducible first | exact HB.out | apply below_alloc | apply pw_below_drewN | apply below_drew1) | exact HB.out)⟩⟩
                  · rw [if_neg c18] at H
                    have c18b0 : (a0 == 304) = false := beq_eq_false_iff_ne.mpr c18
                    have c18b1 : (a0 != 304) = true := bne_iff_ne.mpr c18
                    by_cases c19 : a1.toList = ([67, 79, 78, 78, 69, 67, 84] : List UInt8)
                    · rw [if_pos c19] at H
                      have c19b0 : (a1.toList == ([67, 79, 78, 78, 69, 67, 84] : List UInt8)) = true := beq_iff_eq.mpr c19
                      have c19b1 : (a1.toList != ([67, 79, 78, 78, 69, 67, 84] : List UInt8)) = false := bne_eq_false_iff_eq.mpr c19
                      clear c19
                      have H' := Aside0.mk H
                      clear H
                      go_wp2
                      go_meet
                      case rel => exact ⟨_, (decide (a0 < 300)), (by first | rfl | (simp; done) | (simp [*]; done)), H', ⟨by have := HJ4.out; first | omega | exact Nat.le_refl _⟩, ⟨by repeat (first | (with_reducible first | exact HB.out | apply below_alloc | apply pw_below_drewN | apply below_drew1) | exact HB.out)⟩⟩
                    · rw [if_neg c19] at H
                      have c19b0 : (a1.toList == ([67, 79, 78, 78, 69, 67, 84] : List UInt8)) = false := beq_eq_false_iff_ne.mpr c19
                      have c19b1 : (a1.toList != ([67, 79, 78, 78, 69, 67, 84] : List UInt8)) = true := bne_iff_ne.mpr c19
                      have H' := Aside0.mk H
                      clear H
                      go_wp2
                      go_meet
                      case rel => exact ⟨_, (false), (by first | rfl | (simp; done) | (simp [*]; done)), H', ⟨by have := HJ4.out; first | omega | exact Nat.le_refl _⟩, ⟨by repeat (first | (with_reducible first | exact HB.out | apply below_alloc | apply pw_below_drewN | apply below_drew1) | exact HB.out)⟩⟩
          case rest =>
            clear HC13
            try clear c1
            try clear c2
            try clear p2
            try clear c3
            try clear c6
            try clear c6b0
            try clear c6b1
            try clear c7
            try clear c7b0
            try clear c8
            try clear c8b0
            try clear c8b1
            try clear c9
            try clear c9b0
            try clear c10
            try clear c12
            try clear c12b0
            try clear c12b1
            try clear c15
            try clear c15b0
            try clear c15b1
            try clear c16
            try clear c16b0
            try clear c17
            try clear c17b0
            try clear c17b1
            try clear c18
            try clear c18b0
            try clear c18b1
            try clear c19
            try clear c19b0
            try clear c19b1
            try clear p2
            obtain ⟨kq, x41_12, rfl, HA, HJ12, HB⟩ := hcut
            cases kq with
            | zero => exact absurd HA.out (by simp [frame_Response.j1])
            | succ kj12 =>
              have H := HA.out
              clear HA
              simp only [frame_Response.j1] at H
              by_cases c20 : x41_12 = true
              · subst c20
                have H1 : (some (0, 0, 0)) = some (r1, r2, r3) := by rw [if_pos rfl] at H; exact H
                clear H
                have H := H1
                clear H1
                simp only [Option.some.injEq, Prod.mk.injEq] at H
                obtain ⟨rfl, rfl, rfl⟩ := H
                go_wp2
                go_ret3
                exact ⟨by first | rfl | (simp [errW_none, errW_some] <;> rfl) | (simp [*, errW_none, errW_some] <;> rfl), by repeat (first | (with_reducible first | exact HB.out | apply below_alloc | apply pw_below_drewN | apply below_drew1) | exact HB.out)⟩
              · replace c20 := Bool.eq_false_iff.mpr c20
                subst c20
                have H1 : (if t126 = 0 then (some (3, 0, 0)) else ((frame_fits.f kj12 t126 t127 t128 t129).bind fun bt130 => (some (bt130.1, bt130.2.1, bt130.2.2)))) = some (r1, r2, r3) := by rw [if_neg (show ¬ (false = true) by decide)] at H; exact H
                clear H
                have H := H1
                clear H1
                by_cases c21 : t126 = 0
                · rw [if_pos c21] at H
                  have c21b0 : (t126 == 0) = true := beq_iff_eq.mpr c21
                  have c21b1 : (t126 != 0) = false := bne_eq_false_iff_eq.mpr c21
                  clear c21
                  simp only [Option.some.injEq, Prod.mk.injEq] at H
                  obtain ⟨rfl, rfl, rfl⟩ := H
                  go_wp2
                  go_ret3
                  exact ⟨by first | rfl | (simp [errW_none, errW_some] <;> rfl) | (simp [*, errW_none, errW_some] <;> rfl), by repeat (first | (with_reducible first | exact HB.out | apply below_alloc | apply pw_below_drewN | apply below_drew1) | exact HB.out)⟩
                · rw [if_neg c21] at H
                  have c21b0 : (t126 == 0) = false := beq_eq_false_iff_ne.mpr c21
                  have c21b1 : (t126 != 0) = true := bne_iff_ne.mpr c21
                  replace H := Option.bind_eq_some_iff.mp H
                  obtain ⟨⟨t130, t131, t132⟩, A220, H⟩ := H
                  replace H : (some (t130, t131, t132)) = some (r1, r2, r3) := H
                  have A22 := Aside0.mk A220
                  clear A220
                  simp only [Option.some.injEq, Prod.mk.injEq] at H
                  obtain ⟨rfl, rfl, rfl⟩ := H
                  go_wp2_with (first | ((with_reducible refine gate_callee (f := 22) rfl ?_); refine goesL_ (some 63) rfl rfl Tryd.func22 (by kernel_rfl) rfl #[.int .i64 t126, .int .u64 t127, .bool t128, .int .i64 t129] rfl (by (try simp only [List.map_toArray, List.map_cons, List.map_nil]); first | done | rfl | (simp only [List.length_drop, List.length_take]; rfl)) ?_; (with_reducible refine (frame_fits.calls kj12 t126 t127 t128 t129 t130 t131 t132 _ A22.out).mono ?_); rintro e w' ⟨rfl, ⟨nd, rfl⟩⟩; refine ⟨_, rfl, ?_⟩))
                  go_ret3
                  exact ⟨by first | rfl | (simp [errW_none, errW_some] <;> rfl) | (simp [*, errW_none, errW_some] <;> rfl), by repeat (first | (with_reducible first | exact HB.out | apply below_alloc | apply pw_below_drewN | apply below_drew1) | exact HB.out)⟩
        · rw [if_neg c12] at H
          have c12b0 : (t129 == 0) = false := beq_eq_false_iff_ne.mpr c12
          have c12b1 : (t129 != 0) = true := bne_iff_ne.mpr c12
          simp only [Option.some.injEq, Prod.mk.injEq] at H
          obtain ⟨rfl, rfl, rfl⟩ := H
          go_wp2_with (first | ((with_reducible refine gate_callee (f := 23) rfl ?_); refine goesL_ (some 32) rfl rfl Tryd.func23 (by kernel_rfl) rfl #[.int .i64 a2, .slice A3 l3.length c3] rfl (by (try simp only [List.map_toArray, List.map_cons, List.map_nil]); first | done | rfl | (simp only [List.length_drop, List.length_take]; rfl)) ?_; (with_reducible refine (frame_sure.calls kj4 a2 _ _ l3 t126 t127 t128 t129 _ ?side1 ?side2 A11.out).mono ?_); (case side1 => repeat (first | exact (Kd.C_below HR3.out HB.out) | (with_reducible refine Kd.C_alloc ?_ _) | (with_reducible refine Kd.C_drewN ?_ _) | (with_reducible refine Kd.C_drew ?_))); (case side2 => exact HC3.out); rintro e w23 ⟨rfl, hb⟩; refine ⟨_, rfl, ?_⟩; have n0_ := Aside0.mk (below_step (by repeat (first | (with_reducible first | exact HB.out | apply below_alloc | apply pw_below_drewN | apply below_drew1) | exact HB.out)) hb); clear HB; have HB := n0_; clear n0_; (try clear hb); (try clear hb2); (try clear hk); (try clear hi)))
          go_ret3
          exact ⟨by first | rfl | (simp [errW_none, errW_some] <;> rfl) | (simp [*, errW_none, errW_some] <;> rfl), by repeat (first | (with_reducible first | exact HB.out | apply below_alloc | apply pw_below_drewN | apply below_drew1) | exact HB.out)⟩

end Go.Proofs.YtcamdfjjdigaeaaDoor.P
