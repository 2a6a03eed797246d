/- The document's port of a text: the walk. -/
import Derived.Test.YteggopolokblhaaGreatDoorQ0
import Derived.Test.YteggopolokblhaaGreatDoorPMk
namespace Go.Proofs.YteggopolokblhaaGreatDoor.P
open Go.RowKit Go.Proofs.YteggopolokblhaaGreatDoorW.PrintWords Go.Proofs.YteggopolokblhaaGreatDoorW.PrintLast Go.Proofs.YteggopolokblhaaGreatDoorW.PrintMore
attribute [local go_sem] max2_int min2_int max_two min_two max_three min_three max_four min_four
set_option linter.unusedVariables false
set_option linter.unusedSimpArgs false

/-! ### tollhouseref10_portP: function 27 -/
mutual
def tollhouseref10_portP.j0 : Nat → ByteArray → Bool → Option (Int)
  | 0, _, _ => none
  | k + 1, x0, x17 => if x17 = true then (some 0) else (tollhouseref10_portP.l0 k x0 0 0)
def tollhouseref10_portP.l0 : Nat → ByteArray → Int → Int → Option (Int)
  | 0, _, _, _ => none
  | k + 1, x0, x3, x4 => if x4 < (x0.size : Int) then (if 0 ≤ x4 then (if (bt x0 x4) < 48 then (some 0) else (if (bt x0 x4) > 57 then (some 0) else (tollhouseref10_portP.l0 k x0 (wrap64 ((wrap64 (10 * x3)) + (((bt x0 x4) - 48) % 256))) (wrap64 (x4 + 1))))) else (none)) else (if x3 > 65535 then (some 0) else (some x3))
end
def tollhouseref10_portP.f (k : Nat) (a0 : ByteArray) : Option (Int) := if (a0.size : Int) = 0 then (tollhouseref10_portP.j0 k a0 true) else (if (a0.size : Int) > 5 then (tollhouseref10_portP.j0 k a0 true) else (if 0 < (a0.size : Int) then (tollhouseref10_portP.j0 k a0 ((bt a0 0) == 48)) else (none)))
theorem tollhouseref10_portP.mono_l : ∀ k, (∀ y0 y1, LeO (tollhouseref10_portP.j0 k y0 y1) (tollhouseref10_portP.j0 (k + 1) y0 y1)) ∧ (∀ y0 y1 y2, LeO (tollhouseref10_portP.l0 k y0 y1 y2) (tollhouseref10_portP.l0 (k + 1) y0 y1 y2))
  | 0 => ⟨fun _ _ r h => by simp [tollhouseref10_portP.j0] at h, fun _ _ _ r h => by simp [tollhouseref10_portP.l0] at h⟩
  | k + 1 => by
    obtain ⟨ih0, ih1⟩ := tollhouseref10_portP.mono_l k
    refine ⟨?_, ?_⟩
    · intro y0 y1
      unfold tollhouseref10_portP.j0
      repeat' first
      | (with_reducible exact ih0 _ _)
      | (with_reducible exact ih1 _ _ _)
      | (with_reducible exact LeO.refl _)
      | (with_reducible exact LeO.none _)
      | (with_reducible refine LeO.ite ?_ ?_)
      | (with_reducible refine LeO.bind ?_ (fun _ => ?_))
      | exact ih0 _ _
      | exact ih1 _ _ _
      | exact LeO.none _
      | refine LeO.ite ?_ ?_
      | refine LeO.bind ?_ (fun _ => ?_)
    · intro y0 y1 y2
      unfold tollhouseref10_portP.l0
      repeat' first
      | (with_reducible exact ih0 _ _)
      | (with_reducible exact ih1 _ _ _)
      | (with_reducible exact LeO.refl _)
      | (with_reducible exact LeO.none _)
      | (with_reducible refine LeO.ite ?_ ?_)
      | (with_reducible refine LeO.bind ?_ (fun _ => ?_))
      | exact ih0 _ _
      | exact ih1 _ _ _
      | exact LeO.none _
      | refine LeO.ite ?_ ?_
      | refine LeO.bind ?_ (fun _ => ?_)
theorem tollhouseref10_portP.mono : ∀ a0 k, LeO (tollhouseref10_portP.f k a0) (tollhouseref10_portP.f (k + 1) a0) := by
  intro a0 k
  obtain ⟨ih0, ih1⟩ := tollhouseref10_portP.mono_l k
  unfold tollhouseref10_portP.f
  repeat' first
      | (with_reducible exact ih0 _ _)
      | (with_reducible exact ih1 _ _ _)
      | (with_reducible exact LeO.refl _)
      | (with_reducible exact LeO.none _)
      | (with_reducible refine LeO.ite ?_ ?_)
      | (with_reducible refine LeO.bind ?_ (fun _ => ?_))
      | exact ih0 _ _
      | exact ih1 _ _ _
      | exact LeO.none _
      | refine LeO.ite ?_ ?_
      | refine LeO.bind ?_ (fun _ => ?_)
set_option maxHeartbeats 8000000 in
set_option maxRecDepth 100000 in
theorem tollhouseref10_portP.calls (k : Nat) (a0 : ByteArray) (r : Int) (w : World) (h : tollhouseref10_portP.f k a0 = some r) :
    Calls Tryz.prog 27 #[.string a0] w fun e w' => e = .returned (.int .i64 r) ∧ Drawn0 w w' := by
  have H : (if (a0.size : Int) = 0 then (tollhouseref10_portP.j0 k a0 true) else (if (a0.size : Int) > 5 then (tollhouseref10_portP.j0 k a0 true) else (if 0 < (a0.size : Int) then (tollhouseref10_portP.j0 k a0 ((bt a0 0) == 48)) else (none)))) = some r := h
  clear h
  have HC2 := Aside0.mk H
  clear H
  go_enter Tryz.func27, Tryz.ntmps27
  go_upto_region 1 with (fail)
  go_cut [17] (fun v17 wc => ∃ (kq : Nat) (x17_1 : Bool), v17 = .bool x17_1 ∧ Aside0 (tollhouseref10_portP.j0 kq a0 x17_1 = some r) ∧ Aside0 (kq ≤ k) ∧ Drawn0 w wc)
  case first =>
    have H := HC2.out
    clear HC2
    by_cases c3 : (a0.size : Int) = 0
    · rw [if_pos c3] at H
      have c3b0 : ((a0.size : Int) == 0) = true := beq_iff_eq.mpr c3
      have c3b1 : ((a0.size : Int) != 0) = false := bne_eq_false_iff_eq.mpr c3
      clear c3
      (first | rw [c3b0] | (simp only [i64_w, i32_w]; rw [c3b0]) | skip)
      have H' := Aside0.mk H
      clear H
      go_wp2
      go_meet
      case rel => exact ⟨_, (true), (by first | rfl | (simp; done) | (simp [*]; done)), H', ⟨by first | omega | exact Nat.le_refl _⟩, by repeat (first | exact Drawn0.refl _ | apply Drawn0.step)⟩
    · rw [if_neg c3] at H
      have c3b0 : ((a0.size : Int) == 0) = false := beq_eq_false_iff_ne.mpr c3
      have c3b1 : ((a0.size : Int) != 0) = true := bne_iff_ne.mpr c3
      (first | rw [c3b0] | (simp only [i64_w, i32_w]; rw [c3b0]) | skip)
      by_cases c4 : (a0.size : Int) > 5
      · rw [if_pos c4] at H
        have c4b0 : decide (5 < (a0.size : Int)) = true := decide_eq_true c4
        have c4b1 : decide (5 < a0.size) = true := decide_eq_true (by omega)
        clear c4
        have H' := Aside0.mk H
        clear H
        go_wp2
        go_meet
        case rel => exact ⟨_, (true), (by first | rfl | (simp; done) | (simp [*]; done)), H', ⟨by first | omega | exact Nat.le_refl _⟩, by repeat (first | exact Drawn0.refl _ | apply Drawn0.step)⟩
      · rw [if_neg c4] at H
        have c4b0 : decide (5 < (a0.size : Int)) = false := decide_eq_false c4
        have c4b1 : decide (5 < a0.size) = false := decide_eq_false (by omega)
        clear c4
        by_cases c5 : 0 < (a0.size : Int)
        · rw [if_pos c5] at H
          have c5b0 : decide (0 < (a0.size : Int)) = true := decide_eq_true c5
          have c5b1 : decide (0 < a0.size) = true := decide_eq_true (by omega)
          clear c5
          have H' := Aside0.mk H
          clear H
          have p6 : 0 ≤ (0 : Int) := (by omega)
          have q6 : 0 < a0.size := (by have : (0 : Int) < (a0.size : Int) := of_decide_eq_true (by first | (with_reducible assumption) | assumption); omega)
          have hx6 : ∀ h : 0 < a0.size, ((a0[0]'h).toNat : Int) = bt a0 0 := bt_at a0 0
          clear p6
          have qi6 : (0 < (a0.size : Int)) = True := eq_true (of_decide_eq_true (by first | (with_reducible assumption) | assumption))
          replace q6 := eq_true q6
          go_wp2
          go_meet
          case rel => exact ⟨_, (((bt a0 0) == 48)), (by first | rfl | (simp; done) | (simp [*]; done)), H', ⟨by first | omega | exact Nat.le_refl _⟩, by repeat (first | exact Drawn0.refl _ | apply Drawn0.step)⟩
        · rw [if_neg c5] at H
          exact absurd H (by simp)
  case rest =>
    clear HC2
    try clear c2
    try clear p2
    try clear c3
    try clear c3b0
    try clear c3b1
    try clear c4
    try clear c4b0
    try clear c4b1
    try clear c5
    try clear c5b0
    try clear c5b1
    try clear p6
    try clear q6
    try clear hx6
    try clear qi6
    try clear p6
    try clear q6
    obtain ⟨kq, x17_1, rfl, HA, HJ1, ⟨mc1, rfl⟩⟩ := hcut
    cases kq with
    | zero => exact absurd HA.out (by simp [tollhouseref10_portP.j0])
    | succ kj1 =>
      have H := HA.out
      clear HA
      simp only [tollhouseref10_portP.j0] at H
      by_cases c7 : x17_1 = true
      · subst c7
        have H1 : (some 0) = some r := by rw [if_pos rfl] at H; exact H
        clear H
        have H := H1
        clear H1
        obtain rfl := Option.some.inj H
        go_wp2
        go_ret
        exact ⟨by first | rfl | (simp; done) | (simp [*]; done), by repeat (first | exact Drawn0.refl _ | apply Drawn0.step)⟩
      · replace c7 := Bool.eq_false_iff.mpr c7
        subst c7
        have H1 : (tollhouseref10_portP.l0 kj1 a0 0 0) = some r := by rw [if_neg (show ¬ (false = true) by decide)] at H; exact H
        clear H
        have H := H1
        clear H1
        have H' := Aside0.mk H
        clear H
        go_wp2
        go_loopg [3, 4] kj1 (fun kq v3 v4 w' => ∃ (x3_2 : Int) (x4_2 : Int), v3 = .int .i64 x3_2 ∧ v4 = .int .i64 x4_2 ∧ Aside0 (tollhouseref10_portP.l0 kq a0 x3_2 x4_2 = some r) ∧ Aside0 (kq ≤ kj1) ∧ Drawn0 w w')
        case atStart => exact ⟨(0), (0), (by first | rfl | (simp; done) | (simp [*]; done)), (by first | rfl | (simp; done) | (simp [*]; done)), H', ⟨Nat.le_refl _⟩, by repeat (first | exact Drawn0.refl _ | apply Drawn0.step)⟩
        case round =>
          clear H'
          try clear c1
          try clear c2
          try clear p2
          try clear c3
          try clear c3b0
          try clear c3b1
          try clear c4
          try clear c4b0
          try clear c4b1
          try clear c5
          try clear c5b0
          try clear c5b1
          try clear p6
          try clear q6
          try clear hx6
          try clear qi6
          try clear c7
          try clear p2
          try clear p6
          try clear q6
          obtain ⟨x3_2, x4_2, rfl, rfl, HA, HK2, ⟨m2, rfl⟩⟩ := hrel
          cases gk with
          | zero => exact absurd HA.out (by simp [tollhouseref10_portP.l0])
          | succ k2 =>
            have H := HA.out
            clear HA
            simp only [tollhouseref10_portP.l0] at H
            by_cases c8 : x4_2 < (a0.size : Int)
            · rw [if_pos c8] at H
              have c8b0 : decide (x4_2 < (a0.size : Int)) = true := decide_eq_true c8
              clear c8
              by_cases c9 : 0 ≤ x4_2
              · rw [if_pos c9] at H
                have c9b0 : decide (0 ≤ x4_2) = true := decide_eq_true c9
                clear c9
                by_cases c11 : (bt a0 x4_2) < 48
                · rw [if_pos c11] at H
                  have c11b0 : decide ((bt a0 x4_2) < 48) = true := decide_eq_true c11
                  clear c11
                  obtain rfl := Option.some.inj H
                  have p10 : 0 ≤ (x4_2 : Int) := of_decide_eq_true (by first | (with_reducible assumption) | assumption)
                  have q10 : x4_2 < (a0.size : Int) := of_decide_eq_true (by first | (with_reducible assumption) | assumption)
                  have hx10 := bt_at a0 x4_2
                  replace p10 := eq_true p10
                  replace q10 := eq_true q10
                  go_wp2
                  go_ret
                  exact ⟨by first | rfl | (simp; done) | (simp [*]; done), by repeat (first | exact Drawn0.refl _ | apply Drawn0.step)⟩
                · rw [if_neg c11] at H
                  have c11b0 : decide ((bt a0 x4_2) < 48) = false := decide_eq_false c11
                  clear c11
                  by_cases c13 : (bt a0 x4_2) > 57
                  · rw [if_pos c13] at H
                    have c13b0 : decide (57 < (bt a0 x4_2)) = true := decide_eq_true c13
                    clear c13
                    obtain rfl := Option.some.inj H
                    have p10 : 0 ≤ (x4_2 : Int) := of_decide_eq_true (by first | (with_reducible assumption) | assumption)
                    have q10 : x4_2 < (a0.size : Int) := of_decide_eq_true (by first | (with_reducible assumption) | assumption)
                    have hx10 := bt_at a0 x4_2
                    replace p10 := eq_true p10
                    replace q10 := eq_true q10
                    have p12 : 0 ≤ (x4_2 : Int) := of_decide_eq_true (by first | (with_reducible assumption) | assumption)
                    have q12 : x4_2 < (a0.size : Int) := of_decide_eq_true (by first | (with_reducible assumption) | assumption)
                    have hx12 := bt_at a0 x4_2
                    replace p12 := eq_true p12
                    replace q12 := eq_true q12
                    go_wp2
                    go_ret
                    exact ⟨by first | rfl | (simp; done) | (simp [*]; done), by repeat (first | exact Drawn0.refl _ | apply Drawn0.step)⟩
                  · rw [if_neg c13] at H
                    have c13b0 : decide (57 < (bt a0 x4_2)) = false := decide_eq_false c13
                    clear c13
                    have H' := Aside0.mk H
                    clear H
                    have p10 : 0 ≤ (x4_2 : Int) := of_decide_eq_true (by first | (with_reducible assumption) | assumption)
                    have q10 : x4_2 < (a0.size : Int) := of_decide_eq_true (by first | (with_reducible assumption) | assumption)
                    have hx10 := bt_at a0 x4_2
                    replace p10 := eq_true p10
                    replace q10 := eq_true q10
                    have p12 : 0 ≤ (x4_2 : Int) := of_decide_eq_true (by first | (with_reducible assumption) | assumption)
                    have q12 : x4_2 < (a0.size : Int) := of_decide_eq_true (by first | (with_reducible assumption) | assumption)
                    have hx12 := bt_at a0 x4_2
                    replace p12 := eq_true p12
                    replace q12 := eq_true q12
                    have p14 : 0 ≤ (x4_2 : Int) := of_decide_eq_true (by first | (with_reducible assumption) | assumption)
                    have q14 : x4_2 < (a0.size : Int) := of_decide_eq_true (by first | (with_reducible assumption) | assumption)
                    have hx14 := bt_at a0 x4_2
                    replace p14 := eq_true p14
                    replace q14 := eq_true q14
                    go_wp2
                    go_roundg k2
                    case measure => have := HJ1.out; have := HK2.out; omega
                    case rel => exact ⟨(wrap64 ((wrap64 (10 * x3_2)) + (((bt a0 x4_2) - 48) % 256))), (wrap64 (x4_2 + 1)), (by first | rfl | (simp; done) | (simp [*]; done)), (by first | rfl | (simp; done) | (simp [*]; done)), H', ⟨by have := HJ1.out; have := HK2.out; omega⟩, by repeat (first | exact Drawn0.refl _ | apply Drawn0.step)⟩
              · rw [if_neg c9] at H
                exact absurd H (by simp)
            · rw [if_neg c8] at H
              have c8b0 : decide (x4_2 < (a0.size : Int)) = false := decide_eq_false c8
              clear c8
              by_cases c15 : x3_2 > 65535
              · rw [if_pos c15] at H
                have c15b0 : decide (65535 < x3_2) = true := decide_eq_true c15
                clear c15
                obtain rfl := Option.some.inj H
                go_wp2
                go_ret
                exact ⟨by first | rfl | (simp; done) | (simp [*]; done), by repeat (first | exact Drawn0.refl _ | apply Drawn0.step)⟩
              · rw [if_neg c15] at H
                have c15b0 : decide (65535 < x3_2) = false := decide_eq_false c15
                clear c15
                obtain rfl := Option.some.inj H
                go_wp2
                go_ret
                exact ⟨by first | rfl | (simp; done) | (simp [*]; done), by repeat (first | exact Drawn0.refl _ | apply Drawn0.step)⟩

def valR : Nat → U8s → Int
  | acc, [] => if acc > 65535 then 0 else (acc : Int)
  | acc, b :: r => if b.toNat < 48 ∨ 57 < b.toNat then 0 else valR (10 * acc + (b.toNat - 48)) r
def portR (y : U8s) : Int := if y = [] ∨ 5 < y.length ∨ y.head? = some 48 then 0 else valR 0 y
theorem port_step (acc b : Nat) (h : acc < 100000) (h1 : ¬ ((b : Int) < 48)) (h2 : ¬ ((b : Int) > 57)) : wrap64 ((wrap64 (10 * (acc : Int))) + (((b : Int) - 48) % 256)) = ((10 * acc + (b - 48) : Nat) : Int) := by unfold wrap64; omega
theorem port_grow (acc b i : Nat) (h : acc < 10 ^ i) (h2 : ¬ ((b : Int) > 57)) : 10 * acc + (b - 48) < 10 ^ (i + 1) := by rw [Nat.pow_succ]; omega
theorem refPortP_l0 (y : U8s) (hy : y.length ≤ 5) : ∀ (d i acc : Nat), y.length - i = d → i ≤ y.length → acc < 10 ^ i → Ev (fun k => tollhouseref10_portP.l0 k (mkB y) (acc : Int) (i : Int)) (valR acc (y.drop i)) := by
  intro d
  induction d with
  | zero =>
    intro i acc hd hi ha
    rw [List.drop_eq_nil_of_le (by omega), valR]
    refine Ev.step (fun k => by rw [tollhouseref10_portP.l0, mkB_size, if_neg (by omega)]) ?_
    refine ev_ifL (fun h => ?_) (fun h => ?_)
    · rw [if_pos (by omega)]; exact Ev.now _
    · rw [if_neg (by omega)]; exact Ev.now _
  | succ d ih =>
    intro i acc hd hi ha
    have hlt : i < y.length := by omega
    have hb := bt_mk y i hlt
    have hw1 : wrap64 ((i : Int) + 1) = ((i + 1 : Nat) : Int) := w64n i (by omega)
    have hp : 10 ^ i ≤ 100000 := by
      have : (10 : Nat) ^ i ≤ 10 ^ 5 := Nat.pow_le_pow_right (by decide) (by omega)
      omega
    rw [List.drop_eq_getElem_cons hlt, valR]
    have hbl := y[i].toNat_lt
    refine Ev.step (fun k => by rw [tollhouseref10_portP.l0, mkB_size, if_pos (by omega), if_pos (by omega), hb, hw1]) ?_
    refine ev_ifL (fun g => ?_) (fun g => ?_)
    · rw [if_pos (by omega)]; exact Ev.now _
    · refine ev_ifL (fun g2 => ?_) (fun g2 => ?_)
      · rw [if_pos (by omega)]; exact Ev.now _
      · rw [if_neg (by omega)]
        have e := port_step acc y[i].toNat (Nat.lt_of_lt_of_le ha hp) g g2
        rw [e]
        exact ih (i + 1) _ (by omega) (by omega) (port_grow acc _ i ha g2)
theorem refPortP_ok (y : U8s) (hy : y.length ≤ 1073741824) : Ev (fun k => tollhouseref10_portP.f k (mkB y)) (portR y) := by
  unfold tollhouseref10_portP.f portR
  have hj1 : Ev (fun k => tollhouseref10_portP.j0 k (mkB y) true) 0 := Ev.step (fun k => by rw [tollhouseref10_portP.j0]) (Ev.congr (fun k => if_pos rfl) (Ev.now _))
  rw [mkB_size]
  refine ev_ifL (fun h0 => ?_) (fun h0 => ?_)
  · have : y = [] := List.length_eq_zero_iff.1 (by omega)
    rw [if_pos (.inl this)]; exact hj1
  · refine ev_ifL (fun h5 => ?_) (fun h5 => ?_)
    · rw [if_pos (.inr (.inl (by omega)))]; exact hj1
    · have hlt : 0 < y.length := by omega
      have hb : bt (mkB y) 0 = ((y[0]'hlt).toNat : Int) := bt_mk y 0 hlt
      have hh : y.head? = some (y[0]'hlt) := by rw [List.head?_eq_getElem?, List.getElem?_eq_getElem hlt]
      refine Ev.congr (fun k => by rw [if_pos (by omega), hb]) ?_
      by_cases h48 : y[0]'hlt = 48
      · rw [if_pos (.inr (.inr (by rw [hh, h48]))), h48]
        exact hj1
      · have e : (((y[0]'hlt).toNat : Int) == 48) = false := by
          rw [beq_eq_false_iff_ne]; intro e; exact h48 (UInt8.toNat_inj.1 (by have : (48 : UInt8).toNat = 48 := rfl; omega))
        rw [e, if_neg (by
          rintro (h | h | h)
          · rw [h] at hlt; exact absurd hlt (by decide)
          · omega
          · rw [hh] at h; exact h48 (Option.some.inj h))]
        refine Ev.step (fun k => by rw [tollhouseref10_portP.j0]) ?_
        refine Ev.congr (fun k => if_neg (by decide)) ?_
        have := refPortP_l0 y (by omega) y.length 0 0 (by omega) (Nat.zero_le _) (by decide)
        rw [List.drop_zero] at this
        exact this
def tollhouseref10_port.f (a0 : ByteArray) : Option Int := if a0.size ≤ 1073741824 then some (portR a0.data.toList) else none
theorem tollhouseref10_port.calls (a0 : ByteArray) (r : Int) (w : World) (h : tollhouseref10_port.f a0 = some r) :
    Calls Tryz.prog 27 #[.string a0] w fun e w' => e = .returned (.int .i64 r) ∧ Below w.heap.size w w' := by
  unfold tollhouseref10_port.f at h
  split at h
  · rename_i hs
    obtain ⟨l, rfl⟩ := mkOf a0
    rw [mkB_size] at hs
    obtain ⟨k, hk⟩ := Ev.rounds (refPortP_ok l hs)
    rw [← Option.some.inj h]
    refine (tollhouseref10_portP.calls k (mkB l) _ w hk).mono ?_
    rintro e w' ⟨h1, ⟨nd, h2⟩⟩
    rw [h2]
    exact ⟨h1, pw_below_drewN (Below.refl _ _) _⟩
  · exact absurd h (by simp)
end Go.Proofs.YteggopolokblhaaGreatDoor.P
