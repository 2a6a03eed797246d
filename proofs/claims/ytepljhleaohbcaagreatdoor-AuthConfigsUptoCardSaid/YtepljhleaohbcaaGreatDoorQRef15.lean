/- The walks of small Go functions, and what they compute. By program. Conditions: none but those that each theorem names. -/
import Derived.Test.YtepljhleaohbcaaGreatDoorQ0
import Derived.Test.YtepljhleaohbcaaGreatDoorQRef14
import Derived.Test.YtepljhleaohbcaaGreatDoorQRef02
import Derived.Test.YtepljhleaohbcaaGreatDoorQRef05
set_option linter.unusedVariables false
set_option linter.unusedSimpArgs false

section
/- The walk of the Go function tollhouseref15 May, and what it computes. By program. Conditions: none but those that each theorem names. -/
namespace Go.Proofs.YtepljhleaohbcaaGreatDoor.P
open Go.RowKit Go.Proofs.YtepljhleaohbcaaGreatDoorW.PrintWords Go.Proofs.YtepljhleaohbcaaGreatDoorW.PrintLast Go.Proofs.YtepljhleaohbcaaGreatDoorW.PrintMore
attribute [local go_sem] max2_int min2_int max_two min_two max_three min_three max_four min_four

/-! ### tollhouseref15_May: function 14 -/
mutual
def tollhouseref15_May.l0 : Nat → ByteArray → Int → Option (Bool)
  | 0, _, _ => none
  | k + 1, x0, x3 => if x3 < (x0.size : Int) then (if 0 ≤ x3 then (tollhouseref15_May.j1 k x0 x3 ((bt x0 x3) != 61)) else (none)) else (tollhouseref15_May.j1 k x0 x3 false)
def tollhouseref15_May.j1 : Nat → ByteArray → Int → Bool → Option (Bool)
  | 0, _, _, _ => none
  | k + 1, x0, x3, x16 => if x16 = true then (if 0 ≤ x3 then (if x3 < (x0.size : Int) then (if (bt x0 x3) ≥ 97 then (if (bt x0 x3) ≤ 122 then (tollhouseref15_May.l0 k x0 (wrap64 (x3 + 1))) else (if (bt x0 x3) ≥ 65 then (if (bt x0 x3) ≤ 90 then (tollhouseref15_May.l0 k x0 (wrap64 (x3 + 1))) else (if (bt x0 x3) ≥ 48 then (if (bt x0 x3) ≤ 57 then (tollhouseref15_May.l0 k x0 (wrap64 (x3 + 1))) else (if (bt x0 x3) = 45 then (tollhouseref15_May.l0 k x0 (wrap64 (x3 + 1))) else (if (bt x0 x3) = 46 then (tollhouseref15_May.l0 k x0 (wrap64 (x3 + 1))) else (if (bt x0 x3) = 95 then (tollhouseref15_May.l0 k x0 (wrap64 (x3 + 1))) else (if (bt x0 x3) = 126 then (tollhouseref15_May.l0 k x0 (wrap64 (x3 + 1))) else (if (bt x0 x3) = 43 then (tollhouseref15_May.l0 k x0 (wrap64 (x3 + 1))) else (if ((bt x0 x3) = 47) then (tollhouseref15_May.l0 k x0 (wrap64 (x3 + 1))) else (some false)))))))) else (if (bt x0 x3) = 45 then (tollhouseref15_May.l0 k x0 (wrap64 (x3 + 1))) else (if (bt x0 x3) = 46 then (tollhouseref15_May.l0 k x0 (wrap64 (x3 + 1))) else (if (bt x0 x3) = 95 then (tollhouseref15_May.l0 k x0 (wrap64 (x3 + 1))) else (if (bt x0 x3) = 126 then (tollhouseref15_May.l0 k x0 (wrap64 (x3 + 1))) else (if (bt x0 x3) = 43 then (tollhouseref15_May.l0 k x0 (wrap64 (x3 + 1))) else (if ((bt x0 x3) = 47) then (tollhouseref15_May.l0 k x0 (wrap64 (x3 + 1))) else (some false))))))))) else (if (bt x0 x3) ≥ 48 then (if (bt x0 x3) ≤ 57 then (tollhouseref15_May.l0 k x0 (wrap64 (x3 + 1))) else (if (bt x0 x3) = 45 then (tollhouseref15_May.l0 k x0 (wrap64 (x3 + 1))) else (if (bt x0 x3) = 46 then (tollhouseref15_May.l0 k x0 (wrap64 (x3 + 1))) else (if (bt x0 x3) = 95 then (tollhouseref15_May.l0 k x0 (wrap64 (x3 + 1))) else (if (bt x0 x3) = 126 then (tollhouseref15_May.l0 k x0 (wrap64 (x3 + 1))) else (if (bt x0 x3) = 43 then (tollhouseref15_May.l0 k x0 (wrap64 (x3 + 1))) else (if ((bt x0 x3) = 47) then (tollhouseref15_May.l0 k x0 (wrap64 (x3 + 1))) else (some false)))))))) else (if (bt x0 x3) = 45 then (tollhouseref15_May.l0 k x0 (wrap64 (x3 + 1))) else (if (bt x0 x3) = 46 then (tollhouseref15_May.l0 k x0 (wrap64 (x3 + 1))) else (if (bt x0 x3) = 95 then (tollhouseref15_May.l0 k x0 (wrap64 (x3 + 1))) else (if (bt x0 x3) = 126 then (tollhouseref15_May.l0 k x0 (wrap64 (x3 + 1))) else (if (bt x0 x3) = 43 then (tollhouseref15_May.l0 k x0 (wrap64 (x3 + 1))) else (if ((bt x0 x3) = 47) then (tollhouseref15_May.l0 k x0 (wrap64 (x3 + 1))) else (some false)))))))))) else (if (bt x0 x3) ≥ 65 then (if (bt x0 x3) ≤ 90 then (tollhouseref15_May.l0 k x0 (wrap64 (x3 + 1))) else (if (bt x0 x3) ≥ 48 then (if (bt x0 x3) ≤ 57 then (tollhouseref15_May.l0 k x0 (wrap64 (x3 + 1))) else (if (bt x0 x3) = 45 then (tollhouseref15_May.l0 k x0 (wrap64 (x3 + 1))) else (if (bt x0 x3) = 46 then (tollhouseref15_May.l0 k x0 (wrap64 (x3 + 1))) else (if (bt x0 x3) = 95 then (tollhouseref15_May.l0 k x0 (wrap64 (x3 + 1))) else (if (bt x0 x3) = 126 then (tollhouseref15_May.l0 k x0 (wrap64 (x3 + 1))) else (if (bt x0 x3) = 43 then (tollhouseref15_May.l0 k x0 (wrap64 (x3 + 1))) else (if ((bt x0 x3) = 47) then (tollhouseref15_May.l0 k x0 (wrap64 (x3 + 1))) else (some false)))))))) else (if (bt x0 x3) = 45 then (tollhouseref15_May.l0 k x0 (wrap64 (x3 + 1))) else (if (bt x0 x3) = 46 then (tollhouseref15_May.l0 k x0 (wrap64 (x3 + 1))) else (if (bt x0 x3) = 95 then (tollhouseref15_May.l0 k x0 (wrap64 (x3 + 1))) else (if (bt x0 x3) = 126 then (tollhouseref15_May.l0 k x0 (wrap64 (x3 + 1))) else (if (bt x0 x3) = 43 then (tollhouseref15_May.l0 k x0 (wrap64 (x3 + 1))) else (if ((bt x0 x3) = 47) then (tollhouseref15_May.l0 k x0 (wrap64 (x3 + 1))) else (some false))))))))) else (if (bt x0 x3) ≥ 48 then (if (bt x0 x3) ≤ 57 then (tollhouseref15_May.l0 k x0 (wrap64 (x3 + 1))) else (if (bt x0 x3) = 45 then (tollhouseref15_May.l0 k x0 (wrap64 (x3 + 1))) else (if (bt x0 x3) = 46 then (tollhouseref15_May.l0 k x0 (wrap64 (x3 + 1))) else (if (bt x0 x3) = 95 then (tollhouseref15_May.l0 k x0 (wrap64 (x3 + 1))) else (if (bt x0 x3) = 126 then (tollhouseref15_May.l0 k x0 (wrap64 (x3 + 1))) else (if (bt x0 x3) = 43 then (tollhouseref15_May.l0 k x0 (wrap64 (x3 + 1))) else (if ((bt x0 x3) = 47) then (tollhouseref15_May.l0 k x0 (wrap64 (x3 + 1))) else (some false)))))))) else (if (bt x0 x3) = 45 then (tollhouseref15_May.l0 k x0 (wrap64 (x3 + 1))) else (if (bt x0 x3) = 46 then (tollhouseref15_May.l0 k x0 (wrap64 (x3 + 1))) else (if (bt x0 x3) = 95 then (tollhouseref15_May.l0 k x0 (wrap64 (x3 + 1))) else (if (bt x0 x3) = 126 then (tollhouseref15_May.l0 k x0 (wrap64 (x3 + 1))) else (if (bt x0 x3) = 43 then (tollhouseref15_May.l0 k x0 (wrap64 (x3 + 1))) else (if ((bt x0 x3) = 47) then (tollhouseref15_May.l0 k x0 (wrap64 (x3 + 1))) else (some false)))))))))) else (none)) else (none)) else (tollhouseref15_May.l1 k x0 x3 x3)
def tollhouseref15_May.l1 : Nat → ByteArray → Int → Int → Option (Bool)
  | 0, _, _, _ => none
  | k + 1, x0, x3, x6 => if x6 < (x0.size : Int) then (if 0 ≤ x6 then (if (bt x0 x6) = 61 then (tollhouseref15_May.l1 k x0 x3 (wrap64 (x6 + 1))) else (some false)) else (none)) else (if x3 > 0 then (some (decide ((x0.size : Int) ≤ 64))) else (some false))
end
def tollhouseref15_May.f (k : Nat) (a0 : ByteArray) : Option (Bool) := tollhouseref15_May.l0 k a0 0
theorem tollhouseref15_May.mono_l : ∀ k, (∀ y0 y1, LeO (tollhouseref15_May.l0 k y0 y1) (tollhouseref15_May.l0 (k + 1) y0 y1)) ∧ (∀ y0 y1 y2, LeO (tollhouseref15_May.j1 k y0 y1 y2) (tollhouseref15_May.j1 (k + 1) y0 y1 y2)) ∧ (∀ y0 y1 y2, LeO (tollhouseref15_May.l1 k y0 y1 y2) (tollhouseref15_May.l1 (k + 1) y0 y1 y2))
  | 0 => ⟨fun _ _ r h => by simp [tollhouseref15_May.l0] at h, fun _ _ _ r h => by simp [tollhouseref15_May.j1] at h, fun _ _ _ r h => by simp [tollhouseref15_May.l1] at h⟩
  | k + 1 => by
    obtain ⟨ih0, ih1, ih2⟩ := tollhouseref15_May.mono_l k
    refine ⟨?_, ?_, ?_⟩
    · intro y0 y1
      unfold tollhouseref15_May.l0
      repeat' first
      | (with_reducible exact ih0 _ _)
      | (with_reducible exact ih1 _ _ _)
      | (with_reducible exact ih2 _ _ _)
      | (with_reducible exact LeO.refl _)
      | (with_reducible exact LeO.none _)
      | (with_reducible refine LeO.ite ?_ ?_)
      | (with_reducible refine LeO.bind ?_ (fun _ => ?_))
      | exact ih0 _ _
      | exact ih1 _ _ _
      | exact ih2 _ _ _
      | exact LeO.none _
      | refine LeO.ite ?_ ?_
      | refine LeO.bind ?_ (fun _ => ?_)
    · intro y0 y1 y2
      unfold tollhouseref15_May.j1
      repeat' first
      | (with_reducible exact ih0 _ _)
      | (with_reducible exact ih1 _ _ _)
      | (with_reducible exact ih2 _ _ _)
      | (with_reducible exact LeO.refl _)
      | (with_reducible exact LeO.none _)
      | (with_reducible refine LeO.ite ?_ ?_)
      | (with_reducible refine LeO.bind ?_ (fun _ => ?_))
      | exact ih0 _ _
      | exact ih1 _ _ _
      | exact ih2 _ _ _
      | exact LeO.none _
      | refine LeO.ite ?_ ?_
      | refine LeO.bind ?_ (fun _ => ?_)
    · intro y0 y1 y2
      unfold tollhouseref15_May.l1
      repeat' first
      | (with_reducible exact ih0 _ _)
      | (with_reducible exact ih1 _ _ _)
      | (with_reducible exact ih2 _ _ _)
      | (with_reducible exact LeO.refl _)
      | (with_reducible exact LeO.none _)
      | (with_reducible refine LeO.ite ?_ ?_)
      | (with_reducible refine LeO.bind ?_ (fun _ => ?_))
      | exact ih0 _ _
      | exact ih1 _ _ _
      | exact ih2 _ _ _
      | exact LeO.none _
      | refine LeO.ite ?_ ?_
      | refine LeO.bind ?_ (fun _ => ?_)
theorem tollhouseref15_May.mono : ∀ a0 k, LeO (tollhouseref15_May.f k a0) (tollhouseref15_May.f (k + 1) a0) := by
  intro a0 k
  obtain ⟨ih0, ih1, ih2⟩ := tollhouseref15_May.mono_l k
  unfold tollhouseref15_May.f
  repeat' first
      | (with_reducible exact ih0 _ _)
      | (with_reducible exact ih1 _ _ _)
      | (with_reducible exact ih2 _ _ _)
      | (with_reducible exact LeO.refl _)
      | (with_reducible exact LeO.none _)
      | (with_reducible refine LeO.ite ?_ ?_)
      | (with_reducible refine LeO.bind ?_ (fun _ => ?_))
      | exact ih0 _ _
      | exact ih1 _ _ _
      | exact ih2 _ _ _
      | exact LeO.none _
      | refine LeO.ite ?_ ?_
      | refine LeO.bind ?_ (fun _ => ?_)
set_option maxHeartbeats 8000000 in
set_option maxRecDepth 100000 in
theorem tollhouseref15_May.calls (k : Nat) (a0 : ByteArray) (r : Bool) (w : World) (h : tollhouseref15_May.f k a0 = some r) :
    Calls Tryz.prog 14 #[.string a0] w fun e w' => e = .returned (.bool r) ∧ Drawn0 w w' := by
  have H : (tollhouseref15_May.l0 k a0 0) = some r := h
  clear h
  have H' := Aside0.mk H
  clear H
  go_enter Tryz.func14, Tryz.ntmps14
  go_wp2
  go_loopg [3] k (fun kq v3 w' => ∃ (x3_1 : Int), v3 = .int .i64 x3_1 ∧ Aside0 (tollhouseref15_May.l0 kq a0 x3_1 = some r) ∧ Aside0 (kq ≤ k) ∧ Drawn0 w w')
  case atStart => exact ⟨(0), (by first | rfl | (simp; done) | (simp [*]; done)), H', ⟨Nat.le_refl _⟩, by repeat (first | exact Drawn0.refl _ | apply Drawn0.step)⟩
  case round =>
    clear H'
    try clear c1
    obtain ⟨x3_1, rfl, HA, HK1, ⟨m1, rfl⟩⟩ := hrel
    cases gk with
    | zero => exact absurd HA.out (by simp [tollhouseref15_May.l0])
    | succ k1 =>
      have H := HA.out
      clear HA
      simp only [tollhouseref15_May.l0] at H
      have HC2 := Aside0.mk H
      clear H
      go_upto_region 2 with (fail)
      go_cut [16] (fun v16 wc => ∃ (kq : Nat) (x16_1 : Bool), v16 = .bool x16_1 ∧ Aside0 (tollhouseref15_May.j1 kq a0 x3_1 x16_1 = some r) ∧ Aside0 (kq ≤ k1) ∧ Drawn0 w wc)
      case first =>
        have H := HC2.out
        clear HC2
        by_cases c3 : x3_1 < (a0.size : Int)
        · rw [if_pos c3] at H
          have c3b0 : decide (x3_1 < (a0.size : Int)) = true := decide_eq_true c3
          clear c3
          (first | rw [c3b0] | (simp only [i64_w, i32_w]; rw [c3b0]) | skip)
          by_cases c4 : 0 ≤ x3_1
          · rw [if_pos c4] at H
            have c4b0 : decide (0 ≤ x3_1) = true := decide_eq_true c4
            clear c4
            have H' := Aside0.mk H
            clear H
            have p5 : 0 ≤ (x3_1 : Int) := of_decide_eq_true (by first | (with_reducible assumption) | assumption)
            have q5 : x3_1 < (a0.size : Int) := of_decide_eq_true (by first | (with_reducible assumption) | assumption)
            have hx5 := bt_at a0 x3_1
            replace p5 := eq_true p5
            replace q5 := eq_true q5
            go_wp2
            go_meet
            case rel => exact ⟨_, (((bt a0 x3_1) != 61)), (by first | rfl | (simp; done) | (simp [*]; done)), H', ⟨by have := HK1.out; first | omega | exact Nat.le_refl _⟩, by repeat (first | exact Drawn0.refl _ | apply Drawn0.step)⟩
          · rw [if_neg c4] at H
            exact absurd H (by simp)
        · rw [if_neg c3] at H
          have c3b0 : decide (x3_1 < (a0.size : Int)) = false := decide_eq_false c3
          clear c3
          (first | rw [c3b0] | (simp only [i64_w, i32_w]; rw [c3b0]) | skip)
          have H' := Aside0.mk H
          clear H
          go_wp2
          go_meet
          case rel => exact ⟨_, (false), (by first | rfl | (simp; done) | (simp [*]; done)), H', ⟨by have := HK1.out; first | omega | exact Nat.le_refl _⟩, by repeat (first | exact Drawn0.refl _ | apply Drawn0.step)⟩
      case rest =>
        clear HC2
        try clear c1
        try clear p2
        try clear c3
        try clear c3b0
        try clear c4
        try clear c4b0
        try clear p5
        try clear q5
        try clear hx5
        try clear p5
        try clear q5
        obtain ⟨kq, x16_1, rfl, HA, HJ1, ⟨mc1, rfl⟩⟩ := hcut
        cases kq with
        | zero => exact absurd HA.out (by simp [tollhouseref15_May.j1])
        | succ kj1 =>
          have H := HA.out
          clear HA
          simp only [tollhouseref15_May.j1] at H
          by_cases c6 : x16_1 = true
          · subst c6
            have H1 : (if 0 ≤ x3_1 then (if x3_1 < (a0.size : Int) then (if (bt a0 x3_1) ≥ 97 then (if (bt a0 x3_1) ≤ 122 then (tollhouseref15_May.l0 kj1 a0 (wrap64 (x3_1 + 1))) else (if (bt a0 x3_1) ≥ 65 then (if (bt a0 x3_1) ≤ 90 then (tollhouseref15_May.l0 kj1 a0 (wrap64 (x3_1 + 1))) else (if (bt a0 x3_1) ≥ 48 then (if (bt a0 x3_1) ≤ 57 then (tollhouseref15_May.l0 kj1 a0 (wrap64 (x3_1 + 1))) else (if (bt a0 x3_1) = 45 then (tollhouseref15_May.l0 kj1 a0 (wrap64 (x3_1 + 1))) else (if (bt a0 x3_1) = 46 then (tollhouseref15_May.l0 kj1 a0 (wrap64 (x3_1 + 1))) else (if (bt a0 x3_1) = 95 then (tollhouseref15_May.l0 kj1 a0 (wrap64 (x3_1 + 1))) else (if (bt a0 x3_1) = 126 then (tollhouseref15_May.l0 kj1 a0 (wrap64 (x3_1 + 1))) else (if (bt a0 x3_1) = 43 then (tollhouseref15_May.l0 kj1 a0 (wrap64 (x3_1 + 1))) else (if ((bt a0 x3_1) = 47) then (tollhouseref15_May.l0 kj1 a0 (wrap64 (x3_1 + 1))) else (some false)))))))) else (if (bt a0 x3_1) = 45 then (tollhouseref15_May.l0 kj1 a0 (wrap64 (x3_1 + 1))) else (if (bt a0 x3_1) = 46 then (tollhouseref15_May.l0 kj1 a0 (wrap64 (x3_1 + 1))) else (if (bt a0 x3_1) = 95 then (tollhouseref15_May.l0 kj1 a0 (wrap64 (x3_1 + 1))) else (if (bt a0 x3_1) = 126 then (tollhouseref15_May.l0 kj1 a0 (wrap64 (x3_1 + 1))) else (if (bt a0 x3_1) = 43 then (tollhouseref15_May.l0 kj1 a0 (wrap64 (x3_1 + 1))) else (if ((bt a0 x3_1) = 47) then (tollhouseref15_May.l0 kj1 a0 (wrap64 (x3_1 + 1))) else (some false))))))))) else (if (bt a0 x3_1) ≥ 48 then (if (bt a0 x3_1) ≤ 57 then (tollhouseref15_May.l0 kj1 a0 (wrap64 (x3_1 + 1))) else (if (bt a0 x3_1) = 45 then (tollhouseref15_May.l0 kj1 a0 (wrap64 (x3_1 + 1))) else (if (bt a0 x3_1) = 46 then (tollhouseref15_May.l0 kj1 a0 (wrap64 (x3_1 + 1))) else (if (bt a0 x3_1) = 95 then (tollhouseref15_May.l0 kj1 a0 (wrap64 (x3_1 + 1))) else (if (bt a0 x3_1) = 126 then (tollhouseref15_May.l0 kj1 a0 (wrap64 (x3_1 + 1))) else (if (bt a0 x3_1) = 43 then (tollhouseref15_May.l0 kj1 a0 (wrap64 (x3_1 + 1))) else (if ((bt a0 x3_1) = 47) then (tollhouseref15_May.l0 kj1 a0 (wrap64 (x3_1 + 1))) else (some false)))))))) else (if (bt a0 x3_1) = 45 then (tollhouseref15_May.l0 kj1 a0 (wrap64 (x3_1 + 1))) else (if (bt a0 x3_1) = 46 then (tollhouseref15_May.l0 kj1 a0 (wrap64 (x3_1 + 1))) else (if (bt a0 x3_1) = 95 then (tollhouseref15_May.l0 kj1 a0 (wrap64 (x3_1 + 1))) else (if (bt a0 x3_1) = 126 then (tollhouseref15_May.l0 kj1 a0 (wrap64 (x3_1 + 1))) else (if (bt a0 x3_1) = 43 then (tollhouseref15_May.l0 kj1 a0 (wrap64 (x3_1 + 1))) else (if ((bt a0 x3_1) = 47) then (tollhouseref15_May.l0 kj1 a0 (wrap64 (x3_1 + 1))) else (some false)))))))))) else (if (bt a0 x3_1) ≥ 65 then (if (bt a0 x3_1) ≤ 90 then (tollhouseref15_May.l0 kj1 a0 (wrap64 (x3_1 + 1))) else (if (bt a0 x3_1) ≥ 48 then (if (bt a0 x3_1) ≤ 57 then (tollhouseref15_May.l0 kj1 a0 (wrap64 (x3_1 + 1))) else (if (bt a0 x3_1) = 45 then (tollhouseref15_May.l0 kj1 a0 (wrap64 (x3_1 + 1))) else (if (bt a0 x3_1) = 46 then (tollhouseref15_May.l0 kj1 a0 (wrap64 (x3_1 + 1))) else (if (bt a0 x3_1) = 95 then (tollhouseref15_May.l0 kj1 a0 (wrap64 (x3_1 + 1))) else (if (bt a0 x3_1) = 126 then (tollhouseref15_May.l0 kj1 a0 (wrap64 (x3_1 + 1))) else (if (bt a0 x3_1) = 43 then (tollhouseref15_May.l0 kj1 a0 (wrap64 (x3_1 + 1))) else (if ((bt a0 x3_1) = 47) then (tollhouseref15_May.l0 kj1 a0 (wrap64 (x3_1 + 1))) else (some false)))))))) else (if (bt a0 x3_1) = 45 then (tollhouseref15_May.l0 kj1 a0 (wrap64 (x3_1 + 1))) else (if (bt a0 x3_1) = 46 then (tollhouseref15_May.l0 kj1 a0 (wrap64 (x3_1 + 1))) else (if (bt a0 x3_1) = 95 then (tollhouseref15_May.l0 kj1 a0 (wrap64 (x3_1 + 1))) else (if (bt a0 x3_1) = 126 then (tollhouseref15_May.l0 kj1 a0 (wrap64 (x3_1 + 1))) else (if (bt a0 x3_1) = 43 then (tollhouseref15_May.l0 kj1 a0 (wrap64 (x3_1 + 1))) else (if ((bt a0 x3_1) = 47) then (tollhouseref15_May.l0 kj1 a0 (wrap64 (x3_1 + 1))) else (some false))))))))) else (if (bt a0 x3_1) ≥ 48 then (if (bt a0 x3_1) ≤ 57 then (tollhouseref15_May.l0 kj1 a0 (wrap64 (x3_1 + 1))) else (if (bt a0 x3_1) = 45 then (tollhouseref15_May.l0 kj1 a0 (wrap64 (x3_1 + 1))) else (if (bt a0 x3_1) = 46 then (tollhouseref15_May.l0 kj1 a0 (wrap64 (x3_1 + 1))) else (if (bt a0 x3_1) = 95 then (tollhouseref15_May.l0 kj1 a0 (wrap64 (x3_1 + 1))) else (if (bt a0 x3_1) = 126 then (tollhouseref15_May.l0 kj1 a0 (wrap64 (x3_1 + 1))) else (if (bt a0 x3_1) = 43 then (tollhouseref15_May.l0 kj1 a0 (wrap64 (x3_1 + 1))) else (if ((bt a0 x3_1) = 47) then (tollhouseref15_May.l0 kj1 a0 (wrap64 (x3_1 + 1))) else (some false)))))))) else (if (bt a0 x3_1) = 45 then (tollhouseref15_May.l0 kj1 a0 (wrap64 (x3_1 + 1))) else (if (bt a0 x3_1) = 46 then (tollhouseref15_May.l0 kj1 a0 (wrap64 (x3_1 + 1))) else (if (bt a0 x3_1) = 95 then (tollhouseref15_May.l0 kj1 a0 (wrap64 (x3_1 + 1))) else (if (bt a0 x3_1) = 126 then (tollhouseref15_May.l0 kj1 a0 (wrap64 (x3_1 + 1))) else (if (bt a0 x3_1) = 43 then (tollhouseref15_May.l0 kj1 a0 (wrap64 (x3_1 + 1))) else (if ((bt a0 x3_1) = 47) then (tollhouseref15_May.l0 kj1 a0 (wrap64 (x3_1 + 1))) else (some false)))))))))) else (none)) else (none)) = some r := by rw [if_pos rfl] at H; exact H
            clear H
            have H := H1
            clear H1
            by_cases c7 : 0 ≤ x3_1
            · rw [if_pos c7] at H
              have c7b0 : decide (0 ≤ x3_1) = true := decide_eq_true c7
              clear c7
              by_cases c8 : x3_1 < (a0.size : Int)
              · rw [if_pos c8] at H
                have c8b0 : decide (x3_1 < (a0.size : Int)) = true := decide_eq_true c8
                clear c8
                by_cases c10 : (bt a0 x3_1) ≥ 97
                · rw [if_pos c10] at H
                  have c10b0 : decide (97 ≤ (bt a0 x3_1)) = true := decide_eq_true c10
                  clear c10
                  by_cases c11 : (bt a0 x3_1) ≤ 122
                  · rw [if_pos c11] at H
                    have c11b0 : decide ((bt a0 x3_1) ≤ 122) = true := decide_eq_true c11
                    clear c11
                    have H' := Aside0.mk H
                    clear H
                    have p9 : 0 ≤ (x3_1 : Int) := of_decide_eq_true (by first | (with_reducible assumption) | assumption)
                    have q9 : x3_1 < (a0.size : Int) := of_decide_eq_true (by first | (with_reducible assumption) | assumption)
                    have hx9 := bt_at a0 x3_1
                    replace p9 := eq_true p9
                    replace q9 := eq_true q9
                    go_wp2
                    go_roundg kj1
                    case measure => have := HK1.out; have := HJ1.out; omega
                    case rel => exact ⟨(wrap64 (x3_1 + 1)), (by first | rfl | (simp; done) | (simp [*]; done)), H', ⟨by have := HK1.out; have := HJ1.out; omega⟩, by repeat (first | exact Drawn0.refl _ | apply Drawn0.step)⟩
                  · rw [if_neg c11] at H
                    have c11b0 : decide ((bt a0 x3_1) ≤ 122) = false := decide_eq_false c11
                    clear c11
                    by_cases c12 : (bt a0 x3_1) ≥ 65
                    · rw [if_pos c12] at H
                      have c12b0 : decide (65 ≤ (bt a0 x3_1)) = true := decide_eq_true c12
                      clear c12
                      by_cases c13 : (bt a0 x3_1) ≤ 90
                      · rw [if_pos c13] at H
                        have c13b0 : decide ((bt a0 x3_1) ≤ 90) = true := decide_eq_true c13
                        clear c13
                        have H' := Aside0.mk H
                        clear H
                        have p9 : 0 ≤ (x3_1 : Int) := of_decide_eq_true (by first | (with_reducible assumption) | assumption)
                        have q9 : x3_1 < (a0.size : Int) := of_decide_eq_true (by first | (with_reducible assumption) | assumption)
                        have hx9 := bt_at a0 x3_1
                        replace p9 := eq_true p9
                        replace q9 := eq_true q9
                        go_wp2
                        go_roundg kj1
                        case measure => have := HK1.out; have := HJ1.out; omega
                        case rel => exact ⟨(wrap64 (x3_1 + 1)), (by first | rfl | (simp; done) | (simp [*]; done)), H', ⟨by have := HK1.out; have := HJ1.out; omega⟩, by repeat (first | exact Drawn0.refl _ | apply Drawn0.step)⟩
                      · rw [if_neg c13] at H
                        have c13b0 : decide ((bt a0 x3_1) ≤ 90) = false := decide_eq_false c13
                        clear c13
                        by_cases c14 : (bt a0 x3_1) ≥ 48
                        · rw [if_pos c14] at H
                          have c14b0 : decide (48 ≤ (bt a0 x3_1)) = true := decide_eq_true c14
                          clear c14
                          by_cases c15 : (bt a0 x3_1) ≤ 57
                          · rw [if_pos c15] at H
                            have c15b0 : decide ((bt a0 x3_1) ≤ 57) = true := decide_eq_true c15
                            clear c15
                            have H' := Aside0.mk H
                            clear H
                            have p9 : 0 ≤ (x3_1 : Int) := of_decide_eq_true (by first | (with_reducible assumption) | assumption)
                            have q9 : x3_1 < (a0.size : Int) := of_decide_eq_true (by first | (with_reducible assumption) | assumption)
                            have hx9 := bt_at a0 x3_1
                            replace p9 := eq_true p9
                            replace q9 := eq_true q9
                            go_wp2
                            go_roundg kj1
                            case measure => have := HK1.out; have := HJ1.out; omega
                            case rel => exact ⟨(wrap64 (x3_1 + 1)), (by first | rfl | (simp; done) | (simp [*]; done)), H', ⟨by have := HK1.out; have := HJ1.out; omega⟩, by repeat (first | exact Drawn0.refl _ | apply Drawn0.step)⟩
                          · rw [if_neg c15] at H
                            have c15b0 : decide ((bt a0 x3_1) ≤ 57) = false := decide_eq_false c15
                            clear c15
                            by_cases c16 : (bt a0 x3_1) = 45
                            · rw [if_pos c16] at H
                              have c16b0 : ((bt a0 x3_1) == 45) = true := beq_iff_eq.mpr c16
                              have c16b1 : ((bt a0 x3_1) != 45) = false := bne_eq_false_iff_eq.mpr c16
                              clear c16
                              have H' := Aside0.mk H
                              clear H
                              have p9 : 0 ≤ (x3_1 : Int) := of_decide_eq_true (by first | (with_reducible assumption) | assumption)
                              have q9 : x3_1 < (a0.size : Int) := of_decide_eq_true (by first | (with_reducible assumption) | assumption)
                              have hx9 := bt_at a0 x3_1
                              replace p9 := eq_true p9
                              replace q9 := eq_true q9
                              go_wp2
                              go_roundg kj1
                              case measure => have := HK1.out; have := HJ1.out; omega
                              case rel => exact ⟨(wrap64 (x3_1 + 1)), (by first | rfl | (simp; done) | (simp [*]; done)), H', ⟨by have := HK1.out; have := HJ1.out; omega⟩, by repeat (first | exact Drawn0.refl _ | apply Drawn0.step)⟩
                            · rw [if_neg c16] at H
                              have c16b0 : ((bt a0 x3_1) == 45) = false := beq_eq_false_iff_ne.mpr c16
                              have c16b1 : ((bt a0 x3_1) != 45) = true := bne_iff_ne.mpr c16
                              by_cases c17 : (bt a0 x3_1) = 46
                              · rw [if_pos c17] at H
                                have c17b0 : ((bt a0 x3_1) == 46) = true := beq_iff_eq.mpr c17
                                have c17b1 : ((bt a0 x3_1) != 46) = false := bne_eq_false_iff_eq.mpr c17
                                clear c17
                                have H' := Aside0.mk H
                                clear H
                                have p9 : 0 ≤ (x3_1 : Int) := of_decide_eq_true (by first | (with_reducible assumption) | assumption)
                                have q9 : x3_1 < (a0.size : Int) := of_decide_eq_true (by first | (with_reducible assumption) | assumption)
                                have hx9 := bt_at a0 x3_1
                                replace p9 := eq_true p9
                                replace q9 := eq_true q9
                                go_wp2
                                go_roundg kj1
                                case measure => have := HK1.out; have := HJ1.out; omega
                                case rel => exact ⟨(wrap64 (x3_1 + 1)), (by first | rfl | (simp; done) | (simp [*]; done)), H', ⟨by have := HK1.out; have := HJ1.out; omega⟩, by repeat (first | exact Drawn0.refl _ | apply Drawn0.step)⟩
                              · rw [if_neg c17] at H
                                have c17b0 : ((bt a0 x3_1) == 46) = false := beq_eq_false_iff_ne.mpr c17
                                have c17b1 : ((bt a0 x3_1) != 46) = true := bne_iff_ne.mpr c17
                                by_cases c18 : (bt a0 x3_1) = 95
                                · rw [if_pos c18] at H
                                  have c18b0 : ((bt a0 x3_1) == 95) = true := beq_iff_eq.mpr c18
                                  have c18b1 : ((bt a0 x3_1) != 95) = false := bne_eq_false_iff_eq.mpr c18
                                  clear c18
                                  have H' := Aside0.mk H
                                  clear H
                                  have p9 : 0 ≤ (x3_1 : Int) := of_decide_eq_true (by first | (with_reducible assumption) | assumption)
                                  have q9 : x3_1 < (a0.size : Int) := of_decide_eq_true (by first | (with_reducible assumption) | assumption)
                                  have hx9 := bt_at a0 x3_1
                                  replace p9 := eq_true p9
                                  replace q9 := eq_true q9
                                  go_wp2
                                  go_roundg kj1
                                  case measure => have := HK1.out; have := HJ1.out; omega
                                  case rel => exact ⟨(wrap64 (x3_1 + 1)), (by first | rfl | (simp; done) | (simp [*]; done)), H', ⟨by have := HK1.out; have := HJ1.out; omega⟩, by repeat (first | exact Drawn0.refl _ | apply Drawn0.step)⟩
                                · rw [if_neg c18] at H
                                  have c18b0 : ((bt a0 x3_1) == 95) = false := beq_eq_false_iff_ne.mpr c18
                                  have c18b1 : ((bt a0 x3_1) != 95) = true := bne_iff_ne.mpr c18
                                  by_cases c19 : (bt a0 x3_1) = 126
                                  · rw [if_pos c19] at H
                                    have c19b0 : ((bt a0 x3_1) == 126) = true := beq_iff_eq.mpr c19
                                    have c19b1 : ((bt a0 x3_1) != 126) = false := bne_eq_false_iff_eq.mpr c19
                                    clear c19
                                    have H' := Aside0.mk H
                                    clear H
                                    have p9 : 0 ≤ (x3_1 : Int) := of_decide_eq_true (by first | (with_reducible assumption) | assumption)
                                    have q9 : x3_1 < (a0.size : Int) := of_decide_eq_true (by first | (with_reducible assumption) | assumption)
                                    have hx9 := bt_at a0 x3_1
                                    replace p9 := eq_true p9
                                    replace q9 := eq_true q9
                                    go_wp2
                                    go_roundg kj1
                                    case measure => have := HK1.out; have := HJ1.out; omega
                                    case rel => exact ⟨(wrap64 (x3_1 + 1)), (by first | rfl | (simp; done) | (simp [*]; done)), H', ⟨by have := HK1.out; have := HJ1.out; omega⟩, by repeat (first | exact Drawn0.refl _ | apply Drawn0.step)⟩
                                  · rw [if_neg c19] at H
                                    have c19b0 : ((bt a0 x3_1) == 126) = false := beq_eq_false_iff_ne.mpr c19
                                    have c19b1 : ((bt a0 x3_1) != 126) = true := bne_iff_ne.mpr c19
                                    by_cases c20 : (bt a0 x3_1) = 43
                                    · rw [if_pos c20] at H
                                      have c20b0 : ((bt a0 x3_1) == 43) = true := beq_iff_eq.mpr c20
                                      have c20b1 : ((bt a0 x3_1) != 43) = false := bne_eq_false_iff_eq.mpr c20
                                      clear c20
                                      have H' := Aside0.mk H
                                      clear H
                                      have p9 : 0 ≤ (x3_1 : Int) := of_decide_eq_true (by first | (with_reducible assumption) | assumption)
                                      have q9 : x3_1 < (a0.size : Int) := of_decide_eq_true (by first | (with_reducible assumption) | assumption)
                                      have hx9 := bt_at a0 x3_1
                                      replace p9 := eq_true p9
                                      replace q9 := eq_true q9
                                      go_wp2
                                      go_roundg kj1
                                      case measure => have := HK1.out; have := HJ1.out; omega
                                      case rel => exact ⟨(wrap64 (x3_1 + 1)), (by first | rfl | (simp; done) | (simp [*]; done)), H', ⟨by have := HK1.out; have := HJ1.out; omega⟩, by repeat (first | exact Drawn0.refl _ | apply Drawn0.step)⟩
                                    · rw [if_neg c20] at H
                                      have c20b0 : ((bt a0 x3_1) == 43) = false := beq_eq_false_iff_ne.mpr c20
                                      have c20b1 : ((bt a0 x3_1) != 43) = true := bne_iff_ne.mpr c20
                                      by_cases c21 : ((bt a0 x3_1) = 47)
                                      · rw [if_pos c21] at H
                                        have c21b0 : ((bt a0 x3_1) == 47) = true := beq_iff_eq.mpr c21
                                        have c21b1 : ((bt a0 x3_1) != 47) = false := bne_eq_false_iff_eq.mpr c21
                                        clear c21
                                        have H' := Aside0.mk H
                                        clear H
                                        have p9 : 0 ≤ (x3_1 : Int) := of_decide_eq_true (by first | (with_reducible assumption) | assumption)
                                        have q9 : x3_1 < (a0.size : Int) := of_decide_eq_true (by first | (with_reducible assumption) | assumption)
                                        have hx9 := bt_at a0 x3_1
                                        replace p9 := eq_true p9
                                        replace q9 := eq_true q9
                                        go_wp2
                                        go_roundg kj1
                                        case measure => have := HK1.out; have := HJ1.out; omega
                                        case rel => exact ⟨(wrap64 (x3_1 + 1)), (by first | rfl | (simp; done) | (simp [*]; done)), H', ⟨by have := HK1.out; have := HJ1.out; omega⟩, by repeat (first | exact Drawn0.refl _ | apply Drawn0.step)⟩
                                      · rw [if_neg c21] at H
                                        have c21b0 : ((bt a0 x3_1) == 47) = false := beq_eq_false_iff_ne.mpr c21
                                        have c21b1 : ((bt a0 x3_1) != 47) = true := bne_iff_ne.mpr c21
                                        obtain rfl := Option.some.inj H
                                        have p9 : 0 ≤ (x3_1 : Int) := of_decide_eq_true (by first | (with_reducible assumption) | assumption)
                                        have q9 : x3_1 < (a0.size : Int) := of_decide_eq_true (by first | (with_reducible assumption) | assumption)
                                        have hx9 := bt_at a0 x3_1
                                        replace p9 := eq_true p9
                                        replace q9 := eq_true q9
                                        go_wp2
                                        go_ret
                                        exact ⟨by first | rfl | (simp; done) | (simp [*]; done), by repeat (first | exact Drawn0.refl _ | apply Drawn0.step)⟩
                        · rw [if_neg c14] at H
                          have c14b0 : decide (48 ≤ (bt a0 x3_1)) = false := decide_eq_false c14
                          clear c14
                          by_cases c22 : (bt a0 x3_1) = 45
                          · rw [if_pos c22] at H
                            have c22b0 : ((bt a0 x3_1) == 45) = true := beq_iff_eq.mpr c22
                            have c22b1 : ((bt a0 x3_1) != 45) = false := bne_eq_false_iff_eq.mpr c22
                            clear c22
                            have H' := Aside0.mk H
                            clear H
                            have p9 : 0 ≤ (x3_1 : Int) := of_decide_eq_true (by first | (with_reducible assumption) | assumption)
                            have q9 : x3_1 < (a0.size : Int) := of_decide_eq_true (by first | (with_reducible assumption) | assumption)
                            have hx9 := bt_at a0 x3_1
                            replace p9 := eq_true p9
                            replace q9 := eq_true q9
                            go_wp2
                            go_roundg kj1
                            case measure => have := HK1.out; have := HJ1.out; omega
                            case rel => exact ⟨(wrap64 (x3_1 + 1)), (by first | rfl | (simp; done) | (simp [*]; done)), H', ⟨by have := HK1.out; have := HJ1.out; omega⟩, by repeat (first | exact Drawn0.refl _ | apply Drawn0.step)⟩
                          · rw [if_neg c22] at H
                            have c22b0 : ((bt a0 x3_1) == 45) = false := beq_eq_false_iff_ne.mpr c22
                            have c22b1 : ((bt a0 x3_1) != 45) = true := bne_iff_ne.mpr c22
                            by_cases c23 : (bt a0 x3_1) = 46
                            · rw [if_pos c23] at H
                              have c23b0 : ((bt a0 x3_1) == 46) = true := beq_iff_eq.mpr c23
                              have c23b1 : ((bt a0 x3_1) != 46) = false := bne_eq_false_iff_eq.mpr c23
                              clear c23
                              have H' := Aside0.mk H
                              clear H
                              have p9 : 0 ≤ (x3_1 : Int) := of_decide_eq_true (by first | (with_reducible assumption) | assumption)
                              have q9 : x3_1 < (a0.size : Int) := of_decide_eq_true (by first | (with_reducible assumption) | assumption)
                              have hx9 := bt_at a0 x3_1
                              replace p9 := eq_true p9
                              replace q9 := eq_true q9
                              go_wp2
                              go_roundg kj1
                              case measure => have := HK1.out; have := HJ1.out; omega
                              case rel => exact ⟨(wrap64 (x3_1 + 1)), (by first | rfl | (simp; done) | (simp [*]; done)), H', ⟨by have := HK1.out; have := HJ1.out; omega⟩, by repeat (first | exact Drawn0.refl _ | apply Drawn0.step)⟩
                            · rw [if_neg c23] at H
                              have c23b0 : ((bt a0 x3_1) == 46) = false := beq_eq_false_iff_ne.mpr c23
                              have c23b1 : ((bt a0 x3_1) != 46) = true := bne_iff_ne.mpr c23
                              by_cases c24 : (bt a0 x3_1) = 95
                              · rw [if_pos c24] at H
                                have c24b0 : ((bt a0 x3_1) == 95) = true := beq_iff_eq.mpr c24
                                have c24b1 : ((bt a0 x3_1) != 95) = false := bne_eq_false_iff_eq.mpr c24
                                clear c24
                                have H' := Aside0.mk H
                                clear H
                                have p9 : 0 ≤ (x3_1 : Int) := of_decide_eq_true (by first | (with_reducible assumption) | assumption)
                                have q9 : x3_1 < (a0.size : Int) := of_decide_eq_true (by first | (with_reducible assumption) | assumption)
                                have hx9 := bt_at a0 x3_1
                                replace p9 := eq_true p9
                                replace q9 := eq_true q9
                                go_wp2
                                go_roundg kj1
                                case measure => have := HK1.out; have := HJ1.out; omega
                                case rel => exact ⟨(wrap64 (x3_1 + 1)), (by first | rfl | (simp; done) | (simp [*]; done)), H', ⟨by have := HK1.out; have := HJ1.out; omega⟩, by repeat (first | exact Drawn0.refl _ | apply Drawn0.step)⟩
                              · rw [if_neg c24] at H
                                have c24b0 : ((bt a0 x3_1) == 95) = false := beq_eq_false_iff_ne.mpr c24
                                have c24b1 : ((bt a0 x3_1) != 95) = true := bne_iff_ne.mpr c24
                                by_cases c25 : (bt a0 x3_1) = 126
                                · rw [if_pos c25] at H
                                  have c25b0 : ((bt a0 x3_1) == 126) = true := beq_iff_eq.mpr c25
                                  have c25b1 : ((bt a0 x3_1) != 126) = false := bne_eq_false_iff_eq.mpr c25
                                  clear c25
                                  have H' := Aside0.mk H
                                  clear H
                                  have p9 : 0 ≤ (x3_1 : Int) := of_decide_eq_true (by first | (with_reducible assumption) | assumption)
                                  have q9 : x3_1 < (a0.size : Int) := of_decide_eq_true (by first | (with_reducible assumption) | assumption)
                                  have hx9 := bt_at a0 x3_1
                                  replace p9 := eq_true p9
                                  replace q9 := eq_true q9
                                  go_wp2
                                  go_roundg kj1
                                  case measure => have := HK1.out; have := HJ1.out; omega
                                  case rel => exact ⟨(wrap64 (x3_1 + 1)), (by first | rfl | (simp; done) | (simp [*]; done)), H', ⟨by have := HK1.out; have := HJ1.out; omega⟩, by repeat (first | exact Drawn0.refl _ | apply Drawn0.step)⟩
                                · rw [if_neg c25] at H
                                  have c25b0 : ((bt a0 x3_1) == 126) = false := beq_eq_false_iff_ne.mpr c25
                                  have c25b1 : ((bt a0 x3_1) != 126) = true := bne_iff_ne.mpr c25
                                  by_cases c26 : (bt a0 x3_1) = 43
                                  · rw [if_pos c26] at H
                                    have c26b0 : ((bt a0 x3_1) == 43) = true := beq_iff_eq.mpr c26
                                    have c26b1 : ((bt a0 x3_1) != 43) = false := bne_eq_false_iff_eq.mpr c26
                                    clear c26
                                    have H' := Aside0.mk H
                                    clear H
                                    have p9 : 0 ≤ (x3_1 : Int) := of_decide_eq_true (by first | (with_reducible assumption) | assumption)
                                    have q9 : x3_1 < (a0.size : Int) := of_decide_eq_true (by first | (with_reducible assumption) | assumption)
                                    have hx9 := bt_at a0 x3_1
                                    replace p9 := eq_true p9
                                    replace q9 := eq_true q9
                                    go_wp2
                                    go_roundg kj1
                                    case measure => have := HK1.out; have := HJ1.out; omega
                                    case rel => exact ⟨(wrap64 (x3_1 + 1)), (by first | rfl | (simp; done) | (simp [*]; done)), H', ⟨by have := HK1.out; have := HJ1.out; omega⟩, by repeat (first | exact Drawn0.refl _ | apply Drawn0.step)⟩
                                  · rw [if_neg c26] at H
                                    have c26b0 : ((bt a0 x3_1) == 43) = false := beq_eq_false_iff_ne.mpr c26
                                    have c26b1 : ((bt a0 x3_1) != 43) = true := bne_iff_ne.mpr c26
                                    by_cases c27 : ((bt a0 x3_1) = 47)
                                    · rw [if_pos c27] at H
                                      have c27b0 : ((bt a0 x3_1) == 47) = true := beq_iff_eq.mpr c27
                                      have c27b1 : ((bt a0 x3_1) != 47) = false := bne_eq_false_iff_eq.mpr c27
                                      clear c27
                                      have H' := Aside0.mk H
                                      clear H
                                      have p9 : 0 ≤ (x3_1 : Int) := of_decide_eq_true (by first | (with_reducible assumption) | assumption)
                                      have q9 : x3_1 < (a0.size : Int) := of_decide_eq_true (by first | (with_reducible assumption) | assumption)
                                      have hx9 := bt_at a0 x3_1
                                      replace p9 := eq_true p9
                                      replace q9 := eq_true q9
                                      go_wp2
                                      go_roundg kj1
                                      case measure => have := HK1.out; have := HJ1.out; omega
                                      case rel => exact ⟨(wrap64 (x3_1 + 1)), (by first | rfl | (simp; done) | (simp [*]; done)), H', ⟨by have := HK1.out; have := HJ1.out; omega⟩, by repeat (first | exact Drawn0.refl _ | apply Drawn0.step)⟩
                                    · rw [if_neg c27] at H
                                      have c27b0 : ((bt a0 x3_1) == 47) = false := beq_eq_false_iff_ne.mpr c27
                                      have c27b1 : ((bt a0 x3_1) != 47) = true := bne_iff_ne.mpr c27
                                      obtain rfl := Option.some.inj H
                                      have p9 : 0 ≤ (x3_1 : Int) := of_decide_eq_true (by first | (with_reducible assumption) | assumption)
                                      have q9 : x3_1 < (a0.size : Int) := of_decide_eq_true (by first | (with_reducible assumption) | assumption)
                                      have hx9 := bt_at a0 x3_1
                                      replace p9 := eq_true p9
                                      replace q9 := eq_true q9
                                      go_wp2
                                      go_ret
                                      exact ⟨by first | rfl | (simp; done) | (simp [*]; done), by repeat (first | exact Drawn0.refl _ | apply Drawn0.step)⟩
                    · rw [if_neg c12] at H
                      have c12b0 : decide (65 ≤ (bt a0 x3_1)) = false := decide_eq_false c12
                      clear c12
                      by_cases c28 : (bt a0 x3_1) ≥ 48
                      · rw [if_pos c28] at H
                        have c28b0 : decide (48 ≤ (bt a0 x3_1)) = true := decide_eq_true c28
                        clear c28
                        by_cases c29 : (bt a0 x3_1) ≤ 57
                        · rw [if_pos c29] at H
                          have c29b0 : decide ((bt a0 x3_1) ≤ 57) = true := decide_eq_true c29
                          clear c29
                          have H' := Aside0.mk H
                          clear H
                          have p9 : 0 ≤ (x3_1 : Int) := of_decide_eq_true (by first | (with_reducible assumption) | assumption)
                          have q9 : x3_1 < (a0.size : Int) := of_decide_eq_true (by first | (with_reducible assumption) | assumption)
                          have hx9 := bt_at a0 x3_1
                          replace p9 := eq_true p9
                          replace q9 := eq_true q9
                          go_wp2
                          go_roundg kj1
                          case measure => have := HK1.out; have := HJ1.out; omega
                          case rel => exact ⟨(wrap64 (x3_1 + 1)), (by first | rfl | (simp; done) | (simp [*]; done)), H', ⟨by have := HK1.out; have := HJ1.out; omega⟩, by repeat (first | exact Drawn0.refl _ | apply Drawn0.step)⟩
                        · rw [if_neg c29] at H
                          have c29b0 : decide ((bt a0 x3_1) ≤ 57) = false := decide_eq_false c29
                          clear c29
                          by_cases c30 : (bt a0 x3_1) = 45
                          · rw [if_pos c30] at H
                            have c30b0 : ((bt a0 x3_1) == 45) = true := beq_iff_eq.mpr c30
                            have c30b1 : ((bt a0 x3_1) != 45) = false := bne_eq_false_iff_eq.mpr c30
                            clear c30
                            have H' := Aside0.mk H
                            clear H
                            have p9 : 0 ≤ (x3_1 : Int) := of_decide_eq_true (by first | (with_reducible assumption) | assumption)
                            have q9 : x3_1 < (a0.size : Int) := of_decide_eq_true (by first | (with_reducible assumption) | assumption)
                            have hx9 := bt_at a0 x3_1
                            replace p9 := eq_true p9
                            replace q9 := eq_true q9
                            go_wp2
                            go_roundg kj1
                            case measure => have := HK1.out; have := HJ1.out; omega
                            case rel => exact ⟨(wrap64 (x3_1 + 1)), (by first | rfl | (simp; done) | (simp [*]; done)), H', ⟨by have := HK1.out; have := HJ1.out; omega⟩, by repeat (first | exact Drawn0.refl _ | apply Drawn0.step)⟩
                          · rw [if_neg c30] at H
                            have c30b0 : ((bt a0 x3_1) == 45) = false := beq_eq_false_iff_ne.mpr c30
                            have c30b1 : ((bt a0 x3_1) != 45) = true := bne_iff_ne.mpr c30
                            by_cases c31 : (bt a0 x3_1) = 46
                            · rw [if_pos c31] at H
                              have c31b0 : ((bt a0 x3_1) == 46) = true := beq_iff_eq.mpr c31
                              have c31b1 : ((bt a0 x3_1) != 46) = false := bne_eq_false_iff_eq.mpr c31
                              clear c31
                              have H' := Aside0.mk H
                              clear H
                              have p9 : 0 ≤ (x3_1 : Int) := of_decide_eq_true (by first | (with_reducible assumption) | assumption)
                              have q9 : x3_1 < (a0.size : Int) := of_decide_eq_true (by first | (with_reducible assumption) | assumption)
                              have hx9 := bt_at a0 x3_1
                              replace p9 := eq_true p9
                              replace q9 := eq_true q9
                              go_wp2
                              go_roundg kj1
                              case measure => have := HK1.out; have := HJ1.out; omega
                              case rel => exact ⟨(wrap64 (x3_1 + 1)), (by first | rfl | (simp; done) | (simp [*]; done)), H', ⟨by have := HK1.out; have := HJ1.out; omega⟩, by repeat (first | exact Drawn0.refl _ | apply Drawn0.step)⟩
                            · rw [if_neg c31] at H
                              have c31b0 : ((bt a0 x3_1) == 46) = false := beq_eq_false_iff_ne.mpr c31
                              have c31b1 : ((bt a0 x3_1) != 46) = true := bne_iff_ne.mpr c31
                              by_cases c32 : (bt a0 x3_1) = 95
                              · rw [if_pos c32] at H
                                have c32b0 : ((bt a0 x3_1) == 95) = true := beq_iff_eq.mpr c32
                                have c32b1 : ((bt a0 x3_1) != 95) = false := bne_eq_false_iff_eq.mpr c32
                                clear c32
                                have H' := Aside0.mk H
                                clear H
                                have p9 : 0 ≤ (x3_1 : Int) := of_decide_eq_true (by first | (with_reducible assumption) | assumption)
                                have q9 : x3_1 < (a0.size : Int) := of_decide_eq_true (by first | (with_reducible assumption) | assumption)
                                have hx9 := bt_at a0 x3_1
                                replace p9 := eq_true p9
                                replace q9 := eq_true q9
                                go_wp2
                                go_roundg kj1
                                case measure => have := HK1.out; have := HJ1.out; omega
                                case rel => exact ⟨(wrap64 (x3_1 + 1)), (by first | rfl | (simp; done) | (simp [*]; done)), H', ⟨by have := HK1.out; have := HJ1.out; omega⟩, by repeat (first | exact Drawn0.refl _ | apply Drawn0.step)⟩
                              · rw [if_neg c32] at H
                                have c32b0 : ((bt a0 x3_1) == 95) = false := beq_eq_false_iff_ne.mpr c32
                                have c32b1 : ((bt a0 x3_1) != 95) = true := bne_iff_ne.mpr c32
                                by_cases c33 : (bt a0 x3_1) = 126
                                · rw [if_pos c33] at H
                                  have c33b0 : ((bt a0 x3_1) == 126) = true := beq_iff_eq.mpr c33
                                  have c33b1 : ((bt a0 x3_1) != 126) = false := bne_eq_false_iff_eq.mpr c33
                                  clear c33
                                  have H' := Aside0.mk H
                                  clear H
                                  have p9 : 0 ≤ (x3_1 : Int) := of_decide_eq_true (by first | (with_reducible assumption) | assumption)
                                  have q9 : x3_1 < (a0.size : Int) := of_decide_eq_true (by first | (with_reducible assumption) | assumption)
                                  have hx9 := bt_at a0 x3_1
                                  replace p9 := eq_true p9
                                  replace q9 := eq_true q9
                                  go_wp2
                                  go_roundg kj1
                                  case measure => have := HK1.out; have := HJ1.out; omega
                                  case rel => exact ⟨(wrap64 (x3_1 + 1)), (by first | rfl | (simp; done) | (simp [*]; done)), H', ⟨by have := HK1.out; have := HJ1.out; omega⟩, by repeat (first | exact Drawn0.refl _ | apply Drawn0.step)⟩
                                · rw [if_neg c33] at H
                                  have c33b0 : ((bt a0 x3_1) == 126) = false := beq_eq_false_iff_ne.mpr c33
                                  have c33b1 : ((bt a0 x3_1) != 126) = true := bne_iff_ne.mpr c33
                                  by_cases c34 : (bt a0 x3_1) = 43
                                  · rw [if_pos c34] at H
                                    have c34b0 : ((bt a0 x3_1) == 43) = true := beq_iff_eq.mpr c34
                                    have c34b1 : ((bt a0 x3_1) != 43) = false := bne_eq_false_iff_eq.mpr c34
                                    clear c34
                                    have H' := Aside0.mk H
                                    clear H
                                    have p9 : 0 ≤ (x3_1 : Int) := of_decide_eq_true (by first | (with_reducible assumption) | assumption)
                                    have q9 : x3_1 < (a0.size : Int) := of_decide_eq_true (by first | (with_reducible assumption) | assumption)
                                    have hx9 := bt_at a0 x3_1
                                    replace p9 := eq_true p9
                                    replace q9 := eq_true q9
                                    go_wp2
                                    go_roundg kj1
                                    case measure => have := HK1.out; have := HJ1.out; omega
                                    case rel => exact ⟨(wrap64 (x3_1 + 1)), (by first | rfl | (simp; done) | (simp [*]; done)), H', ⟨by have := HK1.out; have := HJ1.out; omega⟩, by repeat (first | exact Drawn0.refl _ | apply Drawn0.step)⟩
                                  · rw [if_neg c34] at H
                                    have c34b0 : ((bt a0 x3_1) == 43) = false := beq_eq_false_iff_ne.mpr c34
                                    have c34b1 : ((bt a0 x3_1) != 43) = true := bne_iff_ne.mpr c34
                                    by_cases c35 : ((bt a0 x3_1) = 47)
                                    · rw [if_pos c35] at H
                                      have c35b0 : ((bt a0 x3_1) == 47) = true := beq_iff_eq.mpr c35
                                      have c35b1 : ((bt a0 x3_1) != 47) = false := bne_eq_false_iff_eq.mpr c35
                                      clear c35
                                      have H' := Aside0.mk H
                                      clear H
                                      have p9 : 0 ≤ (x3_1 : Int) := of_decide_eq_true (by first | (with_reducible assumption) | assumption)
                                      have q9 : x3_1 < (a0.size : Int) := of_decide_eq_true (by first | (with_reducible assumption) | assumption)
                                      have hx9 := bt_at a0 x3_1
                                      replace p9 := eq_true p9
                                      replace q9 := eq_true q9
                                      go_wp2
                                      go_roundg kj1
                                      case measure => have := HK1.out; have := HJ1.out; omega
                                      case rel => exact ⟨(wrap64 (x3_1 + 1)), (by first | rfl | (simp; done) | (simp [*]; done)), H', ⟨by have := HK1.out; have := HJ1.out; omega⟩, by repeat (first | exact Drawn0.refl _ | apply Drawn0.step)⟩
                                    · rw [if_neg c35] at H
                                      have c35b0 : ((bt a0 x3_1) == 47) = false := beq_eq_false_iff_ne.mpr c35
                                      have c35b1 : ((bt a0 x3_1) != 47) = true := bne_iff_ne.mpr c35
                                      obtain rfl := Option.some.inj H
                                      have p9 : 0 ≤ (x3_1 : Int) := of_decide_eq_true (by first | (with_reducible assumption) | assumption)
                                      have q9 : x3_1 < (a0.size : Int) := of_decide_eq_true (by first | (with_reducible assumption) | assumption)
                                      have hx9 := bt_at a0 x3_1
                                      replace p9 := eq_true p9
                                      replace q9 := eq_true q9
                                      go_wp2
                                      go_ret
                                      exact ⟨by first | rfl | (simp; done) | (simp [*]; done), by repeat (first | exact Drawn0.refl _ | apply Drawn0.step)⟩
                      · rw [if_neg c28] at H
                        have c28b0 : decide (48 ≤ (bt a0 x3_1)) = false := decide_eq_false c28
                        clear c28
                        by_cases c36 : (bt a0 x3_1) = 45
                        · rw [if_pos c36] at H
                          have c36b0 : ((bt a0 x3_1) == 45) = true := beq_iff_eq.mpr c36
                          have c36b1 : ((bt a0 x3_1) != 45) = false := bne_eq_false_iff_eq.mpr c36
                          clear c36
                          have H' := Aside0.mk H
                          clear H
                          have p9 : 0 ≤ (x3_1 : Int) := of_decide_eq_true (by first | (with_reducible assumption) | assumption)
                          have q9 : x3_1 < (a0.size : Int) := of_decide_eq_true (by first | (with_reducible assumption) | assumption)
                          have hx9 := bt_at a0 x3_1
                          replace p9 := eq_true p9
                          replace q9 := eq_true q9
                          go_wp2
                          go_roundg kj1
                          case measure => have := HK1.out; have := HJ1.out; omega
                          case rel => exact ⟨(wrap64 (x3_1 + 1)), (by first | rfl | (simp; done) | (simp [*]; done)), H', ⟨by have := HK1.out; have := HJ1.out; omega⟩, by repeat (first | exact Drawn0.refl _ | apply Drawn0.step)⟩
                        · rw [if_neg c36] at H
                          have c36b0 : ((bt a0 x3_1) == 45) = false := beq_eq_false_iff_ne.mpr c36
                          have c36b1 : ((bt a0 x3_1) != 45) = true := bne_iff_ne.mpr c36
                          by_cases c37 : (bt a0 x3_1) = 46
                          · rw [if_pos c37] at H
                            have c37b0 : ((bt a0 x3_1) == 46) = true := beq_iff_eq.mpr c37
                            have c37b1 : ((bt a0 x3_1) != 46) = false := bne_eq_false_iff_eq.mpr c37
                            clear c37
                            have H' := Aside0.mk H
                            clear H
                            have p9 : 0 ≤ (x3_1 : Int) := of_decide_eq_true (by first | (with_reducible assumption) | assumption)
                            have q9 : x3_1 < (a0.size : Int) := of_decide_eq_true (by first | (with_reducible assumption) | assumption)
                            have hx9 := bt_at a0 x3_1
                            replace p9 := eq_true p9
                            replace q9 := eq_true q9
                            go_wp2
                            go_roundg kj1
                            case measure => have := HK1.out; have := HJ1.out; omega
                            case rel => exact ⟨(wrap64 (x3_1 + 1)), (by first | rfl | (simp; done) | (simp [*]; done)), H', ⟨by have := HK1.out; have := HJ1.out; omega⟩, by repeat (first | exact Drawn0.refl _ | apply Drawn0.step)⟩
                          · rw [if_neg c37] at H
                            have c37b0 : ((bt a0 x3_1) == 46) = false := beq_eq_false_iff_ne.mpr c37
                            have c37b1 : ((bt a0 x3_1) != 46) = true := bne_iff_ne.mpr c37
                            by_cases c38 : (bt a0 x3_1) = 95
                            · rw [if_pos c38] at H
                              have c38b0 : ((bt a0 x3_1) == 95) = true := beq_iff_eq.mpr c38
                              have c38b1 : ((bt a0 x3_1) != 95) = false := bne_eq_false_iff_eq.mpr c38
                              clear c38
                              have H' := Aside0.mk H
                              clear H
                              have p9 : 0 ≤ (x3_1 : Int) := of_decide_eq_true (by first | (with_reducible assumption) | assumption)
                              have q9 : x3_1 < (a0.size : Int) := of_decide_eq_true (by first | (with_reducible assumption) | assumption)
                              have hx9 := bt_at a0 x3_1
                              replace p9 := eq_true p9
                              replace q9 := eq_true q9
                              go_wp2
                              go_roundg kj1
                              case measure => have := HK1.out; have := HJ1.out; omega
                              case rel => exact ⟨(wrap64 (x3_1 + 1)), (by first | rfl | (simp; done) | (simp [*]; done)), H', ⟨by have := HK1.out; have := HJ1.out; omega⟩, by repeat (first | exact Drawn0.refl _ | apply Drawn0.step)⟩
                            · rw [if_neg c38] at H
                              have c38b0 : ((bt a0 x3_1) == 95) = false := beq_eq_false_iff_ne.mpr c38
                              have c38b1 : ((bt a0 x3_1) != 95) = true := bne_iff_ne.mpr c38
                              by_cases c39 : (bt a0 x3_1) = 126
                              · rw [if_pos c39] at H
                                have c39b0 : ((bt a0 x3_1) == 126) = true := beq_iff_eq.mpr c39
                                have c39b1 : ((bt a0 x3_1) != 126) = false := bne_eq_false_iff_eq.mpr c39
                                clear c39
                                have H' := Aside0.mk H
                                clear H
                                have p9 : 0 ≤ (x3_1 : Int) := of_decide_eq_true (by first | (with_reducible assumption) | assumption)
                                have q9 : x3_1 < (a0.size : Int) := of_decide_eq_true (by first | (with_reducible assumption) | assumption)
                                have hx9 := bt_at a0 x3_1
                                replace p9 := eq_true p9
                                replace q9 := eq_true q9
                                go_wp2
                                go_roundg kj1
                                case measure => have := HK1.out; have := HJ1.out; omega
                                case rel => exact ⟨(wrap64 (x3_1 + 1)), (by first | rfl | (simp; done) | (simp [*]; done)), H', ⟨by have := HK1.out; have := HJ1.out; omega⟩, by repeat (first | exact Drawn0.refl _ | apply Drawn0.step)⟩
                              · rw [if_neg c39] at H
                                have c39b0 : ((bt a0 x3_1) == 126) = false := beq_eq_false_iff_ne.mpr c39
                                have c39b1 : ((bt a0 x3_1) != 126) = true := bne_iff_ne.mpr c39
                                by_cases c40 : (bt a0 x3_1) = 43
                                · rw [if_pos c40] at H
                                  have c40b0 : ((bt a0 x3_1) == 43) = true := beq_iff_eq.mpr c40
                                  have c40b1 : ((bt a0 x3_1) != 43) = false := bne_eq_false_iff_eq.mpr c40
                                  clear c40
                                  have H' := Aside0.mk H
                                  clear H
                                  have p9 : 0 ≤ (x3_1 : Int) := of_decide_eq_true (by first | (with_reducible assumption) | assumption)
                                  have q9 : x3_1 < (a0.size : Int) := of_decide_eq_true (by first | (with_reducible assumption) | assumption)
                                  have hx9 := bt_at a0 x3_1
                                  replace p9 := eq_true p9
                                  replace q9 := eq_true q9
                                  go_wp2
                                  go_roundg kj1
                                  case measure => have := HK1.out; have := HJ1.out; omega
                                  case rel => exact ⟨(wrap64 (x3_1 + 1)), (by first | rfl | (simp; done) | (simp [*]; done)), H', ⟨by have := HK1.out; have := HJ1.out; omega⟩, by repeat (first | exact Drawn0.refl _ | apply Drawn0.step)⟩
                                · rw [if_neg c40] at H
                                  have c40b0 : ((bt a0 x3_1) == 43) = false := beq_eq_false_iff_ne.mpr c40
                                  have c40b1 : ((bt a0 x3_1) != 43) = true := bne_iff_ne.mpr c40
                                  by_cases c41 : ((bt a0 x3_1) = 47)
                                  · rw [if_pos c41] at H
                                    have c41b0 : ((bt a0 x3_1) == 47) = true := beq_iff_eq.mpr c41
                                    have c41b1 : ((bt a0 x3_1) != 47) = false := bne_eq_false_iff_eq.mpr c41
                                    clear c41
                                    have H' := Aside0.mk H
                                    clear H
                                    have p9 : 0 ≤ (x3_1 : Int) := of_decide_eq_true (by first | (with_reducible assumption) | assumption)
                                    have q9 : x3_1 < (a0.size : Int) := of_decide_eq_true (by first | (with_reducible assumption) | assumption)
                                    have hx9 := bt_at a0 x3_1
                                    replace p9 := eq_true p9
                                    replace q9 := eq_true q9
                                    go_wp2
                                    go_roundg kj1
                                    case measure => have := HK1.out; have := HJ1.out; omega
                                    case rel => exact ⟨(wrap64 (x3_1 + 1)), (by first | rfl | (simp; done) | (simp [*]; done)), H', ⟨by have := HK1.out; have := HJ1.out; omega⟩, by repeat (first | exact Drawn0.refl _ | apply Drawn0.step)⟩
                                  · rw [if_neg c41] at H
                                    have c41b0 : ((bt a0 x3_1) == 47) = false := beq_eq_false_iff_ne.mpr c41
                                    have c41b1 : ((bt a0 x3_1) != 47) = true := bne_iff_ne.mpr c41
                                    obtain rfl := Option.some.inj H
                                    have p9 : 0 ≤ (x3_1 : Int) := of_decide_eq_true (by first | (with_reducible assumption) | assumption)
                                    have q9 : x3_1 < (a0.size : Int) := of_decide_eq_true (by first | (with_reducible assumption) | assumption)
                                    have hx9 := bt_at a0 x3_1
                                    replace p9 := eq_true p9
                                    replace q9 := eq_true q9
                                    go_wp2
                                    go_ret
                                    exact ⟨by first | rfl | (simp; done) | (simp [*]; done), by repeat (first | exact Drawn0.refl _ | apply Drawn0.step)⟩
                · rw [if_neg c10] at H
                  have c10b0 : decide (97 ≤ (bt a0 x3_1)) = false := decide_eq_false c10
                  clear c10
                  by_cases c42 : (bt a0 x3_1) ≥ 65
                  · rw [if_pos c42] at H
                    have c42b0 : decide (65 ≤ (bt a0 x3_1)) = true := decide_eq_true c42
                    clear c42
                    by_cases c43 : (bt a0 x3_1) ≤ 90
                    · rw [if_pos c43] at H
                      have c43b0 : decide ((bt a0 x3_1) ≤ 90) = true := decide_eq_true c43
                      clear c43
                      have H' := Aside0.mk H
                      clear H
                      have p9 : 0 ≤ (x3_1 : Int) := of_decide_eq_true (by first | (with_reducible assumption) | assumption)
                      have q9 : x3_1 < (a0.size : Int) := of_decide_eq_true (by first | (with_reducible assumption) | assumption)
                      have hx9 := bt_at a0 x3_1
                      replace p9 := eq_true p9
                      replace q9 := eq_true q9
                      go_wp2
                      go_roundg kj1
                      case measure => have := HK1.out; have := HJ1.out; omega
                      case rel => exact ⟨(wrap64 (x3_1 + 1)), (by first | rfl | (simp; done) | (simp [*]; done)), H', ⟨by have := HK1.out; have := HJ1.out; omega⟩, by repeat (first | exact Drawn0.refl _ | apply Drawn0.step)⟩
                    · rw [if_neg c43] at H
                      have c43b0 : decide ((bt a0 x3_1) ≤ 90) = false := decide_eq_false c43
                      clear c43
                      by_cases c44 : (bt a0 x3_1) ≥ 48
                      · rw [if_pos c44] at H
                        have c44b0 : decide (48 ≤ (bt a0 x3_1)) = true := decide_eq_true c44
                        clear c44
                        by_cases c45 : (bt a0 x3_1) ≤ 57
                        · rw [if_pos c45] at H
                          have c45b0 : decide ((bt a0 x3_1) ≤ 57) = true := decide_eq_true c45
                          clear c45
                          have H' := Aside0.mk H
                          clear H
                          have p9 : 0 ≤ (x3_1 : Int) := of_decide_eq_true (by first | (with_reducible assumption) | assumption)
                          have q9 : x3_1 < (a0.size : Int) := of_decide_eq_true (by first | (with_reducible assumption) | assumption)
                          have hx9 := bt_at a0 x3_1
                          replace p9 := eq_true p9
                          replace q9 := eq_true q9
                          go_wp2
                          go_roundg kj1
                          case measure => have := HK1.out; have := HJ1.out; omega
                          case rel => exact ⟨(wrap64 (x3_1 + 1)), (by first | rfl | (simp; done) | (simp [*]; done)), H', ⟨by have := HK1.out; have := HJ1.out; omega⟩, by repeat (first | exact Drawn0.refl _ | apply Drawn0.step)⟩
                        · rw [if_neg c45] at H
                          have c45b0 : decide ((bt a0 x3_1) ≤ 57) = false := decide_eq_false c45
                          clear c45
                          by_cases c46 : (bt a0 x3_1) = 45
                          · rw [if_pos c46] at H
                            have c46b0 : ((bt a0 x3_1) == 45) = true := beq_iff_eq.mpr c46
                            have c46b1 : ((bt a0 x3_1) != 45) = false := bne_eq_false_iff_eq.mpr c46
                            clear c46
                            have H' := Aside0.mk H
                            clear H
                            have p9 : 0 ≤ (x3_1 : Int) := of_decide_eq_true (by first | (with_reducible assumption) | assumption)
                            have q9 : x3_1 < (a0.size : Int) := of_decide_eq_true (by first | (with_reducible assumption) | assumption)
                            have hx9 := bt_at a0 x3_1
                            replace p9 := eq_true p9
                            replace q9 := eq_true q9
                            go_wp2
                            go_roundg kj1
                            case measure => have := HK1.out; have := HJ1.out; omega
                            case rel => exact ⟨(wrap64 (x3_1 + 1)), (by first | rfl | (simp; done) | (simp [*]; done)), H', ⟨by have := HK1.out; have := HJ1.out; omega⟩, by repeat (first | exact Drawn0.refl _ | apply Drawn0.step)⟩
                          · rw [if_neg c46] at H
                            have c46b0 : ((bt a0 x3_1) == 45) = false := beq_eq_false_iff_ne.mpr c46
                            have c46b1 : ((bt a0 x3_1) != 45) = true := bne_iff_ne.mpr c46
                            by_cases c47 : (bt a0 x3_1) = 46
                            · rw [if_pos c47] at H
                              have c47b0 : ((bt a0 x3_1) == 46) = true := beq_iff_eq.mpr c47
                              have c47b1 : ((bt a0 x3_1) != 46) = false := bne_eq_false_iff_eq.mpr c47
                              clear c47
                              have H' := Aside0.mk H
                              clear H
                              have p9 : 0 ≤ (x3_1 : Int) := of_decide_eq_true (by first | (with_reducible assumption) | assumption)
                              have q9 : x3_1 < (a0.size : Int) := of_decide_eq_true (by first | (with_reducible assumption) | assumption)
                              have hx9 := bt_at a0 x3_1
                              replace p9 := eq_true p9
                              replace q9 := eq_true q9
                              go_wp2
                              go_roundg kj1
                              case measure => have := HK1.out; have := HJ1.out; omega
                              case rel => exact ⟨(wrap64 (x3_1 + 1)), (by first | rfl | (simp; done) | (simp [*]; done)), H', ⟨by have := HK1.out; have := HJ1.out; omega⟩, by repeat (first | exact Drawn0.refl _ | apply Drawn0.step)⟩
                            · rw [if_neg c47] at H
                              have c47b0 : ((bt a0 x3_1) == 46) = false := beq_eq_false_iff_ne.mpr c47
                              have c47b1 : ((bt a0 x3_1) != 46) = true := bne_iff_ne.mpr c47
                              by_cases c48 : (bt a0 x3_1) = 95
                              · rw [if_pos c48] at H
                                have c48b0 : ((bt a0 x3_1) == 95) = true := beq_iff_eq.mpr c48
                                have c48b1 : ((bt a0 x3_1) != 95) = false := bne_eq_false_iff_eq.mpr c48
                                clear c48
                                have H' := Aside0.mk H
                                clear H
                                have p9 : 0 ≤ (x3_1 : Int) := of_decide_eq_true (by first | (with_reducible assumption) | assumption)
                                have q9 : x3_1 < (a0.size : Int) := of_decide_eq_true (by first | (with_reducible assumption) | assumption)
                                have hx9 := bt_at a0 x3_1
                                replace p9 := eq_true p9
                                replace q9 := eq_true q9
                                go_wp2
                                go_roundg kj1
                                case measure => have := HK1.out; have := HJ1.out; omega
                                case rel => exact ⟨(wrap64 (x3_1 + 1)), (by first | rfl | (simp; done) | (simp [*]; done)), H', ⟨by have := HK1.out; have := HJ1.out; omega⟩, by repeat (first | exact Drawn0.refl _ | apply Drawn0.step)⟩
                              · rw [if_neg c48] at H
                                have c48b0 : ((bt a0 x3_1) == 95) = false := beq_eq_false_iff_ne.mpr c48
                                have c48b1 : ((bt a0 x3_1) != 95) = true := bne_iff_ne.mpr c48
                                by_cases c49 : (bt a0 x3_1) = 126
                                · rw [if_pos c49] at H
                                  have c49b0 : ((bt a0 x3_1) == 126) = true := beq_iff_eq.mpr c49
                                  have c49b1 : ((bt a0 x3_1) != 126) = false := bne_eq_false_iff_eq.mpr c49
                                  clear c49
                                  have H' := Aside0.mk H
                                  clear H
                                  have p9 : 0 ≤ (x3_1 : Int) := of_decide_eq_true (by first | (with_reducible assumption) | assumption)
                                  have q9 : x3_1 < (a0.size : Int) := of_decide_eq_true (by first | (with_reducible assumption) | assumption)
                                  have hx9 := bt_at a0 x3_1
                                  replace p9 := eq_true p9
                                  replace q9 := eq_true q9
                                  go_wp2
                                  go_roundg kj1
                                  case measure => have := HK1.out; have := HJ1.out; omega
                                  case rel => exact ⟨(wrap64 (x3_1 + 1)), (by first | rfl | (simp; done) | (simp [*]; done)), H', ⟨by have := HK1.out; have := HJ1.out; omega⟩, by repeat (first | exact Drawn0.refl _ | apply Drawn0.step)⟩
                                · rw [if_neg c49] at H
                                  have c49b0 : ((bt a0 x3_1) == 126) = false := beq_eq_false_iff_ne.mpr c49
                                  have c49b1 : ((bt a0 x3_1) != 126) = true := bne_iff_ne.mpr c49
                                  by_cases c50 : (bt a0 x3_1) = 43
                                  · rw [if_pos c50] at H
                                    have c50b0 : ((bt a0 x3_1) == 43) = true := beq_iff_eq.mpr c50
                                    have c50b1 : ((bt a0 x3_1) != 43) = false := bne_eq_false_iff_eq.mpr c50
                                    clear c50
                                    have H' := Aside0.mk H
                                    clear H
                                    have p9 : 0 ≤ (x3_1 : Int) := of_decide_eq_true (by first | (with_reducible assumption) | assumption)
                                    have q9 : x3_1 < (a0.size : Int) := of_decide_eq_true (by first | (with_reducible assumption) | assumption)
                                    have hx9 := bt_at a0 x3_1
                                    replace p9 := eq_true p9
                                    replace q9 := eq_true q9
                                    go_wp2
                                    go_roundg kj1
                                    case measure => have := HK1.out; have := HJ1.out; omega
                                    case rel => exact ⟨(wrap64 (x3_1 + 1)), (by first | rfl | (simp; done) | (simp [*]; done)), H', ⟨by have := HK1.out; have := HJ1.out; omega⟩, by repeat (first | exact Drawn0.refl _ | apply Drawn0.step)⟩
                                  · rw [if_neg c50] at H
                                    have c50b0 : ((bt a0 x3_1) == 43) = false := beq_eq_false_iff_ne.mpr c50
                                    have c50b1 : ((bt a0 x3_1) != 43) = true := bne_iff_ne.mpr c50
                                    by_cases c51 : ((bt a0 x3_1) = 47)
                                    · rw [if_pos c51] at H
                                      have c51b0 : ((bt a0 x3_1) == 47) = true := beq_iff_eq.mpr c51
                                      have c51b1 : ((bt a0 x3_1) != 47) = false := bne_eq_false_iff_eq.mpr c51
                                      clear c51
                                      have H' := Aside0.mk H
                                      clear H
                                      have p9 : 0 ≤ (x3_1 : Int) := of_decide_eq_true (by first | (with_reducible assumption) | assumption)
                                      have q9 : x3_1 < (a0.size : Int) := of_decide_eq_true (by first | (with_reducible assumption) | assumption)
                                      have hx9 := bt_at a0 x3_1
                                      replace p9 := eq_true p9
                                      replace q9 := eq_true q9
                                      go_wp2
                                      go_roundg kj1
                                      case measure => have := HK1.out; have := HJ1.out; omega
                                      case rel => exact ⟨(wrap64 (x3_1 + 1)), (by first | rfl | (simp; done) | (simp [*]; done)), H', ⟨by have := HK1.out; have := HJ1.out; omega⟩, by repeat (first | exact Drawn0.refl _ | apply Drawn0.step)⟩
                                    · rw [if_neg c51] at H
                                      have c51b0 : ((bt a0 x3_1) == 47) = false := beq_eq_false_iff_ne.mpr c51
                                      have c51b1 : ((bt a0 x3_1) != 47) = true := bne_iff_ne.mpr c51
                                      obtain rfl := Option.some.inj H
                                      have p9 : 0 ≤ (x3_1 : Int) := of_decide_eq_true (by first | (with_reducible assumption) | assumption)
                                      have q9 : x3_1 < (a0.size : Int) := of_decide_eq_true (by first | (with_reducible assumption) | assumption)
                                      have hx9 := bt_at a0 x3_1
                                      replace p9 := eq_true p9
                                      replace q9 := eq_true q9
                                      go_wp2
                                      go_ret
                                      exact ⟨by first | rfl | (simp; done) | (simp [*]; done), by repeat (first | exact Drawn0.refl _ | apply Drawn0.step)⟩
                      · rw [if_neg c44] at H
                        have c44b0 : decide (48 ≤ (bt a0 x3_1)) = false := decide_eq_false c44
                        clear c44
                        by_cases c52 : (bt a0 x3_1) = 45
                        · rw [if_pos c52] at H
                          have c52b0 : ((bt a0 x3_1) == 45) = true := beq_iff_eq.mpr c52
                          have c52b1 : ((bt a0 x3_1) != 45) = false := bne_eq_false_iff_eq.mpr c52
                          clear c52
                          have H' := Aside0.mk H
                          clear H
                          have p9 : 0 ≤ (x3_1 : Int) := of_decide_eq_true (by first | (with_reducible assumption) | assumption)
                          have q9 : x3_1 < (a0.size : Int) := of_decide_eq_true (by first | (with_reducible assumption) | assumption)
                          have hx9 := bt_at a0 x3_1
                          replace p9 := eq_true p9
                          replace q9 := eq_true q9
                          go_wp2
                          go_roundg kj1
                          case measure => have := HK1.out; have := HJ1.out; omega
                          case rel => exact ⟨(wrap64 (x3_1 + 1)), (by first | rfl | (simp; done) | (simp [*]; done)), H', ⟨by have := HK1.out; have := HJ1.out; omega⟩, by repeat (first | exact Drawn0.refl _ | apply Drawn0.step)⟩
                        · rw [if_neg c52] at H
                          have c52b0 : ((bt a0 x3_1) == 45) = false := beq_eq_false_iff_ne.mpr c52
                          have c52b1 : ((bt a0 x3_1) != 45) = true := bne_iff_ne.mpr c52
                          by_cases c53 : (bt a0 x3_1) = 46
                          · rw [if_pos c53] at H
                            have c53b0 : ((bt a0 x3_1) == 46) = true := beq_iff_eq.mpr c53
                            have c53b1 : ((bt a0 x3_1) != 46) = false := bne_eq_false_iff_eq.mpr c53
                            clear c53
                            have H' := Aside0.mk H
                            clear H
                            have p9 : 0 ≤ (x3_1 : Int) := of_decide_eq_true (by first | (with_reducible assumption) | assumption)
                            have q9 : x3_1 < (a0.size : Int) := of_decide_eq_true (by first | (with_reducible assumption) | assumption)
                            have hx9 := bt_at a0 x3_1
                            replace p9 := eq_true p9
                            replace q9 := eq_true q9
                            go_wp2
                            go_roundg kj1
                            case measure => have := HK1.out; have := HJ1.out; omega
                            case rel => exact ⟨(wrap64 (x3_1 + 1)), (by first | rfl | (simp; done) | (simp [*]; done)), H', ⟨by have := HK1.out; have := HJ1.out; omega⟩, by repeat (first | exact Drawn0.refl _ | apply Drawn0.step)⟩
                          · rw [if_neg c53] at H
                            have c53b0 : ((bt a0 x3_1) == 46) = false := beq_eq_false_iff_ne.mpr c53
                            have c53b1 : ((bt a0 x3_1) != 46) = true := bne_iff_ne.mpr c53
                            by_cases c54 : (bt a0 x3_1) = 95
                            · rw [if_pos c54] at H
                              have c54b0 : ((bt a0 x3_1) == 95) = true := beq_iff_eq.mpr c54
                              have c54b1 : ((bt a0 x3_1) != 95) = false := bne_eq_false_iff_eq.mpr c54
                              clear c54
                              have H' := Aside0.mk H
                              clear H
                              have p9 : 0 ≤ (x3_1 : Int) := of_decide_eq_true (by first | (with_reducible assumption) | assumption)
                              have q9 : x3_1 < (a0.size : Int) := of_decide_eq_true (by first | (with_reducible assumption) | assumption)
                              have hx9 := bt_at a0 x3_1
                              replace p9 := eq_true p9
                              replace q9 := eq_true q9
                              go_wp2
                              go_roundg kj1
                              case measure => have := HK1.out; have := HJ1.out; omega
                              case rel => exact ⟨(wrap64 (x3_1 + 1)), (by first | rfl | (simp; done) | (simp [*]; done)), H', ⟨by have := HK1.out; have := HJ1.out; omega⟩, by repeat (first | exact Drawn0.refl _ | apply Drawn0.step)⟩
                            · rw [if_neg c54] at H
                              have c54b0 : ((bt a0 x3_1) == 95) = false := beq_eq_false_iff_ne.mpr c54
                              have c54b1 : ((bt a0 x3_1) != 95) = true := bne_iff_ne.mpr c54
                              by_cases c55 : (bt a0 x3_1) = 126
                              · rw [if_pos c55] at H
                                have c55b0 : ((bt a0 x3_1) == 126) = true := beq_iff_eq.mpr c55
                                have c55b1 : ((bt a0 x3_1) != 126) = false := bne_eq_false_iff_eq.mpr c55
                                clear c55
                                have H' := Aside0.mk H
                                clear H
                                have p9 : 0 ≤ (x3_1 : Int) := of_decide_eq_true (by first | (with_reducible assumption) | assumption)
                                have q9 : x3_1 < (a0.size : Int) := of_decide_eq_true (by first | (with_reducible assumption) | assumption)
                                have hx9 := bt_at a0 x3_1
                                replace p9 := eq_true p9
                                replace q9 := eq_true q9
                                go_wp2
                                go_roundg kj1
                                case measure => have := HK1.out; have := HJ1.out; omega
                                case rel => exact ⟨(wrap64 (x3_1 + 1)), (by first | rfl | (simp; done) | (simp [*]; done)), H', ⟨by have := HK1.out; have := HJ1.out; omega⟩, by repeat (first | exact Drawn0.refl _ | apply Drawn0.step)⟩
                              · rw [if_neg c55] at H
                                have c55b0 : ((bt a0 x3_1) == 126) = false := beq_eq_false_iff_ne.mpr c55
                                have c55b1 : ((bt a0 x3_1) != 126) = true := bne_iff_ne.mpr c55
                                by_cases c56 : (bt a0 x3_1) = 43
                                · rw [if_pos c56] at H
                                  have c56b0 : ((bt a0 x3_1) == 43) = true := beq_iff_eq.mpr c56
                                  have c56b1 : ((bt a0 x3_1) != 43) = false := bne_eq_false_iff_eq.mpr c56
                                  clear c56
                                  have H' := Aside0.mk H
                                  clear H
                                  have p9 : 0 ≤ (x3_1 : Int) := of_decide_eq_true (by first | (with_reducible assumption) | assumption)
                                  have q9 : x3_1 < (a0.size : Int) := of_decide_eq_true (by first | (with_reducible assumption) | assumption)
                                  have hx9 := bt_at a0 x3_1
                                  replace p9 := eq_true p9
                                  replace q9 := eq_true q9
                                  go_wp2
                                  go_roundg kj1
                                  case measure => have := HK1.out; have := HJ1.out; omega
                                  case rel => exact ⟨(wrap64 (x3_1 + 1)), (by first | rfl | (simp; done) | (simp [*]; done)), H', ⟨by have := HK1.out; have := HJ1.out; omega⟩, by repeat (first | exact Drawn0.refl _ | apply Drawn0.step)⟩
                                · rw [if_neg c56] at H
                                  have c56b0 : ((bt a0 x3_1) == 43) = false := beq_eq_false_iff_ne.mpr c56
                                  have c56b1 : ((bt a0 x3_1) != 43) = true := bne_iff_ne.mpr c56
                                  by_cases c57 : ((bt a0 x3_1) = 47)
                                  · rw [if_pos c57] at H
                                    have c57b0 : ((bt a0 x3_1) == 47) = true := beq_iff_eq.mpr c57
                                    have c57b1 : ((bt a0 x3_1) != 47) = false := bne_eq_false_iff_eq.mpr c57
                                    clear c57
                                    have H' := Aside0.mk H
                                    clear H
                                    have p9 : 0 ≤ (x3_1 : Int) := of_decide_eq_true (by first | (with_reducible assumption) | assumption)
                                    have q9 : x3_1 < (a0.size : Int) := of_decide_eq_true (by first | (with_reducible assumption) | assumption)
                                    have hx9 := bt_at a0 x3_1
                                    replace p9 := eq_true p9
                                    replace q9 := eq_true q9
                                    go_wp2
                                    go_roundg kj1
                                    case measure => have := HK1.out; have := HJ1.out; omega
                                    case rel => exact ⟨(wrap64 (x3_1 + 1)), (by first | rfl | (simp; done) | (simp [*]; done)), H', ⟨by have := HK1.out; have := HJ1.out; omega⟩, by repeat (first | exact Drawn0.refl _ | apply Drawn0.step)⟩
                                  · rw [if_neg c57] at H
                                    have c57b0 : ((bt a0 x3_1) == 47) = false := beq_eq_false_iff_ne.mpr c57
                                    have c57b1 : ((bt a0 x3_1) != 47) = true := bne_iff_ne.mpr c57
                                    obtain rfl := Option.some.inj H
                                    have p9 : 0 ≤ (x3_1 : Int) := of_decide_eq_true (by first | (with_reducible assumption) | assumption)
                                    have q9 : x3_1 < (a0.size : Int) := of_decide_eq_true (by first | (with_reducible assumption) | assumption)
                                    have hx9 := bt_at a0 x3_1
                                    replace p9 := eq_true p9
                                    replace q9 := eq_true q9
                                    go_wp2
                                    go_ret
                                    exact ⟨by first | rfl | (simp; done) | (simp [*]; done), by repeat (first | exact Drawn0.refl _ | apply Drawn0.step)⟩
                  · rw [if_neg c42] at H
                    have c42b0 : decide (65 ≤ (bt a0 x3_1)) = false := decide_eq_false c42
                    clear c42
                    by_cases c58 : (bt a0 x3_1) ≥ 48
                    · rw [if_pos c58] at H
                      have c58b0 : decide (48 ≤ (bt a0 x3_1)) = true := decide_eq_true c58
                      clear c58
                      by_cases c59 : (bt a0 x3_1) ≤ 57
                      · rw [if_pos c59] at H
                        have c59b0 : decide ((bt a0 x3_1) ≤ 57) = true := decide_eq_true c59
                        clear c59
                        have H' := Aside0.mk H
                        clear H
                        have p9 : 0 ≤ (x3_1 : Int) := of_decide_eq_true (by first | (with_reducible assumption) | assumption)
                        have q9 : x3_1 < (a0.size : Int) := of_decide_eq_true (by first | (with_reducible assumption) | assumption)
                        have hx9 := bt_at a0 x3_1
                        replace p9 := eq_true p9
                        replace q9 := eq_true q9
                        go_wp2
                        go_roundg kj1
                        case measure => have := HK1.out; have := HJ1.out; omega
                        case rel => exact ⟨(wrap64 (x3_1 + 1)), (by first | rfl | (simp; done) | (simp [*]; done)), H', ⟨by have := HK1.out; have := HJ1.out; omega⟩, by repeat (first | exact Drawn0.refl _ | apply Drawn0.step)⟩
                      · rw [if_neg c59] at H
                        have c59b0 : decide ((bt a0 x3_1) ≤ 57) = false := decide_eq_false c59
                        clear c59
                        by_cases c60 : (bt a0 x3_1) = 45
                        · rw [if_pos c60] at H
                          have c60b0 : ((bt a0 x3_1) == 45) = true := beq_iff_eq.mpr c60
                          have c60b1 : ((bt a0 x3_1) != 45) = false := bne_eq_false_iff_eq.mpr c60
                          clear c60
                          have H' := Aside0.mk H
                          clear H
                          have p9 : 0 ≤ (x3_1 : Int) := of_decide_eq_true (by first | (with_reducible assumption) | assumption)
                          have q9 : x3_1 < (a0.size : Int) := of_decide_eq_true (by first | (with_reducible assumption) | assumption)
                          have hx9 := bt_at a0 x3_1
                          replace p9 := eq_true p9
                          replace q9 := eq_true q9
                          go_wp2
                          go_roundg kj1
                          case measure => have := HK1.out; have := HJ1.out; omega
                          case rel => exact ⟨(wrap64 (x3_1 + 1)), (by first | rfl | (simp; done) | (simp [*]; done)), H', ⟨by have := HK1.out; have := HJ1.out; omega⟩, by repeat (first | exact Drawn0.refl _ | apply Drawn0.step)⟩
                        · rw [if_neg c60] at H
                          have c60b0 : ((bt a0 x3_1) == 45) = false := beq_eq_false_iff_ne.mpr c60
                          have c60b1 : ((bt a0 x3_1) != 45) = true := bne_iff_ne.mpr c60
                          by_cases c61 : (bt a0 x3_1) = 46
                          · rw [if_pos c61] at H
                            have c61b0 : ((bt a0 x3_1) == 46) = true := beq_iff_eq.mpr c61
                            have c61b1 : ((bt a0 x3_1) != 46) = false := bne_eq_false_iff_eq.mpr c61
                            clear c61
                            have H' := Aside0.mk H
                            clear H
                            have p9 : 0 ≤ (x3_1 : Int) := of_decide_eq_true (by first | (with_reducible assumption) | assumption)
                            have q9 : x3_1 < (a0.size : Int) := of_decide_eq_true (by first | (with_reducible assumption) | assumption)
                            have hx9 := bt_at a0 x3_1
                            replace p9 := eq_true p9
                            replace q9 := eq_true q9
                            go_wp2
                            go_roundg kj1
                            case measure => have := HK1.out; have := HJ1.out; omega
                            case rel => exact ⟨(wrap64 (x3_1 + 1)), (by first | rfl | (simp; done) | (simp [*]; done)), H', ⟨by have := HK1.out; have := HJ1.out; omega⟩, by repeat (first | exact Drawn0.refl _ | apply Drawn0.step)⟩
                          · rw [if_neg c61] at H
                            have c61b0 : ((bt a0 x3_1) == 46) = false := beq_eq_false_iff_ne.mpr c61
                            have c61b1 : ((bt a0 x3_1) != 46) = true := bne_iff_ne.mpr c61
                            by_cases c62 : (bt a0 x3_1) = 95
                            · rw [if_pos c62] at H
                              have c62b0 : ((bt a0 x3_1) == 95) = true := beq_iff_eq.mpr c62
                              have c62b1 : ((bt a0 x3_1) != 95) = false := bne_eq_false_iff_eq.mpr c62
                              clear c62
                              have H' := Aside0.mk H
                              clear H
                              have p9 : 0 ≤ (x3_1 : Int) := of_decide_eq_true (by first | (with_reducible assumption) | assumption)
                              have q9 : x3_1 < (a0.size : Int) := of_decide_eq_true (by first | (with_reducible assumption) | assumption)
                              have hx9 := bt_at a0 x3_1
                              replace p9 := eq_true p9
                              replace q9 := eq_true q9
                              go_wp2
                              go_roundg kj1
                              case measure => have := HK1.out; have := HJ1.out; omega
                              case rel => exact ⟨(wrap64 (x3_1 + 1)), (by first | rfl | (simp; done) | (simp [*]; done)), H', ⟨by have := HK1.out; have := HJ1.out; omega⟩, by repeat (first | exact Drawn0.refl _ | apply Drawn0.step)⟩
                            · rw [if_neg c62] at H
                              have c62b0 : ((bt a0 x3_1) == 95) = false := beq_eq_false_iff_ne.mpr c62
                              have c62b1 : ((bt a0 x3_1) != 95) = true := bne_iff_ne.mpr c62
                              by_cases c63 : (bt a0 x3_1) = 126
                              · rw [if_pos c63] at H
                                have c63b0 : ((bt a0 x3_1) == 126) = true := beq_iff_eq.mpr c63
                                have c63b1 : ((bt a0 x3_1) != 126) = false := bne_eq_false_iff_eq.mpr c63
                                clear c63
                                have H' := Aside0.mk H
                                clear H
                                have p9 : 0 ≤ (x3_1 : Int) := of_decide_eq_true (by first | (with_reducible assumption) | assumption)
                                have q9 : x3_1 < (a0.size : Int) := of_decide_eq_true (by first | (with_reducible assumption) | assumption)
                                have hx9 := bt_at a0 x3_1
                                replace p9 := eq_true p9
                                replace q9 := eq_true q9
                                go_wp2
                                go_roundg kj1
                                case measure => have := HK1.out; have := HJ1.out; omega
                                case rel => exact ⟨(wrap64 (x3_1 + 1)), (by first | rfl | (simp; done) | (simp [*]; done)), H', ⟨by have := HK1.out; have := HJ1.out; omega⟩, by repeat (first | exact Drawn0.refl _ | apply Drawn0.step)⟩
                              · rw [if_neg c63] at H
                                have c63b0 : ((bt a0 x3_1) == 126) = false := beq_eq_false_iff_ne.mpr c63
                                have c63b1 : ((bt a0 x3_1) != 126) = true := bne_iff_ne.mpr c63
                                by_cases c64 : (bt a0 x3_1) = 43
                                · rw [if_pos c64] at H
                                  have c64b0 : ((bt a0 x3_1) == 43) = true := beq_iff_eq.mpr c64
                                  have c64b1 : ((bt a0 x3_1) != 43) = false := bne_eq_false_iff_eq.mpr c64
                                  clear c64
                                  have H' := Aside0.mk H
                                  clear H
                                  have p9 : 0 ≤ (x3_1 : Int) := of_decide_eq_true (by first | (with_reducible assumption) | assumption)
                                  have q9 : x3_1 < (a0.size : Int) := of_decide_eq_true (by first | (with_reducible assumption) | assumption)
                                  have hx9 := bt_at a0 x3_1
                                  replace p9 := eq_true p9
                                  replace q9 := eq_true q9
                                  go_wp2
                                  go_roundg kj1
                                  case measure => have := HK1.out; have := HJ1.out; omega
                                  case rel => exact ⟨(wrap64 (x3_1 + 1)), (by first | rfl | (simp; done) | (simp [*]; done)), H', ⟨by have := HK1.out; have := HJ1.out; omega⟩, by repeat (first | exact Drawn0.refl _ | apply Drawn0.step)⟩
                                · rw [if_neg c64] at H
                                  have c64b0 : ((bt a0 x3_1) == 43) = false := beq_eq_false_iff_ne.mpr c64
                                  have c64b1 : ((bt a0 x3_1) != 43) = true := bne_iff_ne.mpr c64
                                  by_cases c65 : ((bt a0 x3_1) = 47)
                                  · rw [if_pos c65] at H
                                    have c65b0 : ((bt a0 x3_1) == 47) = true := beq_iff_eq.mpr c65
                                    have c65b1 : ((bt a0 x3_1) != 47) = false := bne_eq_false_iff_eq.mpr c65
                                    clear c65
                                    have H' := Aside0.mk H
                                    clear H
                                    have p9 : 0 ≤ (x3_1 : Int) := of_decide_eq_true (by first | (with_reducible assumption) | assumption)
                                    have q9 : x3_1 < (a0.size : Int) := of_decide_eq_true (by first | (with_reducible assumption) | assumption)
                                    have hx9 := bt_at a0 x3_1
                                    replace p9 := eq_true p9
                                    replace q9 := eq_true q9
                                    go_wp2
                                    go_roundg kj1
                                    case measure => have := HK1.out; have := HJ1.out; omega
                                    case rel => exact ⟨(wrap64 (x3_1 + 1)), (by first | rfl | (simp; done) | (simp [*]; done)), H', ⟨by have := HK1.out; have := HJ1.out; omega⟩, by repeat (first | exact Drawn0.refl _ | apply Drawn0.step)⟩
                                  · rw [if_neg c65] at H
                                    have c65b0 : ((bt a0 x3_1) == 47) = false := beq_eq_false_iff_ne.mpr c65
                                    have c65b1 : ((bt a0 x3_1) != 47) = true := bne_iff_ne.mpr c65
                                    obtain rfl := Option.some.inj H
                                    have p9 : 0 ≤ (x3_1 : Int) := of_decide_eq_true (by first | (with_reducible assumption) | assumption)
                                    have q9 : x3_1 < (a0.size : Int) := of_decide_eq_true (by first | (with_reducible assumption) | assumption)
                                    have hx9 := bt_at a0 x3_1
                                    replace p9 := eq_true p9
                                    replace q9 := eq_true q9
                                    go_wp2
                                    go_ret
                                    exact ⟨by first | rfl | (simp; done) | (simp [*]; done), by repeat (first | exact Drawn0.refl _ | apply Drawn0.step)⟩
                    · rw [if_neg c58] at H
                      have c58b0 : decide (48 ≤ (bt a0 x3_1)) = false := decide_eq_false c58
                      clear c58
                      by_cases c66 : (bt a0 x3_1) = 45
                      · rw [if_pos c66] at H
                        have c66b0 : ((bt a0 x3_1) == 45) = true := beq_iff_eq.mpr c66
                        have c66b1 : ((bt a0 x3_1) != 45) = false := bne_eq_false_iff_eq.mpr c66
                        clear c66
                        have H' := Aside0.mk H
                        clear H
                        have p9 : 0 ≤ (x3_1 : Int) := of_decide_eq_true (by first | (with_reducible assumption) | assumption)
                        have q9 : x3_1 < (a0.size : Int) := of_decide_eq_true (by first | (with_reducible assumption) | assumption)
                        have hx9 := bt_at a0 x3_1
                        replace p9 := eq_true p9
                        replace q9 := eq_true q9
                        go_wp2
                        go_roundg kj1
                        case measure => have := HK1.out; have := HJ1.out; omega
                        case rel => exact ⟨(wrap64 (x3_1 + 1)), (by first | rfl | (simp; done) | (simp [*]; done)), H', ⟨by have := HK1.out; have := HJ1.out; omega⟩, by repeat (first | exact Drawn0.refl _ | apply Drawn0.step)⟩
                      · rw [if_neg c66] at H
                        have c66b0 : ((bt a0 x3_1) == 45) = false := beq_eq_false_iff_ne.mpr c66
                        have c66b1 : ((bt a0 x3_1) != 45) = true := bne_iff_ne.mpr c66
                        by_cases c67 : (bt a0 x3_1) = 46
                        · rw [if_pos c67] at H
                          have c67b0 : ((bt a0 x3_1) == 46) = true := beq_iff_eq.mpr c67
                          have c67b1 : ((bt a0 x3_1) != 46) = false := bne_eq_false_iff_eq.mpr c67
                          clear c67
                          have H' := Aside0.mk H
                          clear H
                          have p9 : 0 ≤ (x3_1 : Int) := of_decide_eq_true (by first | (with_reducible assumption) | assumption)
                          have q9 : x3_1 < (a0.size : Int) := of_decide_eq_true (by first | (with_reducible assumption) | assumption)
                          have hx9 := bt_at a0 x3_1
                          replace p9 := eq_true p9
                          replace q9 := eq_true q9
                          go_wp2
                          go_roundg kj1
                          case measure => have := HK1.out; have := HJ1.out; omega
                          case rel => exact ⟨(wrap64 (x3_1 + 1)), (by first | rfl | (simp; done) | (simp [*]; done)), H', ⟨by have := HK1.out; have := HJ1.out; omega⟩, by repeat (first | exact Drawn0.refl _ | apply Drawn0.step)⟩
                        · rw [if_neg c67] at H
                          have c67b0 : ((bt a0 x3_1) == 46) = false := beq_eq_false_iff_ne.mpr c67
                          have c67b1 : ((bt a0 x3_1) != 46) = true := bne_iff_ne.mpr c67
                          by_cases c68 : (bt a0 x3_1) = 95
                          · rw [if_pos c68] at H
                            have c68b0 : ((bt a0 x3_1) == 95) = true := beq_iff_eq.mpr c68
                            have c68b1 : ((bt a0 x3_1) != 95) = false := bne_eq_false_iff_eq.mpr c68
                            clear c68
                            have H' := Aside0.mk H
                            clear H
                            have p9 : 0 ≤ (x3_1 : Int) := of_decide_eq_true (by first | (with_reducible assumption) | assumption)
                            have q9 : x3_1 < (a0.size : Int) := of_decide_eq_true (by first | (with_reducible assumption) | assumption)
                            have hx9 := bt_at a0 x3_1
                            replace p9 := eq_true p9
                            replace q9 := eq_true q9
                            go_wp2
                            go_roundg kj1
                            case measure => have := HK1.out; have := HJ1.out; omega
                            case rel => exact ⟨(wrap64 (x3_1 + 1)), (by first | rfl | (simp; done) | (simp [*]; done)), H', ⟨by have := HK1.out; have := HJ1.out; omega⟩, by repeat (first | exact Drawn0.refl _ | apply Drawn0.step)⟩
                          · rw [if_neg c68] at H
                            have c68b0 : ((bt a0 x3_1) == 95) = false := beq_eq_false_iff_ne.mpr c68
                            have c68b1 : ((bt a0 x3_1) != 95) = true := bne_iff_ne.mpr c68
                            by_cases c69 : (bt a0 x3_1) = 126
                            · rw [if_pos c69] at H
                              have c69b0 : ((bt a0 x3_1) == 126) = true := beq_iff_eq.mpr c69
                              have c69b1 : ((bt a0 x3_1) != 126) = false := bne_eq_false_iff_eq.mpr c69
                              clear c69
                              have H' := Aside0.mk H
                              clear H
                              have p9 : 0 ≤ (x3_1 : Int) := of_decide_eq_true (by first | (with_reducible assumption) | assumption)
                              have q9 : x3_1 < (a0.size : Int) := of_decide_eq_true (by first | (with_reducible assumption) | assumption)
                              have hx9 := bt_at a0 x3_1
                              replace p9 := eq_true p9
                              replace q9 := eq_true q9
                              go_wp2
                              go_roundg kj1
                              case measure => have := HK1.out; have := HJ1.out; omega
                              case rel => exact ⟨(wrap64 (x3_1 + 1)), (by first | rfl | (simp; done) | (simp [*]; done)), H', ⟨by have := HK1.out; have := HJ1.out; omega⟩, by repeat (first | exact Drawn0.refl _ | apply Drawn0.step)⟩
                            · rw [if_neg c69] at H
                              have c69b0 : ((bt a0 x3_1) == 126) = false := beq_eq_false_iff_ne.mpr c69
                              have c69b1 : ((bt a0 x3_1) != 126) = true := bne_iff_ne.mpr c69
                              by_cases c70 : (bt a0 x3_1) = 43
                              · rw [if_pos c70] at H
                                have c70b0 : ((bt a0 x3_1) == 43) = true := beq_iff_eq.mpr c70
                                have c70b1 : ((bt a0 x3_1) != 43) = false := bne_eq_false_iff_eq.mpr c70
                                clear c70
                                have H' := Aside0.mk H
                                clear H
                                have p9 : 0 ≤ (x3_1 : Int) := of_decide_eq_true (by first | (with_reducible assumption) | assumption)
                                have q9 : x3_1 < (a0.size : Int) := of_decide_eq_true (by first | (with_reducible assumption) | assumption)
                                have hx9 := bt_at a0 x3_1
                                replace p9 := eq_true p9
                                replace q9 := eq_true q9
                                go_wp2
                                go_roundg kj1
                                case measure => have := HK1.out; have := HJ1.out; omega
                                case rel => exact ⟨(wrap64 (x3_1 + 1)), (by first | rfl | (simp; done) | (simp [*]; done)), H', ⟨by have := HK1.out; have := HJ1.out; omega⟩, by repeat (first | exact Drawn0.refl _ | apply Drawn0.step)⟩
                              · rw [if_neg c70] at H
                                have c70b0 : ((bt a0 x3_1) == 43) = false := beq_eq_false_iff_ne.mpr c70
                                have c70b1 : ((bt a0 x3_1) != 43) = true := bne_iff_ne.mpr c70
                                by_cases c71 : ((bt a0 x3_1) = 47)
                                · rw [if_pos c71] at H
                                  have c71b0 : ((bt a0 x3_1) == 47) = true := beq_iff_eq.mpr c71
                                  have c71b1 : ((bt a0 x3_1) != 47) = false := bne_eq_false_iff_eq.mpr c71
                                  clear c71
                                  have H' := Aside0.mk H
                                  clear H
                                  have p9 : 0 ≤ (x3_1 : Int) := of_decide_eq_true (by first | (with_reducible assumption) | assumption)
                                  have q9 : x3_1 < (a0.size : Int) := of_decide_eq_true (by first | (with_reducible assumption) | assumption)
                                  have hx9 := bt_at a0 x3_1
                                  replace p9 := eq_true p9
                                  replace q9 := eq_true q9
                                  go_wp2
                                  go_roundg kj1
                                  case measure => have := HK1.out; have := HJ1.out; omega
                                  case rel => exact ⟨(wrap64 (x3_1 + 1)), (by first | rfl | (simp; done) | (simp [*]; done)), H', ⟨by have := HK1.out; have := HJ1.out; omega⟩, by repeat (first | exact Drawn0.refl _ | apply Drawn0.step)⟩
                                · rw [if_neg c71] at H
                                  have c71b0 : ((bt a0 x3_1) == 47) = false := beq_eq_false_iff_ne.mpr c71
                                  have c71b1 : ((bt a0 x3_1) != 47) = true := bne_iff_ne.mpr c71
                                  obtain rfl := Option.some.inj H
                                  have p9 : 0 ≤ (x3_1 : Int) := of_decide_eq_true (by first | (with_reducible assumption) | assumption)
                                  have q9 : x3_1 < (a0.size : Int) := of_decide_eq_true (by first | (with_reducible assumption) | assumption)
                                  have hx9 := bt_at a0 x3_1
                                  replace p9 := eq_true p9
                                  replace q9 := eq_true q9
                                  go_wp2
                                  go_ret
                                  exact ⟨by first | rfl | (simp; done) | (simp [*]; done), by repeat (first | exact Drawn0.refl _ | apply Drawn0.step)⟩
              · rw [if_neg c8] at H
                exact absurd H (by simp)
            · rw [if_neg c7] at H
              exact absurd H (by simp)
          · replace c6 := Bool.eq_false_iff.mpr c6
            subst c6
            have H1 : (tollhouseref15_May.l1 kj1 a0 x3_1 x3_1) = some r := by rw [if_neg (show ¬ (false = true) by decide)] at H; exact H
            clear H
            have H := H1
            clear H1
            have H' := Aside0.mk H
            clear H
            go_wp2
            go_loopg [6] kj1 (fun kq v6 w' => ∃ (x6_3 : Int), v6 = .int .i64 x6_3 ∧ Aside0 (tollhouseref15_May.l1 kq a0 x3_1 x6_3 = some r) ∧ Aside0 (kq ≤ kj1) ∧ Drawn0 w w')
            case atStart => exact ⟨(x3_1), (by first | rfl | (simp; done) | (simp [*]; done)), H', ⟨Nat.le_refl _⟩, by repeat (first | exact Drawn0.refl _ | apply Drawn0.step)⟩
            case round =>
              clear H'
              try clear c1
              try clear p2
              try clear c4
              try clear c5
              try clear c6
              try clear p6
              try clear c7
              try clear c8
              try clear p9
              try clear q9
              try clear hx9
              try clear c10
              try clear c10b0
              try clear c41
              try clear c41b0
              try clear c41b1
              try clear c42
              try clear c42b0
              try clear c43
              try clear c43b0
              try clear c44
              try clear c44b0
              try clear c45
              try clear c45b0
              try clear c46
              try clear c46b0
              try clear c46b1
              try clear c47
              try clear c47b0
              try clear c47b1
              try clear c48
              try clear c48b0
              try clear c48b1
              try clear c49
              try clear c49b0
              try clear c49b1
              try clear c50
              try clear c50b0
              try clear c50b1
              try clear c51
              try clear c51b0
              try clear c51b1
              try clear c52
              try clear c52b0
              try clear c52b1
              try clear c53
              try clear c53b0
              try clear c53b1
              try clear c54
              try clear c54b0
              try clear c54b1
              try clear c55
              try clear c55b0
              try clear c55b1
              try clear c56
              try clear c56b0
              try clear c56b1
              try clear c57
              try clear c57b0
              try clear c57b1
              try clear c58
              try clear c58b0
              try clear c59
              try clear c59b0
              try clear c60
              try clear c60b0
              try clear c60b1
              try clear c61
              try clear c61b0
              try clear c61b1
              try clear c62
              try clear c62b0
              try clear c62b1
              try clear c63
              try clear c63b0
              try clear c63b1
              try clear c64
              try clear c64b0
              try clear c64b1
              try clear p64
              try clear c65
              try clear c65b0
              try clear c65b1
              try clear c66
              try clear c66b0
              try clear c66b1
              try clear c67
              try clear c67b0
              try clear c67b1
              try clear c68
              try clear c68b0
              try clear c68b1
              try clear c69
              try clear c69b0
              try clear c69b1
              try clear c70
              try clear c70b0
              try clear c70b1
              try clear c71
              try clear c71b0
              try clear c71b1
              try clear p9
              try clear q9
              obtain ⟨x6_3, rfl, HA, HK3, ⟨m3, rfl⟩⟩ := hrel
              cases gk with
              | zero => exact absurd HA.out (by simp [tollhouseref15_May.l1])
              | succ k3 =>
                have H := HA.out
                clear HA
                simp only [tollhouseref15_May.l1] at H
                by_cases c72 : x6_3 < (a0.size : Int)
                · rw [if_pos c72] at H
                  have c72b0 : decide (x6_3 < (a0.size : Int)) = true := decide_eq_true c72
                  clear c72
                  by_cases c73 : 0 ≤ x6_3
                  · rw [if_pos c73] at H
                    have c73b0 : decide (0 ≤ x6_3) = true := decide_eq_true c73
                    clear c73
                    by_cases c75 : (bt a0 x6_3) = 61
                    · rw [if_pos c75] at H
                      have c75b0 : ((bt a0 x6_3) == 61) = true := beq_iff_eq.mpr c75
                      have c75b1 : ((bt a0 x6_3) != 61) = false := bne_eq_false_iff_eq.mpr c75
                      clear c75
                      have H' := Aside0.mk H
                      clear H
                      have p74 : 0 ≤ (x6_3 : Int) := of_decide_eq_true (by first | (with_reducible assumption) | assumption)
                      have q74 : x6_3 < (a0.size : Int) := of_decide_eq_true (by first | (with_reducible assumption) | assumption)
                      have hx74 := bt_at a0 x6_3
                      replace p74 := eq_true p74
                      replace q74 := eq_true q74
                      go_wp2
                      go_roundg k3
                      case measure => have := HK1.out; have := HJ1.out; have := HK3.out; omega
                      case rel => exact ⟨(wrap64 (x6_3 + 1)), (by first | rfl | (simp; done) | (simp [*]; done)), H', ⟨by have := HK1.out; have := HJ1.out; have := HK3.out; omega⟩, by repeat (first | exact Drawn0.refl _ | apply Drawn0.step)⟩
                    · rw [if_neg c75] at H
                      have c75b0 : ((bt a0 x6_3) == 61) = false := beq_eq_false_iff_ne.mpr c75
                      have c75b1 : ((bt a0 x6_3) != 61) = true := bne_iff_ne.mpr c75
                      obtain rfl := Option.some.inj H
                      have p74 : 0 ≤ (x6_3 : Int) := of_decide_eq_true (by first | (with_reducible assumption) | assumption)
                      have q74 : x6_3 < (a0.size : Int) := of_decide_eq_true (by first | (with_reducible assumption) | assumption)
                      have hx74 := bt_at a0 x6_3
                      replace p74 := eq_true p74
                      replace q74 := eq_true q74
                      go_wp2
                      go_ret
                      exact ⟨by first | rfl | (simp; done) | (simp [*]; done), by repeat (first | exact Drawn0.refl _ | apply Drawn0.step)⟩
                  · rw [if_neg c73] at H
                    exact absurd H (by simp)
                · rw [if_neg c72] at H
                  have c72b0 : decide (x6_3 < (a0.size : Int)) = false := decide_eq_false c72
                  clear c72
                  by_cases c76 : x3_1 > 0
                  · rw [if_pos c76] at H
                    have c76b0 : decide (0 < x3_1) = true := decide_eq_true c76
                    clear c76
                    obtain rfl := Option.some.inj H
                    go_wp2
                    go_ret
                    exact ⟨by first | rfl | (simp; done) | (simp [*]; done), by repeat (first | exact Drawn0.refl _ | apply Drawn0.step)⟩
                  · rw [if_neg c76] at H
                    have c76b0 : decide (0 < x3_1) = false := decide_eq_false c76
                    clear c76
                    obtain rfl := Option.some.inj H
                    go_wp2
                    go_ret
                    exact ⟨by first | rfl | (simp; done) | (simp [*]; done), by repeat (first | exact Drawn0.refl _ | apply Drawn0.step)⟩

end Go.Proofs.YtepljhleaohbcaaGreatDoor.P
end

section
/- The walk of the Go function tollhouseref15 Tenant, and what it computes. By program. Conditions: none but those that each theorem names. -/
namespace Go.Proofs.YtepljhleaohbcaaGreatDoor.P
open Go.RowKit Go.Proofs.YtepljhleaohbcaaGreatDoorW.PrintWords Go.Proofs.YtepljhleaohbcaaGreatDoorW.PrintLast Go.Proofs.YtepljhleaohbcaaGreatDoorW.PrintMore
attribute [local go_sem] max2_int min2_int max_two min_two max_three min_three max_four min_four

/-! ### tollhouseref15_Tenant: function 12 -/
def tollhouseref15_Tenant.j0 : Nat → Bool → ByteArray → List (S46) → Int → Int → Int → Int → Int → Int → Int → Option (Bool)
  | 0, _, _, _, _, _, _, _, _, _, _ => none
  | k + 1, x12, x311000, x311001, x311002, x311003, x311004, x311005, x311006, x311007, x311008 => if x12 = true then (some false) else (if x311002 < 0 then (some false) else (if x311002 > 262144 then (some false) else (if x311003 < 0 then (some false) else (if x311003 > 64 then (some false) else (if x311004 < 1 then (some false) else (if x311004 > 16 then (some false) else (if x311005 < 1 then (some false) else (if x311005 > 8 then (some false) else (if x311006 ≥ 0 then (if x311006 ≤ 16 then (if x311007 ≥ 1 then (if x311007 ≤ 1000 then (if x311008 ≥ 1 then (some (decide (x311008 ≤ 1000))) else (some false)) else (some false)) else (some false)) else (some false)) else (some false))))))))))
def tollhouseref15_Tenant.f (k : Nat) (a0_0 : ByteArray) (l0_1 : List (S46)) (a0_2 : Int) (a0_3 : Int) (a0_4 : Int) (a0_5 : Int) (a0_6 : Int) (a0_7 : Int) (a0_8 : Int) : Option (Bool) := (tollhouseref15_May.f k a0_0).bind fun t311 => (if t311 = true then ((tollhouseref14_All.f k l0_1).bind fun t312 => (tollhouseref15_Tenant.j0 k (!t312) a0_0 l0_1 a0_2 a0_3 a0_4 a0_5 a0_6 a0_7 a0_8)) else (tollhouseref15_Tenant.j0 k true a0_0 l0_1 a0_2 a0_3 a0_4 a0_5 a0_6 a0_7 a0_8))
theorem tollhouseref15_Tenant.mono_l : ∀ k, (∀ y0 y1 y2 y3 y4 y5 y6 y7 y8 y9, LeO (tollhouseref15_Tenant.j0 k y0 y1 y2 y3 y4 y5 y6 y7 y8 y9) (tollhouseref15_Tenant.j0 (k + 1) y0 y1 y2 y3 y4 y5 y6 y7 y8 y9))
  | 0 => fun _ _ _ _ _ _ _ _ _ _ r h => by simp [tollhouseref15_Tenant.j0] at h
  | k + 1 => by
    have ih0 := tollhouseref15_Tenant.mono_l k
    · intro y0 y1 y2 y3 y4 y5 y6 y7 y8 y9
      unfold tollhouseref15_Tenant.j0
      repeat' first
      | (with_reducible exact ih0 _ _ _ _ _ _ _ _ _ _)
      | (with_reducible exact tollhouseref14_All.mono _ _)
      | (with_reducible exact tollhouseref15_May.mono _ _)
      | (with_reducible exact LeO.refl _)
      | (with_reducible exact LeO.none _)
      | (with_reducible refine LeO.ite ?_ ?_)
      | (with_reducible refine LeO.bind ?_ (fun _ => ?_))
      | exact ih0 _ _ _ _ _ _ _ _ _ _
      | exact tollhouseref14_All.mono _ _
      | exact tollhouseref15_May.mono _ _
      | exact LeO.none _
      | refine LeO.ite ?_ ?_
      | refine LeO.bind ?_ (fun _ => ?_)
theorem tollhouseref15_Tenant.mono : ∀ a0 a1 a2 a3 a4 a5 a6 a7 a8 k, LeO (tollhouseref15_Tenant.f k a0 a1 a2 a3 a4 a5 a6 a7 a8) (tollhouseref15_Tenant.f (k + 1) a0 a1 a2 a3 a4 a5 a6 a7 a8) := by
  intro a0 a1 a2 a3 a4 a5 a6 a7 a8 k
  have ih0 := tollhouseref15_Tenant.mono_l k
  unfold tollhouseref15_Tenant.f
  repeat' first
      | (with_reducible exact ih0 _ _ _ _ _ _ _ _ _ _)
      | (with_reducible exact tollhouseref14_All.mono _ _)
      | (with_reducible exact tollhouseref15_May.mono _ _)
      | (with_reducible exact LeO.refl _)
      | (with_reducible exact LeO.none _)
      | (with_reducible refine LeO.ite ?_ ?_)
      | (with_reducible refine LeO.bind ?_ (fun _ => ?_))
      | exact ih0 _ _ _ _ _ _ _ _ _ _
      | exact tollhouseref14_All.mono _ _
      | exact tollhouseref15_May.mono _ _
      | exact LeO.none _
      | refine LeO.ite ?_ ?_
      | refine LeO.bind ?_ (fun _ => ?_)
set_option maxHeartbeats 8000000 in
set_option maxRecDepth 100000 in
theorem tollhouseref15_Tenant.calls (k : Nat) (a0_0 : ByteArray) (A0_1 : Option Addr) (c0_1 : Nat) (l0_1 : List (S46)) (a0_2 : Int) (a0_3 : Int) (a0_4 : Int) (a0_5 : Int) (a0_6 : Int) (a0_7 : Int) (a0_8 : Int) (r : Bool) (w : World) (hr0_1 : Kd.C k46 w A0_1 l0_1.length l0_1) (hc0_1 : l0_1.length ≤ c0_1) (h : tollhouseref15_Tenant.f k a0_0 l0_1 a0_2 a0_3 a0_4 a0_5 a0_6 a0_7 a0_8 = some r) :
    Calls Tryz.prog 12 #[.agg #[.string a0_0, .slice A0_1 l0_1.length c0_1, .int .i64 a0_2, .int .i64 a0_3, .int .i64 a0_4, .int .i64 a0_5, .int .i64 a0_6, .int .i64 a0_7, .int .i64 a0_8]] w fun e w' => e = .returned (.bool r) ∧ Below w.heap.size w w' := by
  have hu27 := Tryz.underlying27
  have HR0_1 := Aside0.mk hr0_1
  have HC0_1 := Aside0.mk hc0_1
  clear hr0_1 hc0_1
  have HB := Aside0.mk (Below.refl w.heap.size w)
  have H : ((tollhouseref15_May.f k a0_0).bind fun t311 => (if t311 = true then ((tollhouseref14_All.f k l0_1).bind fun t312 => (tollhouseref15_Tenant.j0 k (!t312) a0_0 l0_1 a0_2 a0_3 a0_4 a0_5 a0_6 a0_7 a0_8)) else (tollhouseref15_Tenant.j0 k true a0_0 l0_1 a0_2 a0_3 a0_4 a0_5 a0_6 a0_7 a0_8))) = some r := h
  clear h
  have HC2 := Aside0.mk H
  clear H
  go_enter Tryz.func12, Tryz.ntmps12
  go_upto_region 1 with (first | ((with_reducible refine gate_dst (N := 1) rfl ?_); refine box_event ?hg (N := 1) ?hd (cs := #[.string a0_0, .slice A0_1 l0_1.length c0_1, .int .i64 a0_2, .int .i64 a0_3, .int .i64 a0_4, .int .i64 a0_5, .int .i64 a0_6, .int .i64 a0_7, .int .i64 a0_8]) (t := 27) ?hr ?_; (case hd => rfl); (case hg => rfl); (case hr => first | (go_simp; done) | (go_simp; rfl)); intro gb310 hg w3 hbox hb; have n0_ := Aside0.mk (below_step (by repeat (first | (with_reducible first | exact HB.out | apply below_alloc | apply pw_below_drewN | apply below_drew1) | exact HB.out)) hb); have n1_ := Aside0.mk (hbox); have n2_ := Aside0.mk ((by rw [hg]; exact (below_size (by repeat (first | (with_reducible first | exact HB.out | apply below_alloc | apply pw_below_drewN | apply below_drew1) | exact HB.out))) : w.heap.size ≤ gb310)); have n3_ := Aside0.mk ((by rw [hg]; exact (below_size (by repeat (first | (with_reducible first | exact HB.out | apply below_alloc | apply pw_below_drewN | apply below_drew1) | exact HB.out))) : w.heap.size ≤ gb310)); clear HB; have HB := n0_; have BK310 := n1_; have GW310 := n2_; have GE310 := n3_; clear n0_ n1_ n2_ n3_; clear hb hbox hg))
  (try simp only [Act.put, List.setIfInBounds_toArray, List.set_cons_zero, List.set_cons_succ])
  go_cut [12] (fun v12 wc => ∃ (kq : Nat) (x12_1 : Bool), v12 = .bool x12_1 ∧ Aside0 (tollhouseref15_Tenant.j0 kq x12_1 a0_0 l0_1 a0_2 a0_3 a0_4 a0_5 a0_6 a0_7 a0_8 = some r) ∧ Aside0 (kq ≤ k) ∧ Aside0 (wc.heap[gb310]? = some (.cells #[.string a0_0, (.slice A0_1 l0_1.length c0_1), .int .i64 a0_2, .int .i64 a0_3, .int .i64 a0_4, .int .i64 a0_5, .int .i64 a0_6, .int .i64 a0_7, .int .i64 a0_8] 27 (0, 0))) ∧ Aside0 (Below w.heap.size w wc))
  case first =>
    have H := HC2.out
    clear HC2
    replace H := Option.bind_eq_some_iff.mp H
    obtain ⟨t311, A40, H⟩ := H
    replace H : (if t311 = true then ((tollhouseref14_All.f k l0_1).bind fun t312 => (tollhouseref15_Tenant.j0 k (!t312) a0_0 l0_1 a0_2 a0_3 a0_4 a0_5 a0_6 a0_7 a0_8)) else (tollhouseref15_Tenant.j0 k true a0_0 l0_1 a0_2 a0_3 a0_4 a0_5 a0_6 a0_7 a0_8)) = some r := H
    have A4 := Aside0.mk A40
    clear A40
    by_cases c5 : t311 = true
    · subst c5
      have H1 : ((tollhouseref14_All.f k l0_1).bind fun t312 => (tollhouseref15_Tenant.j0 k (!t312) a0_0 l0_1 a0_2 a0_3 a0_4 a0_5 a0_6 a0_7 a0_8)) = some r := by rw [if_pos rfl] at H; exact H
      clear H
      have H := H1
      clear H1
      replace H := Option.bind_eq_some_iff.mp H
      obtain ⟨t312, A60, H⟩ := H
      replace H : (tollhouseref15_Tenant.j0 k (!t312) a0_0 l0_1 a0_2 a0_3 a0_4 a0_5 a0_6 a0_7 a0_8) = some r := H
      have A6 := Aside0.mk A60
      clear A60
      have H' := Aside0.mk H
      clear H
      have hcz7_0 : w3.cell? ⟨gb310, 0, none⟩ = some (.string a0_0) := (blk_cell BK310.out 0).trans rfl
      have hcz7_1 : w3.cell? ⟨gb310, 1, none⟩ = some (.slice A0_1 l0_1.length c0_1) := (blk_cell BK310.out 1).trans rfl
      have hcz7_2 : w3.cell? ⟨gb310, 2, none⟩ = some (.int .i64 a0_2) := (blk_cell BK310.out 2).trans rfl
      have hcz7_3 : w3.cell? ⟨gb310, 3, none⟩ = some (.int .i64 a0_3) := (blk_cell BK310.out 3).trans rfl
      have hcz7_4 : w3.cell? ⟨gb310, 4, none⟩ = some (.int .i64 a0_4) := (blk_cell BK310.out 4).trans rfl
      have hcz7_5 : w3.cell? ⟨gb310, 5, none⟩ = some (.int .i64 a0_5) := (blk_cell BK310.out 5).trans rfl
      have hcz7_6 : w3.cell? ⟨gb310, 6, none⟩ = some (.int .i64 a0_6) := (blk_cell BK310.out 6).trans rfl
      have hcz7_7 : w3.cell? ⟨gb310, 7, none⟩ = some (.int .i64 a0_7) := (blk_cell BK310.out 7).trans rfl
      have hcz7_8 : w3.cell? ⟨gb310, 8, none⟩ = some (.int .i64 a0_8) := (blk_cell BK310.out 8).trans rfl
      have hfz7_0 := blk_frozen BK310.out 0
      have hfz7_1 := blk_frozen BK310.out 1
      have hfz7_2 := blk_frozen BK310.out 2
      have hfz7_3 := blk_frozen BK310.out 3
      have hfz7_4 := blk_frozen BK310.out 4
      have hfz7_5 := blk_frozen BK310.out 5
      have hfz7_6 := blk_frozen BK310.out 6
      have hfz7_7 := blk_frozen BK310.out 7
      have hfz7_8 := blk_frozen BK310.out 8
      go_wp2_with (first | ((with_reducible refine gate_callee (f := 14) rfl ?_); refine goesL_ (some 5) rfl rfl Tryz.func14 (by kernel_rfl) rfl #[.string a0_0] rfl (by (try simp only [List.map_toArray, List.map_cons, List.map_nil]); first | done | rfl | (simp only [List.length_drop, List.length_take]; rfl)) ?_; (with_reducible refine (tollhouseref15_May.calls k a0_0 true _ A4.out).mono ?_); rintro e w' ⟨rfl, ⟨nd, rfl⟩⟩; refine ⟨_, rfl, ?_⟩) | (go_at_call 26; (with_reducible refine (tollhouseref14_All.calls k _ _ l0_1 t312 _ ?side1 ?side2 A6.out).mono ?_); (case side1 => repeat (first | exact (Kd.C_below HR0_1.out (by repeat (first | (with_reducible first | exact HB.out | apply below_alloc | apply pw_below_drewN | apply below_drew1 | refine below_set ?_ GE310.out) | exact HB.out))) | (with_reducible refine Kd.C_alloc ?_ _) | (with_reducible refine Kd.C_drewN ?_ _) | (with_reducible refine Kd.C_drew ?_))); (case side2 => exact HC0_1.out); rintro e w8 ⟨rfl, hb⟩; have n0_ := Aside0.mk (blk_below (g := gb310) (o := .cells #[.string a0_0, .slice A0_1 l0_1.length c0_1, .int .i64 a0_2, .int .i64 a0_3, .int .i64 a0_4, .int .i64 a0_5, .int .i64 a0_6, .int .i64 a0_7, .int .i64 a0_8] 27 (0, 0)) (by (with_reducible repeat (first | refine blk_drewN ?_ _ | refine blk_drew ?_ | refine blk_alloc ?_ _)); exact BK310.out) hb); have n1_ := Aside0.mk (below_step (by repeat (first | (with_reducible first | exact HB.out | apply below_alloc | apply pw_below_drewN | apply below_drew1 | refine below_set ?_ GE310.out) | exact HB.out)) hb); clear BK310; clear HB; have BK310 := n0_; have HB := n1_; clear n0_ n1_; (try clear hb); (try clear hb2); (try clear hk); (try clear hi)))
      go_meet
      case rel => exact ⟨_, (!t312), (by first | rfl | (simp; done) | (simp [*]; done)), H', ⟨by first | omega | exact Nat.le_refl _⟩, ⟨by (with_reducible repeat (first | refine blk_drewN ?_ _ | refine blk_drew ?_ | refine blk_alloc ?_ _)); exact BK310.out⟩, ⟨by repeat (first | (with_reducible first | exact HB.out | apply below_alloc | apply pw_below_drewN | apply below_drew1 | refine below_set ?_ GE310.out) | exact HB.out)⟩⟩
    · replace c5 := Bool.eq_false_iff.mpr c5
      subst c5
      have H1 : (tollhouseref15_Tenant.j0 k true a0_0 l0_1 a0_2 a0_3 a0_4 a0_5 a0_6 a0_7 a0_8) = some r := by rw [if_neg (show ¬ (false = true) by decide)] at H; exact H
      clear H
      have H := H1
      clear H1
      have H' := Aside0.mk H
      clear H
      have hcz9_0 : w3.cell? ⟨gb310, 0, none⟩ = some (.string a0_0) := (blk_cell BK310.out 0).trans rfl
      have hcz9_1 : w3.cell? ⟨gb310, 1, none⟩ = some (.slice A0_1 l0_1.length c0_1) := (blk_cell BK310.out 1).trans rfl
      have hcz9_2 : w3.cell? ⟨gb310, 2, none⟩ = some (.int .i64 a0_2) := (blk_cell BK310.out 2).trans rfl
      have hcz9_3 : w3.cell? ⟨gb310, 3, none⟩ = some (.int .i64 a0_3) := (blk_cell BK310.out 3).trans rfl
      have hcz9_4 : w3.cell? ⟨gb310, 4, none⟩ = some (.int .i64 a0_4) := (blk_cell BK310.out 4).trans rfl
      have hcz9_5 : w3.cell? ⟨gb310, 5, none⟩ = some (.int .i64 a0_5) := (blk_cell BK310.out 5).trans rfl
      have hcz9_6 : w3.cell? ⟨gb310, 6, none⟩ = some (.int .i64 a0_6) := (blk_cell BK310.out 6).trans rfl
      have hcz9_7 : w3.cell? ⟨gb310, 7, none⟩ = some (.int .i64 a0_7) := (blk_cell BK310.out 7).trans rfl
      have hcz9_8 : w3.cell? ⟨gb310, 8, none⟩ = some (.int .i64 a0_8) := (blk_cell BK310.out 8).trans rfl
      have hfz9_0 := blk_frozen BK310.out 0
      have hfz9_1 := blk_frozen BK310.out 1
      have hfz9_2 := blk_frozen BK310.out 2
      have hfz9_3 := blk_frozen BK310.out 3
      have hfz9_4 := blk_frozen BK310.out 4
      have hfz9_5 := blk_frozen BK310.out 5
      have hfz9_6 := blk_frozen BK310.out 6
      have hfz9_7 := blk_frozen BK310.out 7
      have hfz9_8 := blk_frozen BK310.out 8
      go_wp2_with (first | ((with_reducible refine gate_callee (f := 14) rfl ?_); refine goesL_ (some 5) rfl rfl Tryz.func14 (by kernel_rfl) rfl #[.string a0_0] rfl (by (try simp only [List.map_toArray, List.map_cons, List.map_nil]); first | done | rfl | (simp only [List.length_drop, List.length_take]; rfl)) ?_; (with_reducible refine (tollhouseref15_May.calls k a0_0 false _ A4.out).mono ?_); rintro e w' ⟨rfl, ⟨nd, rfl⟩⟩; refine ⟨_, rfl, ?_⟩))
      go_meet
      case rel => exact ⟨_, (true), (by first | rfl | (simp; done) | (simp [*]; done)), H', ⟨by first | omega | exact Nat.le_refl _⟩, ⟨by (with_reducible repeat (first | refine blk_drewN ?_ _ | refine blk_drew ?_ | refine blk_alloc ?_ _)); exact BK310.out⟩, ⟨by repeat (first | (with_reducible first | exact HB.out | apply below_alloc | apply pw_below_drewN | apply below_drew1 | refine below_set ?_ GE310.out) | exact HB.out)⟩⟩
  case rest =>
    clear HC2
    try clear c1
    try clear p2
    try clear c5
    try clear hcz7_0
    try clear hcz7_1
    try clear hcz7_2
    try clear hcz7_3
    try clear hcz7_4
    try clear hcz7_5
    try clear hcz7_6
    try clear hcz7_7
    try clear hcz7_8
    try clear hcz9_0
    try clear hcz9_1
    try clear hcz9_2
    try clear hcz9_3
    try clear hcz9_4
    try clear hcz9_5
    try clear hcz9_6
    try clear hcz9_7
    try clear hcz9_8
    try clear hfz7_0
    try clear hfz7_1
    try clear hfz7_2
    try clear hfz7_3
    try clear hfz7_4
    try clear hfz7_5
    try clear hfz7_6
    try clear hfz7_7
    try clear hfz7_8
    try clear hfz9_0
    try clear hfz9_1
    try clear hfz9_2
    try clear hfz9_3
    try clear hfz9_4
    try clear hfz9_5
    try clear hfz9_6
    try clear hfz9_7
    try clear hfz9_8
    obtain ⟨kq, x12_1, rfl, HA, HJ1, BK310, HB⟩ := hcut
    cases kq with
    | zero => exact absurd HA.out (by simp [tollhouseref15_Tenant.j0])
    | succ kj1 =>
      have H := HA.out
      clear HA
      simp only [tollhouseref15_Tenant.j0] at H
      by_cases c10 : x12_1 = true
      · subst c10
        have H1 : (some false) = some r := by rw [if_pos rfl] at H; exact H
        clear H
        have H := H1
        clear H1
        obtain rfl := Option.some.inj H
        go_wp2
        go_ret
        exact ⟨by first | rfl | (simp [errW_none, errW_some] <;> rfl) | (simp [*, errW_none, errW_some] <;> rfl), by repeat (first | (with_reducible first | exact HB.out | apply below_alloc | apply pw_below_drewN | apply below_drew1 | refine below_set ?_ GE310.out) | exact HB.out)⟩
      · replace c10 := Bool.eq_false_iff.mpr c10
        subst c10
        have H1 : (if a0_2 < 0 then (some false) else (if a0_2 > 262144 then (some false) else (if a0_3 < 0 then (some false) else (if a0_3 > 64 then (some false) else (if a0_4 < 1 then (some false) else (if a0_4 > 16 then (some false) else (if a0_5 < 1 then (some false) else (if a0_5 > 8 then (some false) else (if a0_6 ≥ 0 then (if a0_6 ≤ 16 then (if a0_7 ≥ 1 then (if a0_7 ≤ 1000 then (if a0_8 ≥ 1 then (some (decide (a0_8 ≤ 1000))) else (some false)) else (some false)) else (some false)) else (some false)) else (some false)))))))))) = some r := by rw [if_neg (show ¬ (false = true) by decide)] at H; exact H
        clear H
        have H := H1
        clear H1
        by_cases c11 : a0_2 < 0
        · rw [if_pos c11] at H
          have c11b0 : decide (a0_2 < 0) = true := decide_eq_true c11
          clear c11
          obtain rfl := Option.some.inj H
          have hcz12_0 : wc.cell? ⟨gb310, 0, none⟩ = some (.string a0_0) := (blk_cell BK310.out 0).trans rfl
          have hcz12_1 : wc.cell? ⟨gb310, 1, none⟩ = some (.slice A0_1 l0_1.length c0_1) := (blk_cell BK310.out 1).trans rfl
          have hcz12_2 : wc.cell? ⟨gb310, 2, none⟩ = some (.int .i64 a0_2) := (blk_cell BK310.out 2).trans rfl
          have hcz12_3 : wc.cell? ⟨gb310, 3, none⟩ = some (.int .i64 a0_3) := (blk_cell BK310.out 3).trans rfl
          have hcz12_4 : wc.cell? ⟨gb310, 4, none⟩ = some (.int .i64 a0_4) := (blk_cell BK310.out 4).trans rfl
          have hcz12_5 : wc.cell? ⟨gb310, 5, none⟩ = some (.int .i64 a0_5) := (blk_cell BK310.out 5).trans rfl
          have hcz12_6 : wc.cell? ⟨gb310, 6, none⟩ = some (.int .i64 a0_6) := (blk_cell BK310.out 6).trans rfl
          have hcz12_7 : wc.cell? ⟨gb310, 7, none⟩ = some (.int .i64 a0_7) := (blk_cell BK310.out 7).trans rfl
          have hcz12_8 : wc.cell? ⟨gb310, 8, none⟩ = some (.int .i64 a0_8) := (blk_cell BK310.out 8).trans rfl
          have hfz12_0 := blk_frozen BK310.out 0
          have hfz12_1 := blk_frozen BK310.out 1
          have hfz12_2 := blk_frozen BK310.out 2
          have hfz12_3 := blk_frozen BK310.out 3
          have hfz12_4 := blk_frozen BK310.out 4
          have hfz12_5 := blk_frozen BK310.out 5
          have hfz12_6 := blk_frozen BK310.out 6
          have hfz12_7 := blk_frozen BK310.out 7
          have hfz12_8 := blk_frozen BK310.out 8
          go_wp2
          go_ret
          exact ⟨by first | rfl | (simp [errW_none, errW_some] <;> rfl) | (simp [*, errW_none, errW_some] <;> rfl), by repeat (first | (with_reducible first | exact HB.out | apply below_alloc | apply pw_below_drewN | apply below_drew1 | refine below_set ?_ GE310.out) | exact HB.out)⟩
        · rw [if_neg c11] at H
          have c11b0 : decide (a0_2 < 0) = false := decide_eq_false c11
          clear c11
          by_cases c13 : a0_2 > 262144
          · rw [if_pos c13] at H
            have c13b0 : decide (262144 < a0_2) = true := decide_eq_true c13
            clear c13
            obtain rfl := Option.some.inj H
            have hcz14_0 : wc.cell? ⟨gb310, 0, none⟩ = some (.string a0_0) := (blk_cell BK310.out 0).trans rfl
            have hcz14_1 : wc.cell? ⟨gb310, 1, none⟩ = some (.slice A0_1 l0_1.length c0_1) := (blk_cell BK310.out 1).trans rfl
            have hcz14_2 : wc.cell? ⟨gb310, 2, none⟩ = some (.int .i64 a0_2) := (blk_cell BK310.out 2).trans rfl
            have hcz14_3 : wc.cell? ⟨gb310, 3, none⟩ = some (.int .i64 a0_3) := (blk_cell BK310.out 3).trans rfl
            have hcz14_4 : wc.cell? ⟨gb310, 4, none⟩ = some (.int .i64 a0_4) := (blk_cell BK310.out 4).trans rfl
            have hcz14_5 : wc.cell? ⟨gb310, 5, none⟩ = some (.int .i64 a0_5) := (blk_cell BK310.out 5).trans rfl
            have hcz14_6 : wc.cell? ⟨gb310, 6, none⟩ = some (.int .i64 a0_6) := (blk_cell BK310.out 6).trans rfl
            have hcz14_7 : wc.cell? ⟨gb310, 7, none⟩ = some (.int .i64 a0_7) := (blk_cell BK310.out 7).trans rfl
            have hcz14_8 : wc.cell? ⟨gb310, 8, none⟩ = some (.int .i64 a0_8) := (blk_cell BK310.out 8).trans rfl
            have hfz14_0 := blk_frozen BK310.out 0
            have hfz14_1 := blk_frozen BK310.out 1
            have hfz14_2 := blk_frozen BK310.out 2
            have hfz14_3 := blk_frozen BK310.out 3
            have hfz14_4 := blk_frozen BK310.out 4
            have hfz14_5 := blk_frozen BK310.out 5
            have hfz14_6 := blk_frozen BK310.out 6
            have hfz14_7 := blk_frozen BK310.out 7
            have hfz14_8 := blk_frozen BK310.out 8
            go_wp2
            go_ret
            exact ⟨by first | rfl | (simp [errW_none, errW_some] <;> rfl) | (simp [*, errW_none, errW_some] <;> rfl), by repeat (first | (with_reducible first | exact HB.out | apply below_alloc | apply pw_below_drewN | apply below_drew1 | refine below_set ?_ GE310.out) | exact HB.out)⟩
          · rw [if_neg c13] at H
            have c13b0 : decide (262144 < a0_2) = false := decide_eq_false c13
            clear c13
            by_cases c15 : a0_3 < 0
            · rw [if_pos c15] at H
              have c15b0 : decide (a0_3 < 0) = true := decide_eq_true c15
              clear c15
              obtain rfl := Option.some.inj H
              have hcz16_0 : wc.cell? ⟨gb310, 0, none⟩ = some (.string a0_0) := (blk_cell BK310.out 0).trans rfl
              have hcz16_1 : wc.cell? ⟨gb310, 1, none⟩ = some (.slice A0_1 l0_1.length c0_1) := (blk_cell BK310.out 1).trans rfl
              have hcz16_2 : wc.cell? ⟨gb310, 2, none⟩ = some (.int .i64 a0_2) := (blk_cell BK310.out 2).trans rfl
              have hcz16_3 : wc.cell? ⟨gb310, 3, none⟩ = some (.int .i64 a0_3) := (blk_cell BK310.out 3).trans rfl
              have hcz16_4 : wc.cell? ⟨gb310, 4, none⟩ = some (.int .i64 a0_4) := (blk_cell BK310.out 4).trans rfl
              have hcz16_5 : wc.cell? ⟨gb310, 5, none⟩ = some (.int .i64 a0_5) := (blk_cell BK310.out 5).trans rfl
              have hcz16_6 : wc.cell? ⟨gb310, 6, none⟩ = some (.int .i64 a0_6) := (blk_cell BK310.out 6).trans rfl
              have hcz16_7 : wc.cell? ⟨gb310, 7, none⟩ = some (.int .i64 a0_7) := (blk_cell BK310.out 7).trans rfl
              have hcz16_8 : wc.cell? ⟨gb310, 8, none⟩ = some (.int .i64 a0_8) := (blk_cell BK310.out 8).trans rfl
              have hfz16_0 := blk_frozen BK310.out 0
              have hfz16_1 := blk_frozen BK310.out 1
              have hfz16_2 := blk_frozen BK310.out 2
              have hfz16_3 := blk_frozen BK310.out 3
              have hfz16_4 := blk_frozen BK310.out 4
              have hfz16_5 := blk_frozen BK310.out 5
              have hfz16_6 := blk_frozen BK310.out 6
              have hfz16_7 := blk_frozen BK310.out 7
              have hfz16_8 := blk_frozen BK310.out 8
              go_wp2
              go_ret
              exact ⟨by first | rfl | (simp [errW_none, errW_some] <;> rfl) | (simp [*, errW_none, errW_some] <;> rfl), by repeat (first | (with_reducible first | exact HB.out | apply below_alloc | apply pw_below_drewN | apply below_drew1 | refine below_set ?_ GE310.out) | exact HB.out)⟩
            · rw [if_neg c15] at H
              have c15b0 : decide (a0_3 < 0) = false := decide_eq_false c15
              clear c15
              by_cases c17 : a0_3 > 64
              · rw [if_pos c17] at H
                have c17b0 : decide (64 < a0_3) = true := decide_eq_true c17
                clear c17
                obtain rfl := Option.some.inj H
                have hcz18_0 : wc.cell? ⟨gb310, 0, none⟩ = some (.string a0_0) := (blk_cell BK310.out 0).trans rfl
                have hcz18_1 : wc.cell? ⟨gb310, 1, none⟩ = some (.slice A0_1 l0_1.length c0_1) := (blk_cell BK310.out 1).trans rfl
                have hcz18_2 : wc.cell? ⟨gb310, 2, none⟩ = some (.int .i64 a0_2) := (blk_cell BK310.out 2).trans rfl
                have hcz18_3 : wc.cell? ⟨gb310, 3, none⟩ = some (.int .i64 a0_3) := (blk_cell BK310.out 3).trans rfl
                have hcz18_4 : wc.cell? ⟨gb310, 4, none⟩ = some (.int .i64 a0_4) := (blk_cell BK310.out 4).trans rfl
                have hcz18_5 : wc.cell? ⟨gb310, 5, none⟩ = some (.int .i64 a0_5) := (blk_cell BK310.out 5).trans rfl
                have hcz18_6 : wc.cell? ⟨gb310, 6, none⟩ = some (.int .i64 a0_6) := (blk_cell BK310.out 6).trans rfl
                have hcz18_7 : wc.cell? ⟨gb310, 7, none⟩ = some (.int .i64 a0_7) := (blk_cell BK310.out 7).trans rfl
                have hcz18_8 : wc.cell? ⟨gb310, 8, none⟩ = some (.int .i64 a0_8) := (blk_cell BK310.out 8).trans rfl
                have hfz18_0 := blk_frozen BK310.out 0
                have hfz18_1 := blk_frozen BK310.out 1
                have hfz18_2 := blk_frozen BK310.out 2
                have hfz18_3 := blk_frozen BK310.out 3
                have hfz18_4 := blk_frozen BK310.out 4
                have hfz18_5 := blk_frozen BK310.out 5
                have hfz18_6 := blk_frozen BK310.out 6
                have hfz18_7 := blk_frozen BK310.out 7
                have hfz18_8 := blk_frozen BK310.out 8
                go_wp2
                go_ret
                exact ⟨by first | rfl | (simp [errW_none, errW_some] <;> rfl) | (simp [*, errW_none, errW_some] <;> rfl), by repeat (first | (with_reducible first | exact HB.out | apply below_alloc | apply pw_below_drewN | apply below_drew1 | refine below_set ?_ GE310.out) | exact HB.out)⟩
              · rw [if_neg c17] at H
                have c17b0 : decide (64 < a0_3) = false := decide_eq_false c17
                clear c17
                by_cases c19 : a0_4 < 1
                · rw [if_pos c19] at H
                  have c19b0 : decide (a0_4 < 1) = true := decide_eq_true c19
                  clear c19
                  obtain rfl := Option.some.inj H
                  have hcz20_0 : wc.cell? ⟨gb310, 0, none⟩ = some (.string a0_0) := (blk_cell BK310.out 0).trans rfl
                  have hcz20_1 : wc.cell? ⟨gb310, 1, none⟩ = some (.slice A0_1 l0_1.length c0_1) := (blk_cell BK310.out 1).trans rfl
                  have hcz20_2 : wc.cell? ⟨gb310, 2, none⟩ = some (.int .i64 a0_2) := (blk_cell BK310.out 2).trans rfl
                  have hcz20_3 : wc.cell? ⟨gb310, 3, none⟩ = some (.int .i64 a0_3) := (blk_cell BK310.out 3).trans rfl
                  have hcz20_4 : wc.cell? ⟨gb310, 4, none⟩ = some (.int .i64 a0_4) := (blk_cell BK310.out 4).trans rfl
                  have hcz20_5 : wc.cell? ⟨gb310, 5, none⟩ = some (.int .i64 a0_5) := (blk_cell BK310.out 5).trans rfl
                  have hcz20_6 : wc.cell? ⟨gb310, 6, none⟩ = some (.int .i64 a0_6) := (blk_cell BK310.out 6).trans rfl
                  have hcz20_7 : wc.cell? ⟨gb310, 7, none⟩ = some (.int .i64 a0_7) := (blk_cell BK310.out 7).trans rfl
                  have hcz20_8 : wc.cell? ⟨gb310, 8, none⟩ = some (.int .i64 a0_8) := (blk_cell BK310.out 8).trans rfl
                  have hfz20_0 := blk_frozen BK310.out 0
                  have hfz20_1 := blk_frozen BK310.out 1
                  have hfz20_2 := blk_frozen BK310.out 2
                  have hfz20_3 := blk_frozen BK310.out 3
                  have hfz20_4 := blk_frozen BK310.out 4
                  have hfz20_5 := blk_frozen BK310.out 5
                  have hfz20_6 := blk_frozen BK310.out 6
                  have hfz20_7 := blk_frozen BK310.out 7
                  have hfz20_8 := blk_frozen BK310.out 8
                  go_wp2
                  go_ret
                  exact ⟨by first | rfl | (simp [errW_none, errW_some] <;> rfl) | (simp [*, errW_none, errW_some] <;> rfl), by repeat (first | (with_reducible first | exact HB.out | apply below_alloc | apply pw_below_drewN | apply below_drew1 | refine below_set ?_ GE310.out) | exact HB.out)⟩
                · rw [if_neg c19] at H
                  have c19b0 : decide (a0_4 < 1) = false := decide_eq_false c19
                  clear c19
                  by_cases c21 : a0_4 > 16
                  · rw [if_pos c21] at H
                    have c21b0 : decide (16 < a0_4) = true := decide_eq_true c21
                    clear c21
                    obtain rfl := Option.some.inj H
                    have hcz22_0 : wc.cell? ⟨gb310, 0, none⟩ = some (.string a0_0) := (blk_cell BK310.out 0).trans rfl
                    have hcz22_1 : wc.cell? ⟨gb310, 1, none⟩ = some (.slice A0_1 l0_1.length c0_1) := (blk_cell BK310.out 1).trans rfl
                    have hcz22_2 : wc.cell? ⟨gb310, 2, none⟩ = some (.int .i64 a0_2) := (blk_cell BK310.out 2).trans rfl
                    have hcz22_3 : wc.cell? ⟨gb310, 3, none⟩ = some (.int .i64 a0_3) := (blk_cell BK310.out 3).trans rfl
                    have hcz22_4 : wc.cell? ⟨gb310, 4, none⟩ = some (.int .i64 a0_4) := (blk_cell BK310.out 4).trans rfl
                    have hcz22_5 : wc.cell? ⟨gb310, 5, none⟩ = some (.int .i64 a0_5) := (blk_cell BK310.out 5).trans rfl
                    have hcz22_6 : wc.cell? ⟨gb310, 6, none⟩ = some (.int .i64 a0_6) := (blk_cell BK310.out 6).trans rfl
                    have hcz22_7 : wc.cell? ⟨gb310, 7, none⟩ = some (.int .i64 a0_7) := (blk_cell BK310.out 7).trans rfl
                    have hcz22_8 : wc.cell? ⟨gb310, 8, none⟩ = some (.int .i64 a0_8) := (blk_cell BK310.out 8).trans rfl
                    have hfz22_0 := blk_frozen BK310.out 0
                    have hfz22_1 := blk_frozen BK310.out 1
                    have hfz22_2 := blk_frozen BK310.out 2
                    have hfz22_3 := blk_frozen BK310.out 3
                    have hfz22_4 := blk_frozen BK310.out 4
                    have hfz22_5 := blk_frozen BK310.out 5
                    have hfz22_6 := blk_frozen BK310.out 6
                    have hfz22_7 := blk_frozen BK310.out 7
                    have hfz22_8 := blk_frozen BK310.out 8
                    go_wp2
                    go_ret
                    exact ⟨by first | rfl | (simp [errW_none, errW_some] <;> rfl) | (simp [*, errW_none, errW_some] <;> rfl), by repeat (first | (with_reducible first | exact HB.out | apply below_alloc | apply pw_below_drewN | apply below_drew1 | refine below_set ?_ GE310.out) | exact HB.out)⟩
                  · rw [if_neg c21] at H
                    have c21b0 : decide (16 < a0_4) = false := decide_eq_false c21
                    clear c21
                    by_cases c23 : a0_5 < 1
                    · rw [if_pos c23] at H
                      have c23b0 : decide (a0_5 < 1) = true := decide_eq_true c23
                      clear c23
                      obtain rfl := Option.some.inj H
                      have hcz24_0 : wc.cell? ⟨gb310, 0, none⟩ = some (.string a0_0) := (blk_cell BK310.out 0).trans rfl
                      have hcz24_1 : wc.cell? ⟨gb310, 1, none⟩ = some (.slice A0_1 l0_1.length c0_1) := (blk_cell BK310.out 1).trans rfl
                      have hcz24_2 : wc.cell? ⟨gb310, 2, none⟩ = some (.int .i64 a0_2) := (blk_cell BK310.out 2).trans rfl
                      have hcz24_3 : wc.cell? ⟨gb310, 3, none⟩ = some (.int .i64 a0_3) := (blk_cell BK310.out 3).trans rfl
                      have hcz24_4 : wc.cell? ⟨gb310, 4, none⟩ = some (.int .i64 a0_4) := (blk_cell BK310.out 4).trans rfl
                      have hcz24_5 : wc.cell? ⟨gb310, 5, none⟩ = some (.int .i64 a0_5) := (blk_cell BK310.out 5).trans rfl
                      have hcz24_6 : wc.cell? ⟨gb310, 6, none⟩ = some (.int .i64 a0_6) := (blk_cell BK310.out 6).trans rfl
                      have hcz24_7 : wc.cell? ⟨gb310, 7, none⟩ = some (.int .i64 a0_7) := (blk_cell BK310.out 7).trans rfl
                      have hcz24_8 : wc.cell? ⟨gb310, 8, none⟩ = some (.int .i64 a0_8) := (blk_cell BK310.out 8).trans rfl
                      have hfz24_0 := blk_frozen BK310.out 0
                      have hfz24_1 := blk_frozen BK310.out 1
                      have hfz24_2 := blk_frozen BK310.out 2
                      have hfz24_3 := blk_frozen BK310.out 3
                      have hfz24_4 := blk_frozen BK310.out 4
                      have hfz24_5 := blk_frozen BK310.out 5
                      have hfz24_6 := blk_frozen BK310.out 6
                      have hfz24_7 := blk_frozen BK310.out 7
                      have hfz24_8 := blk_frozen BK310.out 8
                      go_wp2
                      go_ret
                      exact ⟨by first | rfl | (simp [errW_none, errW_some] <;> rfl) | (simp [*, errW_none, errW_some] <;> rfl), by repeat (first | (with_reducible first | exact HB.out | apply below_alloc | apply pw_below_drewN | apply below_drew1 | refine below_set ?_ GE310.out) | exact HB.out)⟩
                    · rw [if_neg c23] at H
                      have c23b0 : decide (a0_5 < 1) = false := decide_eq_false c23
                      clear c23
                      by_cases c25 : a0_5 > 8
                      · rw [if_pos c25] at H
                        have c25b0 : decide (8 < a0_5) = true := decide_eq_true c25
                        clear c25
                        obtain rfl := Option.some.inj H
                        have hcz26_0 : wc.cell? ⟨gb310, 0, none⟩ = some (.string a0_0) := (blk_cell BK310.out 0).trans rfl
                        have hcz26_1 : wc.cell? ⟨gb310, 1, none⟩ = some (.slice A0_1 l0_1.length c0_1) := (blk_cell BK310.out 1).trans rfl
                        have hcz26_2 : wc.cell? ⟨gb310, 2, none⟩ = some (.int .i64 a0_2) := (blk_cell BK310.out 2).trans rfl
                        have hcz26_3 : wc.cell? ⟨gb310, 3, none⟩ = some (.int .i64 a0_3) := (blk_cell BK310.out 3).trans rfl
                        have hcz26_4 : wc.cell? ⟨gb310, 4, none⟩ = some (.int .i64 a0_4) := (blk_cell BK310.out 4).trans rfl
                        have hcz26_5 : wc.cell? ⟨gb310, 5, none⟩ = some (.int .i64 a0_5) := (blk_cell BK310.out 5).trans rfl
                        have hcz26_6 : wc.cell? ⟨gb310, 6, none⟩ = some (.int .i64 a0_6) := (blk_cell BK310.out 6).trans rfl
                        have hcz26_7 : wc.cell? ⟨gb310, 7, none⟩ = some (.int .i64 a0_7) := (blk_cell BK310.out 7).trans rfl
                        have hcz26_8 : wc.cell? ⟨gb310, 8, none⟩ = some (.int .i64 a0_8) := (blk_cell BK310.out 8).trans rfl
                        have hfz26_0 := blk_frozen BK310.out 0
                        have hfz26_1 := blk_frozen BK310.out 1
                        have hfz26_2 := blk_frozen BK310.out 2
                        have hfz26_3 := blk_frozen BK310.out 3
                        have hfz26_4 := blk_frozen BK310.out 4
                        have hfz26_5 := blk_frozen BK310.out 5
                        have hfz26_6 := blk_frozen BK310.out 6
                        have hfz26_7 := blk_frozen BK310.out 7
                        have hfz26_8 := blk_frozen BK310.out 8
                        go_wp2
                        go_ret
                        exact ⟨by first | rfl | (simp [errW_none, errW_some] <;> rfl) | (simp [*, errW_none, errW_some] <;> rfl), by repeat (first | (with_reducible first | exact HB.out | apply below_alloc | apply pw_below_drewN | apply below_drew1 | refine below_set ?_ GE310.out) | exact HB.out)⟩
                      · rw [if_neg c25] at H
                        have c25b0 : decide (8 < a0_5) = false := decide_eq_false c25
                        clear c25
                        by_cases c27 : a0_6 ≥ 0
                        · rw [if_pos c27] at H
                          have c27b0 : decide (0 ≤ a0_6) = true := decide_eq_true c27
                          clear c27
                          by_cases c28 : a0_6 ≤ 16
                          · rw [if_pos c28] at H
                            have c28b0 : decide (a0_6 ≤ 16) = true := decide_eq_true c28
                            clear c28
                            by_cases c29 : a0_7 ≥ 1
                            · rw [if_pos c29] at H
                              have c29b0 : decide (1 ≤ a0_7) = true := decide_eq_true c29
                              clear c29
                              by_cases c30 : a0_7 ≤ 1000
                              · rw [if_pos c30] at H
                                have c30b0 : decide (a0_7 ≤ 1000) = true := decide_eq_true c30
                                clear c30
                                by_cases c31 : a0_8 ≥ 1
                                · rw [if_pos c31] at H
                                  have c31b0 : decide (1 ≤ a0_8) = true := decide_eq_true c31
                                  clear c31
                                  obtain rfl := Option.some.inj H
                                  have hcz32_0 : wc.cell? ⟨gb310, 0, none⟩ = some (.string a0_0) := (blk_cell BK310.out 0).trans rfl
                                  have hcz32_1 : wc.cell? ⟨gb310, 1, none⟩ = some (.slice A0_1 l0_1.length c0_1) := (blk_cell BK310.out 1).trans rfl
                                  have hcz32_2 : wc.cell? ⟨gb310, 2, none⟩ = some (.int .i64 a0_2) := (blk_cell BK310.out 2).trans rfl
                                  have hcz32_3 : wc.cell? ⟨gb310, 3, none⟩ = some (.int .i64 a0_3) := (blk_cell BK310.out 3).trans rfl
                                  have hcz32_4 : wc.cell? ⟨gb310, 4, none⟩ = some (.int .i64 a0_4) := (blk_cell BK310.out 4).trans rfl
                                  have hcz32_5 : wc.cell? ⟨gb310, 5, none⟩ = some (.int .i64 a0_5) := (blk_cell BK310.out 5).trans rfl
                                  have hcz32_6 : wc.cell? ⟨gb310, 6, none⟩ = some (.int .i64 a0_6) := (blk_cell BK310.out 6).trans rfl
                                  have hcz32_7 : wc.cell? ⟨gb310, 7, none⟩ = some (.int .i64 a0_7) := (blk_cell BK310.out 7).trans rfl
                                  have hcz32_8 : wc.cell? ⟨gb310, 8, none⟩ = some (.int .i64 a0_8) := (blk_cell BK310.out 8).trans rfl
                                  have hfz32_0 := blk_frozen BK310.out 0
                                  have hfz32_1 := blk_frozen BK310.out 1
                                  have hfz32_2 := blk_frozen BK310.out 2
                                  have hfz32_3 := blk_frozen BK310.out 3
                                  have hfz32_4 := blk_frozen BK310.out 4
                                  have hfz32_5 := blk_frozen BK310.out 5
                                  have hfz32_6 := blk_frozen BK310.out 6
                                  have hfz32_7 := blk_frozen BK310.out 7
                                  have hfz32_8 := blk_frozen BK310.out 8
                                  go_wp2
                                  go_ret
                                  exact ⟨by first | rfl | (simp [errW_none, errW_some] <;> rfl) | (simp [*, errW_none, errW_some] <;> rfl), by repeat (first | (with_reducible first | exact HB.out | apply below_alloc | apply pw_below_drewN | apply below_drew1 | refine below_set ?_ GE310.out) | exact HB.out)⟩
                                · rw [if_neg c31] at H
                                  have c31b0 : decide (1 ≤ a0_8) = false := decide_eq_false c31
                                  clear c31
                                  obtain rfl := Option.some.inj H
                                  have hcz33_0 : wc.cell? ⟨gb310, 0, none⟩ = some (.string a0_0) := (blk_cell BK310.out 0).trans rfl
                                  have hcz33_1 : wc.cell? ⟨gb310, 1, none⟩ = some (.slice A0_1 l0_1.length c0_1) := (blk_cell BK310.out 1).trans rfl
                                  have hcz33_2 : wc.cell? ⟨gb310, 2, none⟩ = some (.int .i64 a0_2) := (blk_cell BK310.out 2).trans rfl
                                  have hcz33_3 : wc.cell? ⟨gb310, 3, none⟩ = some (.int .i64 a0_3) := (blk_cell BK310.out 3).trans rfl
                                  have hcz33_4 : wc.cell? ⟨gb310, 4, none⟩ = some (.int .i64 a0_4) := (blk_cell BK310.out 4).trans rfl
                                  have hcz33_5 : wc.cell? ⟨gb310, 5, none⟩ = some (.int .i64 a0_5) := (blk_cell BK310.out 5).trans rfl
                                  have hcz33_6 : wc.cell? ⟨gb310, 6, none⟩ = some (.int .i64 a0_6) := (blk_cell BK310.out 6).trans rfl
                                  have hcz33_7 : wc.cell? ⟨gb310, 7, none⟩ = some (.int .i64 a0_7) := (blk_cell BK310.out 7).trans rfl
                                  have hcz33_8 : wc.cell? ⟨gb310, 8, none⟩ = some (.int .i64 a0_8) := (blk_cell BK310.out 8).trans rfl
                                  have hfz33_0 := blk_frozen BK310.out 0
                                  have hfz33_1 := blk_frozen BK310.out 1
                                  have hfz33_2 := blk_frozen BK310.out 2
                                  have hfz33_3 := blk_frozen BK310.out 3
                                  have hfz33_4 := blk_frozen BK310.out 4
                                  have hfz33_5 := blk_frozen BK310.out 5
                                  have hfz33_6 := blk_frozen BK310.out 6
                                  have hfz33_7 := blk_frozen BK310.out 7
                                  have hfz33_8 := blk_frozen BK310.out 8
                                  go_wp2
                                  go_ret
                                  exact ⟨by first | rfl | (simp [errW_none, errW_some] <;> rfl) | (simp [*, errW_none, errW_some] <;> rfl), by repeat (first | (with_reducible first | exact HB.out | apply below_alloc | apply pw_below_drewN | apply below_drew1 | refine below_set ?_ GE310.out) | exact HB.out)⟩
                              · rw [if_neg c30] at H
                                have c30b0 : decide (a0_7 ≤ 1000) = false := decide_eq_false c30
                                clear c30
                                obtain rfl := Option.some.inj H
                                have hcz34_0 : wc.cell? ⟨gb310, 0, none⟩ = some (.string a0_0) := (blk_cell BK310.out 0).trans rfl
                                have hcz34_1 : wc.cell? ⟨gb310, 1, none⟩ = some (.slice A0_1 l0_1.length c0_1) := (blk_cell BK310.out 1).trans rfl
                                have hcz34_2 : wc.cell? ⟨gb310, 2, none⟩ = some (.int .i64 a0_2) := (blk_cell BK310.out 2).trans rfl
                                have hcz34_3 : wc.cell? ⟨gb310, 3, none⟩ = some (.int .i64 a0_3) := (blk_cell BK310.out 3).trans rfl
                                have hcz34_4 : wc.cell? ⟨gb310, 4, none⟩ = some (.int .i64 a0_4) := (blk_cell BK310.out 4).trans rfl
                                have hcz34_5 : wc.cell? ⟨gb310, 5, none⟩ = some (.int .i64 a0_5) := (blk_cell BK310.out 5).trans rfl
                                have hcz34_6 : wc.cell? ⟨gb310, 6, none⟩ = some (.int .i64 a0_6) := (blk_cell BK310.out 6).trans rfl
                                have hcz34_7 : wc.cell? ⟨gb310, 7, none⟩ = some (.int .i64 a0_7) := (blk_cell BK310.out 7).trans rfl
                                have hcz34_8 : wc.cell? ⟨gb310, 8, none⟩ = some (.int .i64 a0_8) := (blk_cell BK310.out 8).trans rfl
                                have hfz34_0 := blk_frozen BK310.out 0
                                have hfz34_1 := blk_frozen BK310.out 1
                                have hfz34_2 := blk_frozen BK310.out 2
                                have hfz34_3 := blk_frozen BK310.out 3
                                have hfz34_4 := blk_frozen BK310.out 4
                                have hfz34_5 := blk_frozen BK310.out 5
                                have hfz34_6 := blk_frozen BK310.out 6
                                have hfz34_7 := blk_frozen BK310.out 7
                                have hfz34_8 := blk_frozen BK310.out 8
                                go_wp2
                                go_ret
                                exact ⟨by first | rfl | (simp [errW_none, errW_some] <;> rfl) | (simp [*, errW_none, errW_some] <;> rfl), by repeat (first | (with_reducible first | exact HB.out | apply below_alloc | apply pw_below_drewN | apply below_drew1 | refine below_set ?_ GE310.out) | exact HB.out)⟩
                            · rw [if_neg c29] at H
                              have c29b0 : decide (1 ≤ a0_7) = false := decide_eq_false c29
                              clear c29
                              obtain rfl := Option.some.inj H
                              have hcz35_0 : wc.cell? ⟨gb310, 0, none⟩ = some (.string a0_0) := (blk_cell BK310.out 0).trans rfl
                              have hcz35_1 : wc.cell? ⟨gb310, 1, none⟩ = some (.slice A0_1 l0_1.length c0_1) := (blk_cell BK310.out 1).trans rfl
                              have hcz35_2 : wc.cell? ⟨gb310, 2, none⟩ = some (.int .i64 a0_2) := (blk_cell BK310.out 2).trans rfl
                              have hcz35_3 : wc.cell? ⟨gb310, 3, none⟩ = some (.int .i64 a0_3) := (blk_cell BK310.out 3).trans rfl
                              have hcz35_4 : wc.cell? ⟨gb310, 4, none⟩ = some (.int .i64 a0_4) := (blk_cell BK310.out 4).trans rfl
                              have hcz35_5 : wc.cell? ⟨gb310, 5, none⟩ = some (.int .i64 a0_5) := (blk_cell BK310.out 5).trans rfl
                              have hcz35_6 : wc.cell? ⟨gb310, 6, none⟩ = some (.int .i64 a0_6) := (blk_cell BK310.out 6).trans rfl
                              have hcz35_7 : wc.cell? ⟨gb310, 7, none⟩ = some (.int .i64 a0_7) := (blk_cell BK310.out 7).trans rfl
                              have hcz35_8 : wc.cell? ⟨gb310, 8, none⟩ = some (.int .i64 a0_8) := (blk_cell BK310.out 8).trans rfl
                              have hfz35_0 := blk_frozen BK310.out 0
                              have hfz35_1 := blk_frozen BK310.out 1
                              have hfz35_2 := blk_frozen BK310.out 2
                              have hfz35_3 := blk_frozen BK310.out 3
                              have hfz35_4 := blk_frozen BK310.out 4
                              have hfz35_5 := blk_frozen BK310.out 5
                              have hfz35_6 := blk_frozen BK310.out 6
                              have hfz35_7 := blk_frozen BK310.out 7
                              have hfz35_8 := blk_frozen BK310.out 8
                              go_wp2
                              go_ret
                              exact ⟨by first | rfl | (simp [errW_none, errW_some] <;> rfl) | (simp [*, errW_none, errW_some] <;> rfl), by repeat (first | (with_reducible first | exact HB.out | apply below_alloc | apply pw_below_drewN | apply below_drew1 | refine below_set ?_ GE310.out) | exact HB.out)⟩
                          · rw [if_neg c28] at H
                            have c28b0 : decide (a0_6 ≤ 16) = false := decide_eq_false c28
                            clear c28
                            obtain rfl := Option.some.inj H
                            have hcz36_0 : wc.cell? ⟨gb310, 0, none⟩ = some (.string a0_0) := (blk_cell BK310.out 0).trans rfl
                            have hcz36_1 : wc.cell? ⟨gb310, 1, none⟩ = some (.slice A0_1 l0_1.length c0_1) := (blk_cell BK310.out 1).trans rfl
                            have hcz36_2 : wc.cell? ⟨gb310, 2, none⟩ = some (.int .i64 a0_2) := (blk_cell BK310.out 2).trans rfl
                            have hcz36_3 : wc.cell? ⟨gb310, 3, none⟩ = some (.int .i64 a0_3) := (blk_cell BK310.out 3).trans rfl
                            have hcz36_4 : wc.cell? ⟨gb310, 4, none⟩ = some (.int .i64 a0_4) := (blk_cell BK310.out 4).trans rfl
                            have hcz36_5 : wc.cell? ⟨gb310, 5, none⟩ = some (.int .i64 a0_5) := (blk_cell BK310.out 5).trans rfl
                            have hcz36_6 : wc.cell? ⟨gb310, 6, none⟩ = some (.int .i64 a0_6) := (blk_cell BK310.out 6).trans rfl
                            have hcz36_7 : wc.cell? ⟨gb310, 7, none⟩ = some (.int .i64 a0_7) := (blk_cell BK310.out 7).trans rfl
                            have hcz36_8 : wc.cell? ⟨gb310, 8, none⟩ = some (.int .i64 a0_8) := (blk_cell BK310.out 8).trans rfl
                            have hfz36_0 := blk_frozen BK310.out 0
                            have hfz36_1 := blk_frozen BK310.out 1
                            have hfz36_2 := blk_frozen BK310.out 2
                            have hfz36_3 := blk_frozen BK310.out 3
                            have hfz36_4 := blk_frozen BK310.out 4
                            have hfz36_5 := blk_frozen BK310.out 5
                            have hfz36_6 := blk_frozen BK310.out 6
                            have hfz36_7 := blk_frozen BK310.out 7
                            have hfz36_8 := blk_frozen BK310.out 8
                            go_wp2
                            go_ret
                            exact ⟨by first | rfl | (simp [errW_none, errW_some] <;> rfl) | (simp [*, errW_none, errW_some] <;> rfl), by repeat (first | (with_reducible first | exact HB.out | apply below_alloc | apply pw_below_drewN | apply below_drew1 | refine below_set ?_ GE310.out) | exact HB.out)⟩
                        · rw [if_neg c27] at H
                          have c27b0 : decide (0 ≤ a0_6) = false := decide_eq_false c27
                          clear c27
                          obtain rfl := Option.some.inj H
                          have hcz37_0 : wc.cell? ⟨gb310, 0, none⟩ = some (.string a0_0) := (blk_cell BK310.out 0).trans rfl
                          have hcz37_1 : wc.cell? ⟨gb310, 1, none⟩ = some (.slice A0_1 l0_1.length c0_1) := (blk_cell BK310.out 1).trans rfl
                          have hcz37_2 : wc.cell? ⟨gb310, 2, none⟩ = some (.int .i64 a0_2) := (blk_cell BK310.out 2).trans rfl
                          have hcz37_3 : wc.cell? ⟨gb310, 3, none⟩ = some (.int .i64 a0_3) := (blk_cell BK310.out 3).trans rfl
                          have hcz37_4 : wc.cell? ⟨gb310, 4, none⟩ = some (.int .i64 a0_4) := (blk_cell BK310.out 4).trans rfl
                          have hcz37_5 : wc.cell? ⟨gb310, 5, none⟩ = some (.int .i64 a0_5) := (blk_cell BK310.out 5).trans rfl
                          have hcz37_6 : wc.cell? ⟨gb310, 6, none⟩ = some (.int .i64 a0_6) := (blk_cell BK310.out 6).trans rfl
                          have hcz37_7 : wc.cell? ⟨gb310, 7, none⟩ = some (.int .i64 a0_7) := (blk_cell BK310.out 7).trans rfl
                          have hcz37_8 : wc.cell? ⟨gb310, 8, none⟩ = some (.int .i64 a0_8) := (blk_cell BK310.out 8).trans rfl
                          have hfz37_0 := blk_frozen BK310.out 0
                          have hfz37_1 := blk_frozen BK310.out 1
                          have hfz37_2 := blk_frozen BK310.out 2
                          have hfz37_3 := blk_frozen BK310.out 3
                          have hfz37_4 := blk_frozen BK310.out 4
                          have hfz37_5 := blk_frozen BK310.out 5
                          have hfz37_6 := blk_frozen BK310.out 6
                          have hfz37_7 := blk_frozen BK310.out 7
                          have hfz37_8 := blk_frozen BK310.out 8
                          go_wp2
                          go_ret
                          exact ⟨by first | rfl | (simp [errW_none, errW_some] <;> rfl) | (simp [*, errW_none, errW_some] <;> rfl), by repeat (first | (with_reducible first | exact HB.out | apply below_alloc | apply pw_below_drewN | apply below_drew1 | refine below_set ?_ GE310.out) | exact HB.out)⟩

end Go.Proofs.YtepljhleaohbcaaGreatDoor.P
end

section
/- The walk of the Go function tollhouseref15 Config, and what it computes. By program. Conditions: none but those that each theorem names. -/
namespace Go.Proofs.YtepljhleaohbcaaGreatDoor.P
open Go.RowKit Go.Proofs.YtepljhleaohbcaaGreatDoorW.PrintWords Go.Proofs.YtepljhleaohbcaaGreatDoorW.PrintLast Go.Proofs.YtepljhleaohbcaaGreatDoorW.PrintMore
attribute [local go_sem] max2_int min2_int max_two min_two max_three min_three max_four min_four

/-! ### tollhouseref15_Config: function 10 -/
mutual
def tollhouseref15_Config.l0 : Nat → Int → List (S27) → Int → Int → Option (Bool)
  | 0, _, _, _, _ => none
  | k + 1, x3, x314000, x314001, x314002 => if x3 < (x314000.length : Int) then (if 0 ≤ x3 then ((tollhouseref15_Tenant.f k ((rd_T27 x314000 x3).f0) ((rd_T27 x314000 x3).f1) ((rd_T27 x314000 x3).f2) ((rd_T27 x314000 x3).f3) ((rd_T27 x314000 x3).f4) ((rd_T27 x314000 x3).f5) ((rd_T27 x314000 x3).f6) ((rd_T27 x314000 x3).f7) ((rd_T27 x314000 x3).f8)).bind fun t315 => (if t315 = true then (tollhouseref15_Config.l1 k x3 0 x314000 x314001 x314002) else (some false))) else (none)) else (if (x314000.length : Int) < 1 then (some false) else (if (x314000.length : Int) > 8 then (some false) else (if x314001 < 0 then (some false) else (if x314001 > 16 then (some false) else (if x314002 ≥ 1 then (some (decide (x314002 ≤ 1099511627776))) else (some false))))))
def tollhouseref15_Config.l1 : Nat → Int → Int → List (S27) → Int → Int → Option (Bool)
  | 0, _, _, _, _, _ => none
  | k + 1, x3, x4, x314000, x314001, x314002 => if x4 < x3 then (if 0 ≤ x4 then (if x4 < (x314000.length : Int) then (if 0 ≤ x3 then (if x3 < (x314000.length : Int) then (if ((rd_T27 x314000 x4).f0).toList = ((rd_T27 x314000 x3).f0).toList then (some false) else (tollhouseref15_Config.l1 k x3 (wrap64 (x4 + 1)) x314000 x314001 x314002)) else (none)) else (none)) else (none)) else (none)) else (tollhouseref15_Config.l0 k (wrap64 (x3 + 1)) x314000 x314001 x314002)
end
def tollhouseref15_Config.f (k : Nat) (l0_0 : List (S27)) (a0_1 : Int) (a0_2 : Int) : Option (Bool) := tollhouseref15_Config.l0 k 0 l0_0 a0_1 a0_2
theorem tollhouseref15_Config.mono_l : ∀ k, (∀ y0 y1 y2 y3, LeO (tollhouseref15_Config.l0 k y0 y1 y2 y3) (tollhouseref15_Config.l0 (k + 1) y0 y1 y2 y3)) ∧ (∀ y0 y1 y2 y3 y4, LeO (tollhouseref15_Config.l1 k y0 y1 y2 y3 y4) (tollhouseref15_Config.l1 (k + 1) y0 y1 y2 y3 y4))
  | 0 => ⟨fun _ _ _ _ r h => by simp [tollhouseref15_Config.l0] at h, fun _ _ _ _ _ r h => by simp [tollhouseref15_Config.l1] at h⟩
  | k + 1 => by
    obtain ⟨ih0, ih1⟩ := tollhouseref15_Config.mono_l k
    refine ⟨?_, ?_⟩
    · intro y0 y1 y2 y3
      unfold tollhouseref15_Config.l0
      repeat' first
      | (with_reducible exact ih0 _ _ _ _)
      | (with_reducible exact ih1 _ _ _ _ _)
      | (with_reducible exact tollhouseref15_Tenant.mono _ _ _ _ _ _ _ _ _ _)
      | (with_reducible exact LeO.refl _)
      | (with_reducible exact LeO.none _)
      | (with_reducible refine LeO.ite ?_ ?_)
      | (with_reducible refine LeO.bind ?_ (fun _ => ?_))
      | exact ih0 _ _ _ _
      | exact ih1 _ _ _ _ _
      | exact tollhouseref15_Tenant.mono _ _ _ _ _ _ _ _ _ _
      | exact LeO.none _
      | refine LeO.ite ?_ ?_
      | refine LeO.bind ?_ (fun _ => ?_)
    · intro y0 y1 y2 y3 y4
      unfold tollhouseref15_Config.l1
      repeat' first
      | (with_reducible exact ih0 _ _ _ _)
      | (with_reducible exact ih1 _ _ _ _ _)
      | (with_reducible exact tollhouseref15_Tenant.mono _ _ _ _ _ _ _ _ _ _)
      | (with_reducible exact LeO.refl _)
      | (with_reducible exact LeO.none _)
      | (with_reducible refine LeO.ite ?_ ?_)
      | (with_reducible refine LeO.bind ?_ (fun _ => ?_))
      | exact ih0 _ _ _ _
      | exact ih1 _ _ _ _ _
      | exact tollhouseref15_Tenant.mono _ _ _ _ _ _ _ _ _ _
      | exact LeO.none _
      | refine LeO.ite ?_ ?_
      | refine LeO.bind ?_ (fun _ => ?_)
theorem tollhouseref15_Config.mono : ∀ a0 a1 a2 k, LeO (tollhouseref15_Config.f k a0 a1 a2) (tollhouseref15_Config.f (k + 1) a0 a1 a2) := by
  intro a0 a1 a2 k
  obtain ⟨ih0, ih1⟩ := tollhouseref15_Config.mono_l k
  unfold tollhouseref15_Config.f
  repeat' first
      | (with_reducible exact ih0 _ _ _ _)
      | (with_reducible exact ih1 _ _ _ _ _)
      | (with_reducible exact tollhouseref15_Tenant.mono _ _ _ _ _ _ _ _ _ _)
      | (with_reducible exact LeO.refl _)
      | (with_reducible exact LeO.none _)
      | (with_reducible refine LeO.ite ?_ ?_)
      | (with_reducible refine LeO.bind ?_ (fun _ => ?_))
      | exact ih0 _ _ _ _
      | exact ih1 _ _ _ _ _
      | exact tollhouseref15_Tenant.mono _ _ _ _ _ _ _ _ _ _
      | exact LeO.none _
      | refine LeO.ite ?_ ?_
      | refine LeO.bind ?_ (fun _ => ?_)
set_option maxHeartbeats 8000000 in
set_option maxRecDepth 100000 in
theorem tollhouseref15_Config.calls (k : Nat) (A0_0 : Option Addr) (c0_0 : Nat) (l0_0 : List (S27)) (a0_1 : Int) (a0_2 : Int) (r : Bool) (w : World) (hr0_0 : Kd.C k27 w A0_0 l0_0.length l0_0) (hc0_0 : l0_0.length ≤ c0_0) (h : tollhouseref15_Config.f k l0_0 a0_1 a0_2 = some r) :
    Calls Tryz.prog 10 #[.agg #[.slice A0_0 l0_0.length c0_0, .int .i64 a0_1, .int .i64 a0_2]] w fun e w' => e = .returned (.bool r) ∧ Below w.heap.size w w' := by
  have hu24 := Tryz.underlying24
  have hu27 := Tryz.underlying27
  have HR0_0 := Aside0.mk hr0_0
  have HC0_0 := Aside0.mk hc0_0
  clear hr0_0 hc0_0
  have HB := Aside0.mk (Below.refl w.heap.size w)
  have H : (tollhouseref15_Config.l0 k 0 l0_0 a0_1 a0_2) = some r := h
  clear h
  have H' := Aside0.mk H
  clear H
  go_enter Tryz.func10, Tryz.ntmps10
  go_wp2_with (first | ((with_reducible refine gate_dst (N := 1) rfl ?_); (try (refine gate_guard (by rfl) ?_; dsimp only)); refine box_event ?hg (N := 1) ?hd (cs := #[.slice A0_0 l0_0.length c0_0, .int .i64 a0_1, .int .i64 a0_2]) (t := 24) ?hr ?_; (case hd => rfl); (case hg => rfl); (case hr => first | (go_simp; done) | (go_simp; rfl)); intro gb313 hg w2 hbox hb; have n0_ := Aside0.mk (below_step (by repeat (first | (with_reducible first | exact HB.out | apply below_alloc | apply pw_below_drewN | apply below_drew1) | exact HB.out)) hb); have n1_ := Aside0.mk (hbox); have n2_ := Aside0.mk ((by rw [hg]; exact (below_size (by repeat (first | (with_reducible first | exact HB.out | apply below_alloc | apply pw_below_drewN | apply below_drew1) | exact HB.out))) : w.heap.size ≤ gb313)); have n3_ := Aside0.mk ((by rw [hg]; exact (below_size (by repeat (first | (with_reducible first | exact HB.out | apply below_alloc | apply pw_below_drewN | apply below_drew1) | exact HB.out))) : w.heap.size ≤ gb313)); clear HB; have HB := n0_; have BK313 := n1_; have GW313 := n2_; have GE313 := n3_; clear n0_ n1_ n2_ n3_; clear hb hbox hg))
  repeat (go_quiet (first | ((with_reducible refine gate_dst (N := 1) rfl ?_); (try (refine gate_guard (by rfl) ?_; dsimp only)); refine box_event ?hg (N := 1) ?hd (cs := #[.slice A0_0 l0_0.length c0_0, .int .i64 a0_1, .int .i64 a0_2]) (t := 24) ?hr ?_; (case hd => rfl); (case hg => rfl); (case hr => first | (go_simp; done) | (go_simp; rfl)); intro gb313 hg w2 hbox hb; have n0_ := Aside0.mk (below_step (by repeat (first | (with_reducible first | exact HB.out | apply below_alloc | apply pw_below_drewN | apply below_drew1) | exact HB.out)) hb); have n1_ := Aside0.mk (hbox); have n2_ := Aside0.mk ((by rw [hg]; exact (below_size (by repeat (first | (with_reducible first | exact HB.out | apply below_alloc | apply pw_below_drewN | apply below_drew1) | exact HB.out))) : w.heap.size ≤ gb313)); have n3_ := Aside0.mk ((by rw [hg]; exact (below_size (by repeat (first | (with_reducible first | exact HB.out | apply below_alloc | apply pw_below_drewN | apply below_drew1) | exact HB.out))) : w.heap.size ≤ gb313)); clear HB; have HB := n0_; have BK313 := n1_; have GW313 := n2_; have GE313 := n3_; clear n0_ n1_ n2_ n3_; clear hb hbox hg)); try go_wp2_with (first | ((with_reducible refine gate_dst (N := 1) rfl ?_); (try (refine gate_guard (by rfl) ?_; dsimp only)); refine box_event ?hg (N := 1) ?hd (cs := #[.slice A0_0 l0_0.length c0_0, .int .i64 a0_1, .int .i64 a0_2]) (t := 24) ?hr ?_; (case hd => rfl); (case hg => rfl); (case hr => first | (go_simp; done) | (go_simp; rfl)); intro gb313 hg w2 hbox hb; have n0_ := Aside0.mk (below_step (by repeat (first | (with_reducible first | exact HB.out | apply below_alloc | apply pw_below_drewN | apply below_drew1) | exact HB.out)) hb); have n1_ := Aside0.mk (hbox); have n2_ := Aside0.mk ((by rw [hg]; exact (below_size (by repeat (first | (with_reducible first | exact HB.out | apply below_alloc | apply pw_below_drewN | apply below_drew1) | exact HB.out))) : w.heap.size ≤ gb313)); have n3_ := Aside0.mk ((by rw [hg]; exact (below_size (by repeat (first | (with_reducible first | exact HB.out | apply below_alloc | apply pw_below_drewN | apply below_drew1) | exact HB.out))) : w.heap.size ≤ gb313)); clear HB; have HB := n0_; have BK313 := n1_; have GW313 := n2_; have GE313 := n3_; clear n0_ n1_ n2_ n3_; clear hb hbox hg)))
  go_loopg [3] k (fun kq v3 w' => ∃ (x3_1 : Int), v3 = .int .i64 x3_1 ∧ Aside0 (tollhouseref15_Config.l0 kq x3_1 l0_0 a0_1 a0_2 = some r) ∧ Aside0 (kq ≤ k) ∧ Aside0 (w'.heap[gb313]? = some (.cells #[(.slice A0_0 l0_0.length c0_0), .int .i64 a0_1, .int .i64 a0_2] 24 (0, 0))) ∧ Aside0 (Below w.heap.size w w'))
  case atStart => exact ⟨(0), (by first | rfl | (simp; done) | (simp [*]; done)), H', ⟨Nat.le_refl _⟩, ⟨by (with_reducible repeat (first | refine blk_drewN ?_ _ | refine blk_drew ?_ | refine blk_alloc ?_ _)); exact BK313.out⟩, ⟨by repeat (first | (with_reducible first | exact HB.out | apply below_alloc | apply pw_below_drewN | apply below_drew1 | refine below_set ?_ GE313.out) | exact HB.out)⟩⟩
  case round =>
    clear H'
    try clear c1
    try clear p2
    obtain ⟨x3_1, rfl, HA, HK1, BK313, HB⟩ := hrel
    cases gk with
    | zero => exact absurd HA.out (by simp [tollhouseref15_Config.l0])
    | succ k1 =>
      have H := HA.out
      clear HA
      simp only [tollhouseref15_Config.l0] at H
      by_cases c3 : x3_1 < (l0_0.length : Int)
      · rw [if_pos c3] at H
        have c3b0 : decide (x3_1 < (l0_0.length : Int)) = true := decide_eq_true c3
        clear c3
        by_cases c4 : 0 ≤ x3_1
        · rw [if_pos c4] at H
          have c4b0 : decide (0 ≤ x3_1) = true := decide_eq_true c4
          clear c4
          replace H := Option.bind_eq_some_iff.mp H
          obtain ⟨t315, A50, H⟩ := H
          replace H : (if t315 = true then (tollhouseref15_Config.l1 k1 x3_1 0 l0_0 a0_1 a0_2) else (some false)) = some r := H
          have A5 := Aside0.mk A50
          clear A50
          by_cases c6 : t315 = true
          · subst c6
            have H1 : (tollhouseref15_Config.l1 k1 x3_1 0 l0_0 a0_1 a0_2) = some r := by rw [if_pos rfl] at H; exact H
            clear H
            have H := H1
            clear H1
            have H' := Aside0.mk H
            clear H
            have hcz7_0 : wr.cell? ⟨gb313, 0, none⟩ = some (.slice A0_0 l0_0.length c0_0) := (blk_cell BK313.out 0).trans rfl
            have hcz7_1 : wr.cell? ⟨gb313, 1, none⟩ = some (.int .i64 a0_1) := (blk_cell BK313.out 1).trans rfl
            have hcz7_2 : wr.cell? ⟨gb313, 2, none⟩ = some (.int .i64 a0_2) := (blk_cell BK313.out 2).trans rfl
            have hfz7_0 := blk_frozen BK313.out 0
            have hfz7_1 := blk_frozen BK313.out 1
            have hfz7_2 := blk_frozen BK313.out 2
            have p314 : 0 ≤ (x3_1 : Int) := of_decide_eq_true (by first | (with_reducible assumption) | assumption)
            have q314 : x3_1 < (l0_0.length : Int) := of_decide_eq_true (by first | (with_reducible assumption) | assumption)
            obtain ⟨ad314, A314_1, c314_1, e314, hx314_0, hx314_1, hx314_2, hx314_3, hx314_4, hx314_5, hx314_6, hx314_7, hx314_8, hl314_1, hi314_1⟩ := at_T27 HR0_0.out x3_1 p314 q314
            cases e314
            replace hx314_0 := (HB.out.cell (World.block_lt_of_cell? w _ hx314_0)).trans hx314_0
            replace hx314_1 := (HB.out.cell (World.block_lt_of_cell? w _ hx314_1)).trans hx314_1
            replace hx314_2 := (HB.out.cell (World.block_lt_of_cell? w _ hx314_2)).trans hx314_2
            replace hx314_3 := (HB.out.cell (World.block_lt_of_cell? w _ hx314_3)).trans hx314_3
            replace hx314_4 := (HB.out.cell (World.block_lt_of_cell? w _ hx314_4)).trans hx314_4
            replace hx314_5 := (HB.out.cell (World.block_lt_of_cell? w _ hx314_5)).trans hx314_5
            replace hx314_6 := (HB.out.cell (World.block_lt_of_cell? w _ hx314_6)).trans hx314_6
            replace hx314_7 := (HB.out.cell (World.block_lt_of_cell? w _ hx314_7)).trans hx314_7
            replace hx314_8 := (HB.out.cell (World.block_lt_of_cell? w _ hx314_8)).trans hx314_8
            have HR314_1 := Aside0.mk hi314_1
            have HC314_1 := Aside0.mk hl314_1
            clear hi314_1 hl314_1
            replace p314 := eq_true p314
            replace q314 := eq_true q314
            go_wp2_with (first | (go_at_call 12; (with_reducible refine (tollhouseref15_Tenant.calls k1 ((rd_T27 l0_0 x3_1).f0) _ _ ((rd_T27 l0_0 x3_1).f1) ((rd_T27 l0_0 x3_1).f2) ((rd_T27 l0_0 x3_1).f3) ((rd_T27 l0_0 x3_1).f4) ((rd_T27 l0_0 x3_1).f5) ((rd_T27 l0_0 x3_1).f6) ((rd_T27 l0_0 x3_1).f7) ((rd_T27 l0_0 x3_1).f8) true _ ?side1 ?side2 A5.out).mono ?_); (case side1 => repeat (first | exact (Kd.C_below HR314_1.out HB.out) | (with_reducible refine Kd.C_alloc ?_ _) | (with_reducible refine Kd.C_drewN ?_ _) | (with_reducible refine Kd.C_drew ?_))); (case side2 => exact HC314_1.out); rintro e w8 ⟨rfl, hb⟩; have n0_ := Aside0.mk (blk_below (g := gb313) (o := .cells #[.slice (some ad314) l0_0.length c0_0, .int .i64 a0_1, .int .i64 a0_2] 24 (0, 0)) (by (with_reducible repeat (first | refine blk_drewN ?_ _ | refine blk_drew ?_ | refine blk_alloc ?_ _)); exact BK313.out) hb); have n1_ := Aside0.mk (below_step (by repeat (first | (with_reducible first | exact HB.out | apply below_alloc | apply pw_below_drewN | apply below_drew1 | refine below_set ?_ GE313.out) | exact HB.out)) hb); clear BK313; clear HB; have BK313 := n0_; have HB := n1_; clear n0_ n1_; (try clear hb); (try clear hb2); (try clear hk); (try clear hi)))
            repeat (go_quiet (first | (go_at_call 12; (with_reducible refine (tollhouseref15_Tenant.calls k1 ((rd_T27 l0_0 x3_1).f0) _ _ ((rd_T27 l0_0 x3_1).f1) ((rd_T27 l0_0 x3_1).f2) ((rd_T27 l0_0 x3_1).f3) ((rd_T27 l0_0 x3_1).f4) ((rd_T27 l0_0 x3_1).f5) ((rd_T27 l0_0 x3_1).f6) ((rd_T27 l0_0 x3_1).f7) ((rd_T27 l0_0 x3_1).f8) true _ ?side1 ?side2 A5.out).mono ?_); (case side1 => repeat (first | exact (Kd.C_below HR314_1.out HB.out) | (with_reducible refine Kd.C_alloc ?_ _) | (with_reducible refine Kd.C_drewN ?_ _) | (with_reducible refine Kd.C_drew ?_))); (case side2 => exact HC314_1.out); rintro e w8 ⟨rfl, hb⟩; have n0_ := Aside0.mk (blk_below (g := gb313) (o := .cells #[.slice (some ad314) l0_0.length c0_0, .int .i64 a0_1, .int .i64 a0_2] 24 (0, 0)) (by (with_reducible repeat (first | refine blk_drewN ?_ _ | refine blk_drew ?_ | refine blk_alloc ?_ _)); exact BK313.out) hb); have n1_ := Aside0.mk (below_step (by repeat (first | (with_reducible first | exact HB.out | apply below_alloc | apply pw_below_drewN | apply below_drew1 | refine below_set ?_ GE313.out) | exact HB.out)) hb); clear BK313; clear HB; have BK313 := n0_; have HB := n1_; clear n0_ n1_; (try clear hb); (try clear hb2); (try clear hk); (try clear hi))); try go_wp2_with (first | (go_at_call 12; (with_reducible refine (tollhouseref15_Tenant.calls k1 ((rd_T27 l0_0 x3_1).f0) _ _ ((rd_T27 l0_0 x3_1).f1) ((rd_T27 l0_0 x3_1).f2) ((rd_T27 l0_0 x3_1).f3) ((rd_T27 l0_0 x3_1).f4) ((rd_T27 l0_0 x3_1).f5) ((rd_T27 l0_0 x3_1).f6) ((rd_T27 l0_0 x3_1).f7) ((rd_T27 l0_0 x3_1).f8) true _ ?side1 ?side2 A5.out).mono ?_); (case side1 => repeat (first | exact (Kd.C_below HR314_1.out HB.out) | (with_reducible refine Kd.C_alloc ?_ _) | (with_reducible refine Kd.C_drewN ?_ _) | (with_reducible refine Kd.C_drew ?_))); (case side2 => exact HC314_1.out); rintro e w8 ⟨rfl, hb⟩; have n0_ := Aside0.mk (blk_below (g := gb313) (o := .cells #[.slice (some ad314) l0_0.length c0_0, .int .i64 a0_1, .int .i64 a0_2] 24 (0, 0)) (by (with_reducible repeat (first | refine blk_drewN ?_ _ | refine blk_drew ?_ | refine blk_alloc ?_ _)); exact BK313.out) hb); have n1_ := Aside0.mk (below_step (by repeat (first | (with_reducible first | exact HB.out | apply below_alloc | apply pw_below_drewN | apply below_drew1 | refine below_set ?_ GE313.out) | exact HB.out)) hb); clear BK313; clear HB; have BK313 := n0_; have HB := n1_; clear n0_ n1_; (try clear hb); (try clear hb2); (try clear hk); (try clear hi))))
            go_loopg [4] k1 (fun kq v4 w' => ∃ (x4_2 : Int), v4 = .int .i64 x4_2 ∧ Aside0 (tollhouseref15_Config.l1 kq x3_1 x4_2 l0_0 a0_1 a0_2 = some r) ∧ Aside0 (kq ≤ k1) ∧ Aside0 (w'.heap[gb313]? = some (.cells #[(.slice (some ad314) l0_0.length c0_0), .int .i64 a0_1, .int .i64 a0_2] 24 (0, 0))) ∧ Aside0 (Below w.heap.size w w'))
            case atStart => exact ⟨(0), (by first | rfl | (simp; done) | (simp [*]; done)), H', ⟨Nat.le_refl _⟩, ⟨by (with_reducible repeat (first | refine blk_drewN ?_ _ | refine blk_drew ?_ | refine blk_alloc ?_ _)); exact BK313.out⟩, ⟨by repeat (first | (with_reducible first | exact HB.out | apply below_alloc | apply pw_below_drewN | apply below_drew1 | refine below_set ?_ GE313.out) | exact HB.out)⟩⟩
            case round =>
              clear H'
              try clear c1
              try clear p2
              try clear c3
              try clear c3b0
              try clear p3
              try clear q3
              try clear hx3
              try clear c4
              try clear c4b0
              try clear c6
              try clear hcz7_0
              try clear hcz7_1
              try clear hcz7_2
              try clear hfz7_0
              try clear hfz7_1
              try clear hfz7_2
              try clear hx314_0
              try clear hx314_1
              try clear hx314_2
              try clear hx314_3
              try clear hx314_4
              try clear hx314_5
              try clear hx314_6
              try clear hx314_7
              try clear hx314_8
              try clear p2
              try clear p314
              try clear q314
              obtain ⟨x4_2, rfl, HA, HK2, BK313, HB⟩ := hrel
              cases gk with
              | zero => exact absurd HA.out (by simp [tollhouseref15_Config.l1])
              | succ k2 =>
                have H := HA.out
                clear HA
                simp only [tollhouseref15_Config.l1] at H
                by_cases c9 : x4_2 < x3_1
                · rw [if_pos c9] at H
                  have c9b0 : decide (x4_2 < x3_1) = true := decide_eq_true c9
                  clear c9
                  by_cases c10 : 0 ≤ x4_2
                  · rw [if_pos c10] at H
                    have c10b0 : decide (0 ≤ x4_2) = true := decide_eq_true c10
                    clear c10
                    by_cases c11 : x4_2 < (l0_0.length : Int)
                    · rw [if_pos c11] at H
                      have c11b0 : decide (x4_2 < (l0_0.length : Int)) = true := decide_eq_true c11
                      clear c11
                      by_cases c12 : 0 ≤ x3_1
                      · rw [if_pos c12] at H
                        have c12b0 : decide (0 ≤ x3_1) = true := decide_eq_true c12
                        clear c12
                        by_cases c13 : x3_1 < (l0_0.length : Int)
                        · rw [if_pos c13] at H
                          have c13b0 : decide (x3_1 < (l0_0.length : Int)) = true := decide_eq_true c13
                          clear c13
                          by_cases c14 : ((rd_T27 l0_0 x4_2).f0).toList = ((rd_T27 l0_0 x3_1).f0).toList
                          · rw [if_pos c14] at H
                            have c14b0 : (((rd_T27 l0_0 x4_2).f0).toList == ((rd_T27 l0_0 x3_1).f0).toList) = true := beq_iff_eq.mpr c14
                            have c14b1 : (((rd_T27 l0_0 x4_2).f0).toList != ((rd_T27 l0_0 x3_1).f0).toList) = false := bne_eq_false_iff_eq.mpr c14
                            clear c14
                            obtain rfl := Option.some.inj H
                            have hcz15_0 : wr.cell? ⟨gb313, 0, none⟩ = some (.slice (some ad314) l0_0.length c0_0) := (blk_cell BK313.out 0).trans rfl
                            have hcz15_1 : wr.cell? ⟨gb313, 1, none⟩ = some (.int .i64 a0_1) := (blk_cell BK313.out 1).trans rfl
                            have hcz15_2 : wr.cell? ⟨gb313, 2, none⟩ = some (.int .i64 a0_2) := (blk_cell BK313.out 2).trans rfl
                            have hfz15_0 := blk_frozen BK313.out 0
                            have hfz15_1 := blk_frozen BK313.out 1
                            have hfz15_2 := blk_frozen BK313.out 2
                            have p316 : 0 ≤ (x4_2 : Int) := of_decide_eq_true (by first | (with_reducible assumption) | assumption)
                            have q316 : x4_2 < (l0_0.length : Int) := of_decide_eq_true (by first | (with_reducible assumption) | assumption)
                            obtain ⟨ad316, A316_1, c316_1, e316, hx316_0, hx316_1, hx316_2, hx316_3, hx316_4, hx316_5, hx316_6, hx316_7, hx316_8, hl316_1, hi316_1⟩ := at_T27 HR0_0.out x4_2 p316 q316
                            obtain rfl : ad314 = ad316 := (by injection e316)
                            replace hx316_0 := (HB.out.cell (World.block_lt_of_cell? w _ hx316_0)).trans hx316_0
                            replace hx316_1 := (HB.out.cell (World.block_lt_of_cell? w _ hx316_1)).trans hx316_1
                            replace hx316_2 := (HB.out.cell (World.block_lt_of_cell? w _ hx316_2)).trans hx316_2
                            replace hx316_3 := (HB.out.cell (World.block_lt_of_cell? w _ hx316_3)).trans hx316_3
                            replace hx316_4 := (HB.out.cell (World.block_lt_of_cell? w _ hx316_4)).trans hx316_4
                            replace hx316_5 := (HB.out.cell (World.block_lt_of_cell? w _ hx316_5)).trans hx316_5
                            replace hx316_6 := (HB.out.cell (World.block_lt_of_cell? w _ hx316_6)).trans hx316_6
                            replace hx316_7 := (HB.out.cell (World.block_lt_of_cell? w _ hx316_7)).trans hx316_7
                            replace hx316_8 := (HB.out.cell (World.block_lt_of_cell? w _ hx316_8)).trans hx316_8
                            have HR316_1 := Aside0.mk hi316_1
                            have HC316_1 := Aside0.mk hl316_1
                            clear hi316_1 hl316_1
                            replace p316 := eq_true p316
                            replace q316 := eq_true q316
                            have p317 : 0 ≤ (x3_1 : Int) := of_decide_eq_true (by first | (with_reducible assumption) | assumption)
                            have q317 : x3_1 < (l0_0.length : Int) := of_decide_eq_true (by first | (with_reducible assumption) | assumption)
                            obtain ⟨ad317, A317_1, c317_1, e317, hx317_0, hx317_1, hx317_2, hx317_3, hx317_4, hx317_5, hx317_6, hx317_7, hx317_8, hl317_1, hi317_1⟩ := at_T27 HR0_0.out x3_1 p317 q317
                            obtain rfl : ad314 = ad317 := (by injection e317)
                            replace hx317_0 := (HB.out.cell (World.block_lt_of_cell? w _ hx317_0)).trans hx317_0
                            replace hx317_1 := (HB.out.cell (World.block_lt_of_cell? w _ hx317_1)).trans hx317_1
                            replace hx317_2 := (HB.out.cell (World.block_lt_of_cell? w _ hx317_2)).trans hx317_2
                            replace hx317_3 := (HB.out.cell (World.block_lt_of_cell? w _ hx317_3)).trans hx317_3
                            replace hx317_4 := (HB.out.cell (World.block_lt_of_cell? w _ hx317_4)).trans hx317_4
                            replace hx317_5 := (HB.out.cell (World.block_lt_of_cell? w _ hx317_5)).trans hx317_5
                            replace hx317_6 := (HB.out.cell (World.block_lt_of_cell? w _ hx317_6)).trans hx317_6
                            replace hx317_7 := (HB.out.cell (World.block_lt_of_cell? w _ hx317_7)).trans hx317_7
                            replace hx317_8 := (HB.out.cell (World.block_lt_of_cell? w _ hx317_8)).trans hx317_8
                            have HR317_1 := Aside0.mk hi317_1
                            have HC317_1 := Aside0.mk hl317_1
                            clear hi317_1 hl317_1
                            replace p317 := eq_true p317
                            replace q317 := eq_true q317
                            go_wp2
                            repeat (go_quiet (fail); try go_wp2)
                            go_ret
                            exact ⟨by first | rfl | (simp [errW_none, errW_some] <;> rfl) | (simp [*, errW_none, errW_some] <;> rfl), by repeat (first | (with_reducible first | exact HB.out | apply below_alloc | apply pw_below_drewN | apply below_drew1 | refine below_set ?_ GE313.out) | exact HB.out)⟩
                          · rw [if_neg c14] at H
                            have c14b0 : (((rd_T27 l0_0 x4_2).f0).toList == ((rd_T27 l0_0 x3_1).f0).toList) = false := beq_eq_false_iff_ne.mpr c14
                            have c14b1 : (((rd_T27 l0_0 x4_2).f0).toList != ((rd_T27 l0_0 x3_1).f0).toList) = true := bne_iff_ne.mpr c14
                            have H' := Aside0.mk H
                            clear H
                            have hcz16_0 : wr.cell? ⟨gb313, 0, none⟩ = some (.slice (some ad314) l0_0.length c0_0) := (blk_cell BK313.out 0).trans rfl
                            have hcz16_1 : wr.cell? ⟨gb313, 1, none⟩ = some (.int .i64 a0_1) := (blk_cell BK313.out 1).trans rfl
                            have hcz16_2 : wr.cell? ⟨gb313, 2, none⟩ = some (.int .i64 a0_2) := (blk_cell BK313.out 2).trans rfl
                            have hfz16_0 := blk_frozen BK313.out 0
                            have hfz16_1 := blk_frozen BK313.out 1
                            have hfz16_2 := blk_frozen BK313.out 2
                            have p316 : 0 ≤ (x4_2 : Int) := of_decide_eq_true (by first | (with_reducible assumption) | assumption)
                            have q316 : x4_2 < (l0_0.length : Int) := of_decide_eq_true (by first | (with_reducible assumption) | assumption)
                            obtain ⟨ad316, A316_1, c316_1, e316, hx316_0, hx316_1, hx316_2, hx316_3, hx316_4, hx316_5, hx316_6, hx316_7, hx316_8, hl316_1, hi316_1⟩ := at_T27 HR0_0.out x4_2 p316 q316
                            obtain rfl : ad314 = ad316 := (by injection e316)
                            replace hx316_0 := (HB.out.cell (World.block_lt_of_cell? w _ hx316_0)).trans hx316_0
                            replace hx316_1 := (HB.out.cell (World.block_lt_of_cell? w _ hx316_1)).trans hx316_1
                            replace hx316_2 := (HB.out.cell (World.block_lt_of_cell? w _ hx316_2)).trans hx316_2
                            replace hx316_3 := (HB.out.cell (World.block_lt_of_cell? w _ hx316_3)).trans hx316_3
                            replace hx316_4 := (HB.out.cell (World.block_lt_of_cell? w _ hx316_4)).trans hx316_4
                            replace hx316_5 := (HB.out.cell (World.block_lt_of_cell? w _ hx316_5)).trans hx316_5
                            replace hx316_6 := (HB.out.cell (World.block_lt_of_cell? w _ hx316_6)).trans hx316_6
                            replace hx316_7 := (HB.out.cell (World.block_lt_of_cell? w _ hx316_7)).trans hx316_7
                            replace hx316_8 := (HB.out.cell (World.block_lt_of_cell? w _ hx316_8)).trans hx316_8
                            have HR316_1 := Aside0.mk hi316_1
                            have HC316_1 := Aside0.mk hl316_1
                            clear hi316_1 hl316_1
                            replace p316 := eq_true p316
                            replace q316 := eq_true q316
                            have p317 : 0 ≤ (x3_1 : Int) := of_decide_eq_true (by first | (with_reducible assumption) | assumption)
                            have q317 : x3_1 < (l0_0.length : Int) := of_decide_eq_true (by first | (with_reducible assumption) | assumption)
                            obtain ⟨ad317, A317_1, c317_1, e317, hx317_0, hx317_1, hx317_2, hx317_3, hx317_4, hx317_5, hx317_6, hx317_7, hx317_8, hl317_1, hi317_1⟩ := at_T27 HR0_0.out x3_1 p317 q317
                            obtain rfl : ad314 = ad317 := (by injection e317)
                            replace hx317_0 := (HB.out.cell (World.block_lt_of_cell? w _ hx317_0)).trans hx317_0
                            replace hx317_1 := (HB.out.cell (World.block_lt_of_cell? w _ hx317_1)).trans hx317_1
                            replace hx317_2 := (HB.out.cell (World.block_lt_of_cell? w _ hx317_2)).trans hx317_2
                            replace hx317_3 := (HB.out.cell (World.block_lt_of_cell? w _ hx317_3)).trans hx317_3
                            replace hx317_4 := (HB.out.cell (World.block_lt_of_cell? w _ hx317_4)).trans hx317_4
                            replace hx317_5 := (HB.out.cell (World.block_lt_of_cell? w _ hx317_5)).trans hx317_5
                            replace hx317_6 := (HB.out.cell (World.block_lt_of_cell? w _ hx317_6)).trans hx317_6
                            replace hx317_7 := (HB.out.cell (World.block_lt_of_cell? w _ hx317_7)).trans hx317_7
                            replace hx317_8 := (HB.out.cell (World.block_lt_of_cell? w _ hx317_8)).trans hx317_8
                            have HR317_1 := Aside0.mk hi317_1
                            have HC317_1 := Aside0.mk hl317_1
                            clear hi317_1 hl317_1
                            replace p317 := eq_true p317
                            replace q317 := eq_true q317
                            go_wp2
                            repeat (go_quiet (fail); try go_wp2)
                            go_roundg k2
                            case measure => have := HK1.out; have := HK2.out; omega
                            case rel => exact ⟨(wrap64 (x4_2 + 1)), (by first | rfl | (simp; done) | (simp [*]; done)), H', ⟨by have := HK1.out; have := HK2.out; omega⟩, ⟨by (with_reducible repeat (first | refine blk_drewN ?_ _ | refine blk_drew ?_ | refine blk_alloc ?_ _)); exact BK313.out⟩, ⟨by repeat (first | (with_reducible first | exact HB.out | apply below_alloc | apply pw_below_drewN | apply below_drew1 | refine below_set ?_ GE313.out) | exact HB.out)⟩⟩
                        · rw [if_neg c13] at H
                          exact absurd H (by simp)
                      · rw [if_neg c12] at H
                        exact absurd H (by simp)
                    · rw [if_neg c11] at H
                      exact absurd H (by simp)
                  · rw [if_neg c10] at H
                    exact absurd H (by simp)
                · rw [if_neg c9] at H
                  have c9b0 : decide (x4_2 < x3_1) = false := decide_eq_false c9
                  clear c9
                  have H' := Aside0.mk H
                  clear H
                  go_wp2
                  repeat (go_quiet (fail); try go_wp2)
                  go_roundg k2
                  case measure => have := HK1.out; have := HK2.out; omega
                  case rel => exact ⟨(wrap64 (x3_1 + 1)), (by first | rfl | (simp; done) | (simp [*]; done)), H', ⟨by have := HK1.out; have := HK2.out; omega⟩, ⟨by (with_reducible repeat (first | refine blk_drewN ?_ _ | refine blk_drew ?_ | refine blk_alloc ?_ _)); exact BK313.out⟩, ⟨by repeat (first | (with_reducible first | exact HB.out | apply below_alloc | apply pw_below_drewN | apply below_drew1 | refine below_set ?_ GE313.out) | exact HB.out)⟩⟩
          · replace c6 := Bool.eq_false_iff.mpr c6
            subst c6
            have H1 : (some false) = some r := by rw [if_neg (show ¬ (false = true) by decide)] at H; exact H
            clear H
            have H := H1
            clear H1
            obtain rfl := Option.some.inj H
            have hcz17_0 : wr.cell? ⟨gb313, 0, none⟩ = some (.slice A0_0 l0_0.length c0_0) := (blk_cell BK313.out 0).trans rfl
            have hcz17_1 : wr.cell? ⟨gb313, 1, none⟩ = some (.int .i64 a0_1) := (blk_cell BK313.out 1).trans rfl
            have hcz17_2 : wr.cell? ⟨gb313, 2, none⟩ = some (.int .i64 a0_2) := (blk_cell BK313.out 2).trans rfl
            have hfz17_0 := blk_frozen BK313.out 0
            have hfz17_1 := blk_frozen BK313.out 1
            have hfz17_2 := blk_frozen BK313.out 2
            have p314 : 0 ≤ (x3_1 : Int) := of_decide_eq_true (by first | (with_reducible assumption) | assumption)
            have q314 : x3_1 < (l0_0.length : Int) := of_decide_eq_true (by first | (with_reducible assumption) | assumption)
            obtain ⟨ad314, A314_1, c314_1, e314, hx314_0, hx314_1, hx314_2, hx314_3, hx314_4, hx314_5, hx314_6, hx314_7, hx314_8, hl314_1, hi314_1⟩ := at_T27 HR0_0.out x3_1 p314 q314
            cases e314
            replace hx314_0 := (HB.out.cell (World.block_lt_of_cell? w _ hx314_0)).trans hx314_0
            replace hx314_1 := (HB.out.cell (World.block_lt_of_cell? w _ hx314_1)).trans hx314_1
            replace hx314_2 := (HB.out.cell (World.block_lt_of_cell? w _ hx314_2)).trans hx314_2
            replace hx314_3 := (HB.out.cell (World.block_lt_of_cell? w _ hx314_3)).trans hx314_3
            replace hx314_4 := (HB.out.cell (World.block_lt_of_cell? w _ hx314_4)).trans hx314_4
            replace hx314_5 := (HB.out.cell (World.block_lt_of_cell? w _ hx314_5)).trans hx314_5
            replace hx314_6 := (HB.out.cell (World.block_lt_of_cell? w _ hx314_6)).trans hx314_6
            replace hx314_7 := (HB.out.cell (World.block_lt_of_cell? w _ hx314_7)).trans hx314_7
            replace hx314_8 := (HB.out.cell (World.block_lt_of_cell? w _ hx314_8)).trans hx314_8
            have HR314_1 := Aside0.mk hi314_1
            have HC314_1 := Aside0.mk hl314_1
            clear hi314_1 hl314_1
            replace p314 := eq_true p314
            replace q314 := eq_true q314
            go_wp2_with (first | (go_at_call 12; (with_reducible refine (tollhouseref15_Tenant.calls k1 ((rd_T27 l0_0 x3_1).f0) _ _ ((rd_T27 l0_0 x3_1).f1) ((rd_T27 l0_0 x3_1).f2) ((rd_T27 l0_0 x3_1).f3) ((rd_T27 l0_0 x3_1).f4) ((rd_T27 l0_0 x3_1).f5) ((rd_T27 l0_0 x3_1).f6) ((rd_T27 l0_0 x3_1).f7) ((rd_T27 l0_0 x3_1).f8) false _ ?side1 ?side2 A5.out).mono ?_); (case side1 => repeat (first | exact (Kd.C_below HR314_1.out HB.out) | (with_reducible refine Kd.C_alloc ?_ _) | (with_reducible refine Kd.C_drewN ?_ _) | (with_reducible refine Kd.C_drew ?_))); (case side2 => exact HC314_1.out); rintro e w18 ⟨rfl, hb⟩; have n0_ := Aside0.mk (blk_below (g := gb313) (o := .cells #[.slice (some ad314) l0_0.length c0_0, .int .i64 a0_1, .int .i64 a0_2] 24 (0, 0)) (by (with_reducible repeat (first | refine blk_drewN ?_ _ | refine blk_drew ?_ | refine blk_alloc ?_ _)); exact BK313.out) hb); have n1_ := Aside0.mk (below_step (by repeat (first | (with_reducible first | exact HB.out | apply below_alloc | apply pw_below_drewN | apply below_drew1 | refine below_set ?_ GE313.out) | exact HB.out)) hb); clear BK313; clear HB; have BK313 := n0_; have HB := n1_; clear n0_ n1_; (try clear hb); (try clear hb2); (try clear hk); (try clear hi)))
            repeat (go_quiet (first | (go_at_call 12; (with_reducible refine (tollhouseref15_Tenant.calls k1 ((rd_T27 l0_0 x3_1).f0) _ _ ((rd_T27 l0_0 x3_1).f1) ((rd_T27 l0_0 x3_1).f2) ((rd_T27 l0_0 x3_1).f3) ((rd_T27 l0_0 x3_1).f4) ((rd_T27 l0_0 x3_1).f5) ((rd_T27 l0_0 x3_1).f6) ((rd_T27 l0_0 x3_1).f7) ((rd_T27 l0_0 x3_1).f8) false _ ?side1 ?side2 A5.out).mono ?_); (case side1 => repeat (first | exact (Kd.C_below HR314_1.out HB.out) | (with_reducible refine Kd.C_alloc ?_ _) | (with_reducible refine Kd.C_drewN ?_ _) | (with_reducible refine Kd.C_drew ?_))); (case side2 => exact HC314_1.out); rintro e w18 ⟨rfl, hb⟩; have n0_ := Aside0.mk (blk_below (g := gb313) (o := .cells #[.slice (some ad314) l0_0.length c0_0, .int .i64 a0_1, .int .i64 a0_2] 24 (0, 0)) (by (with_reducible repeat (first | refine blk_drewN ?_ _ | refine blk_drew ?_ | refine blk_alloc ?_ _)); exact BK313.out) hb); have n1_ := Aside0.mk (below_step (by repeat (first | (with_reducible first | exact HB.out | apply below_alloc | apply pw_below_drewN | apply below_drew1 | refine below_set ?_ GE313.out) | exact HB.out)) hb); clear BK313; clear HB; have BK313 := n0_; have HB := n1_; clear n0_ n1_; (try clear hb); (try clear hb2); (try clear hk); (try clear hi))); try go_wp2_with (first | (go_at_call 12; (with_reducible refine (tollhouseref15_Tenant.calls k1 ((rd_T27 l0_0 x3_1).f0) _ _ ((rd_T27 l0_0 x3_1).f1) ((rd_T27 l0_0 x3_1).f2) ((rd_T27 l0_0 x3_1).f3) ((rd_T27 l0_0 x3_1).f4) ((rd_T27 l0_0 x3_1).f5) ((rd_T27 l0_0 x3_1).f6) ((rd_T27 l0_0 x3_1).f7) ((rd_T27 l0_0 x3_1).f8) false _ ?side1 ?side2 A5.out).mono ?_); (case side1 => repeat (first | exact (Kd.C_below HR314_1.out HB.out) | (with_reducible refine Kd.C_alloc ?_ _) | (with_reducible refine Kd.C_drewN ?_ _) | (with_reducible refine Kd.C_drew ?_))); (case side2 => exact HC314_1.out); rintro e w18 ⟨rfl, hb⟩; have n0_ := Aside0.mk (blk_below (g := gb313) (o := .cells #[.slice (some ad314) l0_0.length c0_0, .int .i64 a0_1, .int .i64 a0_2] 24 (0, 0)) (by (with_reducible repeat (first | refine blk_drewN ?_ _ | refine blk_drew ?_ | refine blk_alloc ?_ _)); exact BK313.out) hb); have n1_ := Aside0.mk (below_step (by repeat (first | (with_reducible first | exact HB.out | apply below_alloc | apply pw_below_drewN | apply below_drew1 | refine below_set ?_ GE313.out) | exact HB.out)) hb); clear BK313; clear HB; have BK313 := n0_; have HB := n1_; clear n0_ n1_; (try clear hb); (try clear hb2); (try clear hk); (try clear hi))))
            go_ret
            exact ⟨by first | rfl | (simp [errW_none, errW_some] <;> rfl) | (simp [*, errW_none, errW_some] <;> rfl), by repeat (first | (with_reducible first | exact HB.out | apply below_alloc | apply pw_below_drewN | apply below_drew1 | refine below_set ?_ GE313.out) | exact HB.out)⟩
        · rw [if_neg c4] at H
          exact absurd H (by simp)
      · rw [if_neg c3] at H
        have c3b0 : decide (x3_1 < (l0_0.length : Int)) = false := decide_eq_false c3
        clear c3
        by_cases c19 : (l0_0.length : Int) < 1
        · rw [if_pos c19] at H
          have c19b0 : decide ((l0_0.length : Int) < 1) = true := decide_eq_true c19
          have c19b1 : decide (l0_0.length < 1) = true := decide_eq_true (by omega)
          clear c19
          obtain rfl := Option.some.inj H
          have hcz20_0 : wr.cell? ⟨gb313, 0, none⟩ = some (.slice A0_0 l0_0.length c0_0) := (blk_cell BK313.out 0).trans rfl
          have hcz20_1 : wr.cell? ⟨gb313, 1, none⟩ = some (.int .i64 a0_1) := (blk_cell BK313.out 1).trans rfl
          have hcz20_2 : wr.cell? ⟨gb313, 2, none⟩ = some (.int .i64 a0_2) := (blk_cell BK313.out 2).trans rfl
          have hfz20_0 := blk_frozen BK313.out 0
          have hfz20_1 := blk_frozen BK313.out 1
          have hfz20_2 := blk_frozen BK313.out 2
          go_wp2
          repeat (go_quiet (fail); try go_wp2)
          go_ret
          exact ⟨by first | rfl | (simp [errW_none, errW_some] <;> rfl) | (simp [*, errW_none, errW_some] <;> rfl), by repeat (first | (with_reducible first | exact HB.out | apply below_alloc | apply pw_below_drewN | apply below_drew1 | refine below_set ?_ GE313.out) | exact HB.out)⟩
        · rw [if_neg c19] at H
          have c19b0 : decide ((l0_0.length : Int) < 1) = false := decide_eq_false c19
          have c19b1 : decide (l0_0.length < 1) = false := decide_eq_false (by omega)
          clear c19
          by_cases c21 : (l0_0.length : Int) > 8
          · rw [if_pos c21] at H
            have c21b0 : decide (8 < (l0_0.length : Int)) = true := decide_eq_true c21
            have c21b1 : decide (8 < l0_0.length) = true := decide_eq_true (by omega)
            clear c21
            obtain rfl := Option.some.inj H
            have hcz22_0 : wr.cell? ⟨gb313, 0, none⟩ = some (.slice A0_0 l0_0.length c0_0) := (blk_cell BK313.out 0).trans rfl
            have hcz22_1 : wr.cell? ⟨gb313, 1, none⟩ = some (.int .i64 a0_1) := (blk_cell BK313.out 1).trans rfl
            have hcz22_2 : wr.cell? ⟨gb313, 2, none⟩ = some (.int .i64 a0_2) := (blk_cell BK313.out 2).trans rfl
            have hfz22_0 := blk_frozen BK313.out 0
            have hfz22_1 := blk_frozen BK313.out 1
            have hfz22_2 := blk_frozen BK313.out 2
            go_wp2
            repeat (go_quiet (fail); try go_wp2)
            go_ret
            exact ⟨by first | rfl | (simp [errW_none, errW_some] <;> rfl) | (simp [*, errW_none, errW_some] <;> rfl), by repeat (first | (with_reducible first | exact HB.out | apply below_alloc | apply pw_below_drewN | apply below_drew1 | refine below_set ?_ GE313.out) | exact HB.out)⟩
          · rw [if_neg c21] at H
            have c21b0 : decide (8 < (l0_0.length : Int)) = false := decide_eq_false c21
            have c21b1 : decide (8 < l0_0.length) = false := decide_eq_false (by omega)
            clear c21
            by_cases c23 : a0_1 < 0
            · rw [if_pos c23] at H
              have c23b0 : decide (a0_1 < 0) = true := decide_eq_true c23
              clear c23
              obtain rfl := Option.some.inj H
              have hcz24_0 : wr.cell? ⟨gb313, 0, none⟩ = some (.slice A0_0 l0_0.length c0_0) := (blk_cell BK313.out 0).trans rfl
              have hcz24_1 : wr.cell? ⟨gb313, 1, none⟩ = some (.int .i64 a0_1) := (blk_cell BK313.out 1).trans rfl
              have hcz24_2 : wr.cell? ⟨gb313, 2, none⟩ = some (.int .i64 a0_2) := (blk_cell BK313.out 2).trans rfl
              have hfz24_0 := blk_frozen BK313.out 0
              have hfz24_1 := blk_frozen BK313.out 1
              have hfz24_2 := blk_frozen BK313.out 2
              go_wp2
              repeat (go_quiet (fail); try go_wp2)
              go_ret
              exact ⟨by first | rfl | (simp [errW_none, errW_some] <;> rfl) | (simp [*, errW_none, errW_some] <;> rfl), by repeat (first | (with_reducible first | exact HB.out | apply below_alloc | apply pw_below_drewN | apply below_drew1 | refine below_set ?_ GE313.out) | exact HB.out)⟩
            · rw [if_neg c23] at H
              have c23b0 : decide (a0_1 < 0) = false := decide_eq_false c23
              clear c23
              by_cases c25 : a0_1 > 16
              · rw [if_pos c25] at H
                have c25b0 : decide (16 < a0_1) = true := decide_eq_true c25
                clear c25
                obtain rfl := Option.some.inj H
                have hcz26_0 : wr.cell? ⟨gb313, 0, none⟩ = some (.slice A0_0 l0_0.length c0_0) := (blk_cell BK313.out 0).trans rfl
                have hcz26_1 : wr.cell? ⟨gb313, 1, none⟩ = some (.int .i64 a0_1) := (blk_cell BK313.out 1).trans rfl
                have hcz26_2 : wr.cell? ⟨gb313, 2, none⟩ = some (.int .i64 a0_2) := (blk_cell BK313.out 2).trans rfl
                have hfz26_0 := blk_frozen BK313.out 0
                have hfz26_1 := blk_frozen BK313.out 1
                have hfz26_2 := blk_frozen BK313.out 2
                go_wp2
                repeat (go_quiet (fail); try go_wp2)
                go_ret
                exact ⟨by first | rfl | (simp [errW_none, errW_some] <;> rfl) | (simp [*, errW_none, errW_some] <;> rfl), by repeat (first | (with_reducible first | exact HB.out | apply below_alloc | apply pw_below_drewN | apply below_drew1 | refine below_set ?_ GE313.out) | exact HB.out)⟩
              · rw [if_neg c25] at H
                have c25b0 : decide (16 < a0_1) = false := decide_eq_false c25
                clear c25
                by_cases c27 : a0_2 ≥ 1
                · rw [if_pos c27] at H
                  have c27b0 : decide (1 ≤ a0_2) = true := decide_eq_true c27
                  clear c27
                  obtain rfl := Option.some.inj H
                  have hcz28_0 : wr.cell? ⟨gb313, 0, none⟩ = some (.slice A0_0 l0_0.length c0_0) := (blk_cell BK313.out 0).trans rfl
                  have hcz28_1 : wr.cell? ⟨gb313, 1, none⟩ = some (.int .i64 a0_1) := (blk_cell BK313.out 1).trans rfl
                  have hcz28_2 : wr.cell? ⟨gb313, 2, none⟩ = some (.int .i64 a0_2) := (blk_cell BK313.out 2).trans rfl
                  have hfz28_0 := blk_frozen BK313.out 0
                  have hfz28_1 := blk_frozen BK313.out 1
                  have hfz28_2 := blk_frozen BK313.out 2
                  go_wp2
                  repeat (go_quiet (fail); try go_wp2)
                  go_ret
                  exact ⟨by first | rfl | (simp [errW_none, errW_some] <;> rfl) | (simp [*, errW_none, errW_some] <;> rfl), by repeat (first | (with_reducible first | exact HB.out | apply below_alloc | apply pw_below_drewN | apply below_drew1 | refine below_set ?_ GE313.out) | exact HB.out)⟩
                · rw [if_neg c27] at H
                  have c27b0 : decide (1 ≤ a0_2) = false := decide_eq_false c27
                  clear c27
                  obtain rfl := Option.some.inj H
                  have hcz29_0 : wr.cell? ⟨gb313, 0, none⟩ = some (.slice A0_0 l0_0.length c0_0) := (blk_cell BK313.out 0).trans rfl
                  have hcz29_1 : wr.cell? ⟨gb313, 1, none⟩ = some (.int .i64 a0_1) := (blk_cell BK313.out 1).trans rfl
                  have hcz29_2 : wr.cell? ⟨gb313, 2, none⟩ = some (.int .i64 a0_2) := (blk_cell BK313.out 2).trans rfl
                  have hfz29_0 := blk_frozen BK313.out 0
                  have hfz29_1 := blk_frozen BK313.out 1
                  have hfz29_2 := blk_frozen BK313.out 2
                  go_wp2
                  repeat (go_quiet (fail); try go_wp2)
                  go_ret
                  exact ⟨by first | rfl | (simp [errW_none, errW_some] <;> rfl) | (simp [*, errW_none, errW_some] <;> rfl), by repeat (first | (with_reducible first | exact HB.out | apply below_alloc | apply pw_below_drewN | apply below_drew1 | refine below_set ?_ GE313.out) | exact HB.out)⟩

end Go.Proofs.YtepljhleaohbcaaGreatDoor.P
end

section
/- The walk of the Go function tollhouseref15 Credential, and what it computes. By program. Conditions: none but those that each theorem names. -/
namespace Go.Proofs.YtepljhleaohbcaaGreatDoor.P
open Go.RowKit Go.Proofs.YtepljhleaohbcaaGreatDoorW.PrintWords Go.Proofs.YtepljhleaohbcaaGreatDoorW.PrintLast Go.Proofs.YtepljhleaohbcaaGreatDoorW.PrintMore
attribute [local go_sem] max2_int min2_int max_two min_two max_three min_three max_four min_four

/-! ### tollhouseref15_Credential: function 17 -/
mutual
def tollhouseref15_Credential.j0 : Nat → ByteArray → Bool → Option (ByteArray × Bool)
  | 0, _, _ => none
  | k + 1, x0, x18 => if x18 = true then (some ((⟨#[]⟩ : ByteArray), false)) else (tollhouseref15_Credential.l0 k x0 6)
def tollhouseref15_Credential.l0 : Nat → ByteArray → Int → Option (ByteArray × Bool)
  | 0, _, _ => none
  | k + 1, x0, x4 => if x4 < (x0.size : Int) then (if 0 ≤ x4 then (if (bt x0 x4) = 32 then (tollhouseref15_Credential.l0 k x0 (wrap64 (x4 + 1))) else (if x4 ≤ (x0.size : Int) then ((tollhouseref15_May.f k (x0.extract (x4 : Int).toNat x0.size)).bind fun t203 => (if t203 = true then (some (x0.extract (x4 : Int).toNat x0.size, true)) else (some ((⟨#[]⟩ : ByteArray), false)))) else (none))) else (none)) else (if 0 ≤ x4 then (if x4 ≤ (x0.size : Int) then ((tollhouseref15_May.f k (x0.extract (x4 : Int).toNat x0.size)).bind fun t204 => (if t204 = true then (some (x0.extract (x4 : Int).toNat x0.size, true)) else (some ((⟨#[]⟩ : ByteArray), false)))) else (none)) else (none))
end
def tollhouseref15_Credential.f (k : Nat) (a0 : ByteArray) : Option (ByteArray × Bool) := if (a0.size : Int) < 8 then (tollhouseref15_Credential.j0 k a0 true) else (if 0 ≤ 6 then (if 6 ≤ (a0.size : Int) then ((tollhouseref02_Lower.f k (a0.extract 0 6)).bind fun t202 => (if t202.toList = ([98, 101, 97, 114, 101, 114] : List UInt8) then (if 6 < (a0.size : Int) then (tollhouseref15_Credential.j0 k a0 ((bt a0 6) != 32)) else (none)) else (tollhouseref15_Credential.j0 k a0 true))) else (none)) else (none))
theorem tollhouseref15_Credential.mono_l : ∀ k, (∀ y0 y1, LeO (tollhouseref15_Credential.j0 k y0 y1) (tollhouseref15_Credential.j0 (k + 1) y0 y1)) ∧ (∀ y0 y1, LeO (tollhouseref15_Credential.l0 k y0 y1) (tollhouseref15_Credential.l0 (k + 1) y0 y1))
  | 0 => ⟨fun _ _ r h => by simp [tollhouseref15_Credential.j0] at h, fun _ _ r h => by simp [tollhouseref15_Credential.l0] at h⟩
  | k + 1 => by
    obtain ⟨ih0, ih1⟩ := tollhouseref15_Credential.mono_l k
    refine ⟨?_, ?_⟩
    · intro y0 y1
      unfold tollhouseref15_Credential.j0
      repeat' first
      | (with_reducible exact ih0 _ _)
      | (with_reducible exact ih1 _ _)
      | (with_reducible exact tollhouseref02_Lower.mono _ _)
      | (with_reducible exact tollhouseref15_May.mono _ _)
      | (with_reducible exact LeO.refl _)
      | (with_reducible exact LeO.none _)
      | (with_reducible refine LeO.ite ?_ ?_)
      | (with_reducible refine LeO.bind ?_ (fun _ => ?_))
      | exact ih0 _ _
      | exact ih1 _ _
      | exact tollhouseref02_Lower.mono _ _
      | exact tollhouseref15_May.mono _ _
      | exact LeO.none _
      | refine LeO.ite ?_ ?_
      | refine LeO.bind ?_ (fun _ => ?_)
    · intro y0 y1
      unfold tollhouseref15_Credential.l0
      repeat' first
      | (with_reducible exact ih0 _ _)
      | (with_reducible exact ih1 _ _)
      | (with_reducible exact tollhouseref02_Lower.mono _ _)
      | (with_reducible exact tollhouseref15_May.mono _ _)
      | (with_reducible exact LeO.refl _)
      | (with_reducible exact LeO.none _)
      | (with_reducible refine LeO.ite ?_ ?_)
      | (with_reducible refine LeO.bind ?_ (fun _ => ?_))
      | exact ih0 _ _
      | exact ih1 _ _
      | exact tollhouseref02_Lower.mono _ _
      | exact tollhouseref15_May.mono _ _
      | exact LeO.none _
      | refine LeO.ite ?_ ?_
      | refine LeO.bind ?_ (fun _ => ?_)
theorem tollhouseref15_Credential.mono : ∀ a0 k, LeO (tollhouseref15_Credential.f k a0) (tollhouseref15_Credential.f (k + 1) a0) := by
  intro a0 k
  obtain ⟨ih0, ih1⟩ := tollhouseref15_Credential.mono_l k
  unfold tollhouseref15_Credential.f
  repeat' first
      | (with_reducible exact ih0 _ _)
      | (with_reducible exact ih1 _ _)
      | (with_reducible exact tollhouseref02_Lower.mono _ _)
      | (with_reducible exact tollhouseref15_May.mono _ _)
      | (with_reducible exact LeO.refl _)
      | (with_reducible exact LeO.none _)
      | (with_reducible refine LeO.ite ?_ ?_)
      | (with_reducible refine LeO.bind ?_ (fun _ => ?_))
      | exact ih0 _ _
      | exact ih1 _ _
      | exact tollhouseref02_Lower.mono _ _
      | exact tollhouseref15_May.mono _ _
      | exact LeO.none _
      | refine LeO.ite ?_ ?_
      | refine LeO.bind ?_ (fun _ => ?_)
set_option maxHeartbeats 8000000 in
set_option maxRecDepth 100000 in
theorem tollhouseref15_Credential.calls (k : Nat) (a0 : ByteArray) (r1 : ByteArray) (r2 : Bool) (w : World) (h : tollhouseref15_Credential.f k a0 = some (r1, r2)) :
    Calls Tryz.prog 17 #[.string a0] w fun e w' => e = .returned (.tuple #[.string r1, .bool r2]) ∧ Below w.heap.size w w' := by
  have HB := Aside0.mk (Below.refl w.heap.size w)
  have H : (if (a0.size : Int) < 8 then (tollhouseref15_Credential.j0 k a0 true) else (if 0 ≤ 6 then (if 6 ≤ (a0.size : Int) then ((tollhouseref02_Lower.f k (a0.extract 0 6)).bind fun t202 => (if t202.toList = ([98, 101, 97, 114, 101, 114] : List UInt8) then (if 6 < (a0.size : Int) then (tollhouseref15_Credential.j0 k a0 ((bt a0 6) != 32)) else (none)) else (tollhouseref15_Credential.j0 k a0 true))) else (none)) else (none))) = some (r1, r2) := h
  clear h
  have HC2 := Aside0.mk H
  clear H
  go_enter Tryz.func17, Tryz.ntmps17
  go_upto_region 1 with (fail)
  go_cut [18] (fun v18 wc => ∃ (kq : Nat) (x18_1 : Bool), v18 = .bool x18_1 ∧ Aside0 (tollhouseref15_Credential.j0 kq a0 x18_1 = some (r1, r2)) ∧ Aside0 (kq ≤ k) ∧ Aside0 (Below w.heap.size w wc))
  case first =>
    have H := HC2.out
    clear HC2
    by_cases c3 : (a0.size : Int) < 8
    · rw [if_pos c3] at H
      have c3b0 : decide ((a0.size : Int) < 8) = true := decide_eq_true c3
      have c3b1 : decide (a0.size < 8) = true := decide_eq_true (by omega)
      clear c3
      (first | rw [c3b0] | (simp only [i64_w, i32_w]; rw [c3b0]) | skip)
      have H' := Aside0.mk H
      clear H
      go_wp2
      go_meet
      case rel => exact ⟨_, (true), (by first | rfl | (simp; done) | (simp [*]; done)), H', ⟨by first | omega | exact Nat.le_refl _⟩, ⟨by repeat (first | (with_reducible first | exact HB.out | apply below_alloc | apply pw_below_drewN | apply below_drew1) | exact HB.out)⟩⟩
    · rw [if_neg c3] at H
      have c3b0 : decide ((a0.size : Int) < 8) = false := decide_eq_false c3
      have c3b1 : decide (a0.size < 8) = false := decide_eq_false (by omega)
      clear c3
      (first | rw [c3b0] | (simp only [i64_w, i32_w]; rw [c3b0]) | skip)
      by_cases c4 : 0 ≤ 6
      · rw [if_pos c4] at H
        have c4b0 := eq_true c4
        have c4b1 : decide (0 ≤ 6) = true := decide_eq_true c4
        clear c4
        by_cases c5 : 6 ≤ (a0.size : Int)
        · rw [if_pos c5] at H
          have c5b0 := eq_true c5
          have c5b1 : decide (6 ≤ (a0.size : Int)) = true := decide_eq_true c5
          clear c5
          replace H := Option.bind_eq_some_iff.mp H
          obtain ⟨t202, A60, H⟩ := H
          replace H : (if t202.toList = ([98, 101, 97, 114, 101, 114] : List UInt8) then (if 6 < (a0.size : Int) then (tollhouseref15_Credential.j0 k a0 ((bt a0 6) != 32)) else (none)) else (tollhouseref15_Credential.j0 k a0 true)) = some (r1, r2) := H
          have A6 := Aside0.mk A60
          clear A60
          by_cases c7 : t202.toList = ([98, 101, 97, 114, 101, 114] : List UInt8)
          · rw [if_pos c7] at H
            have c7b0 : (t202.toList == ([98, 101, 97, 114, 101, 114] : List UInt8)) = true := beq_iff_eq.mpr c7
            have c7b1 : (t202.toList != ([98, 101, 97, 114, 101, 114] : List UInt8)) = false := bne_eq_false_iff_eq.mpr c7
            clear c7
            by_cases c8 : 6 < (a0.size : Int)
            · rw [if_pos c8] at H
              have c8b0 : decide (6 < (a0.size : Int)) = true := decide_eq_true c8
              have c8b1 : decide (6 < a0.size) = true := decide_eq_true (by omega)
              clear c8
              have H' := Aside0.mk H
              clear H
              go_wp2_with (first | (go_at_call 33; (with_reducible refine (tollhouseref02_Lower.calls k (a0.extract 0 6) t202 _ A6.out).mono ?_); rintro e w10 ⟨rfl, hb⟩; have n0_ := Aside0.mk (below_step (by repeat (first | (with_reducible first | exact HB.out | apply below_alloc | apply pw_below_drewN | apply below_drew1) | exact HB.out)) hb); clear HB; have HB := n0_; clear n0_; (try clear hb); (try clear hb2); (try clear hk); (try clear hi); have p9 : 0 ≤ (6 : Int) := (by omega); have q9 : 6 < a0.size := (by have : (6 : Int) < (a0.size : Int) := of_decide_eq_true (by first | (with_reducible assumption) | assumption); omega); have hx9 : ∀ h : 6 < a0.size, ((a0[6]'h).toNat : Int) = bt a0 6 := bt_at a0 6; clear p9; have qi9 : (6 < (a0.size : Int)) = True := eq_true (of_decide_eq_true (by first | (with_reducible assumption) | assumption)); replace q9 := eq_true q9))
              go_meet
              case rel => exact ⟨_, (((bt a0 6) != 32)), (by first | rfl | (simp; done) | (simp [*]; done)), H', ⟨by first | omega | exact Nat.le_refl _⟩, ⟨by repeat (first | (with_reducible first | exact HB.out | apply below_alloc | apply pw_below_drewN | apply below_drew1) | exact HB.out)⟩⟩
            · rw [if_neg c8] at H
              exact absurd H (by simp)
          · rw [if_neg c7] at H
            have c7b0 : (t202.toList == ([98, 101, 97, 114, 101, 114] : List UInt8)) = false := beq_eq_false_iff_ne.mpr c7
            have c7b1 : (t202.toList != ([98, 101, 97, 114, 101, 114] : List UInt8)) = true := bne_iff_ne.mpr c7
            have H' := Aside0.mk H
            clear H
            go_wp2_with (first | (go_at_call 33; (with_reducible refine (tollhouseref02_Lower.calls k (a0.extract 0 6) t202 _ A6.out).mono ?_); rintro e w11 ⟨rfl, hb⟩; have n0_ := Aside0.mk (below_step (by repeat (first | (with_reducible first | exact HB.out | apply below_alloc | apply pw_below_drewN | apply below_drew1) | exact HB.out)) hb); clear HB; have HB := n0_; clear n0_; (try clear hb); (try clear hb2); (try clear hk); (try clear hi)))
            go_meet
            case rel => exact ⟨_, (true), (by first | rfl | (simp; done) | (simp [*]; done)), H', ⟨by first | omega | exact Nat.le_refl _⟩, ⟨by repeat (first | (with_reducible first | exact HB.out | apply below_alloc | apply pw_below_drewN | apply below_drew1) | exact HB.out)⟩⟩
        · rw [if_neg c5] at H
          exact absurd H (by simp)
      · exact absurd (by decide) c4
  case rest =>
    clear HC2
    try clear c1
    try clear p2
    try clear c3
    try clear c3b0
    try clear c3b1
    try clear c4
    try clear c4b0
    try clear c4b1
    try clear c5
    try clear c5b0
    try clear c5b1
    try clear c7
    try clear c7b0
    try clear c7b1
    try clear c8
    try clear c8b0
    try clear c8b1
    try clear p9
    try clear q9
    try clear hx9
    try clear qi9
    try clear p9
    try clear q9
    obtain ⟨kq, x18_1, rfl, HA, HJ1, HB⟩ := hcut
    cases kq with
    | zero => exact absurd HA.out (by simp [tollhouseref15_Credential.j0])
    | succ kj1 =>
      have H := HA.out
      clear HA
      simp only [tollhouseref15_Credential.j0] at H
      by_cases c12 : x18_1 = true
      · subst c12
        have H1 : (some ((⟨#[]⟩ : ByteArray), false)) = some (r1, r2) := by rw [if_pos rfl] at H; exact H
        clear H
        have H := H1
        clear H1
        simp only [Option.some.injEq, Prod.mk.injEq] at H
        obtain ⟨rfl, rfl⟩ := H
        go_wp2
        go_ret2
        exact ⟨by first | rfl | (simp [errW_none, errW_some] <;> rfl) | (simp [*, errW_none, errW_some] <;> rfl), by repeat (first | (with_reducible first | exact HB.out | apply below_alloc | apply pw_below_drewN | apply below_drew1) | exact HB.out)⟩
      · replace c12 := Bool.eq_false_iff.mpr c12
        subst c12
        have H1 : (tollhouseref15_Credential.l0 kj1 a0 6) = some (r1, r2) := by rw [if_neg (show ¬ (false = true) by decide)] at H; exact H
        clear H
        have H := H1
        clear H1
        have H' := Aside0.mk H
        clear H
        go_wp2
        go_loopg [4] kj1 (fun kq v4 w' => ∃ (x4_2 : Int), v4 = .int .i64 x4_2 ∧ Aside0 (tollhouseref15_Credential.l0 kq a0 x4_2 = some (r1, r2)) ∧ Aside0 (kq ≤ kj1) ∧ Aside0 (Below w.heap.size w w'))
        case atStart => exact ⟨(6), (by first | rfl | (simp; done) | (simp [*]; done)), H', ⟨Nat.le_refl _⟩, ⟨by repeat (first | (with_reducible first | exact HB.out | apply below_alloc | apply pw_below_drewN | apply below_drew1) | exact HB.out)⟩⟩
        case round =>
          clear H'
          try clear c1
          try clear p2
          try clear c3
          try clear c3b0
          try clear c3b1
          try clear c4
          try clear c4b0
          try clear c4b1
          try clear c5
          try clear c5b0
          try clear c5b1
          try clear c7
          try clear c7b0
          try clear c7b1
          try clear c8
          try clear c8b0
          try clear c8b1
          try clear p9
          try clear q9
          try clear hx9
          try clear qi9
          try clear c12
          try clear p2
          try clear p9
          try clear q9
          obtain ⟨x4_2, rfl, HA, HK2, HB⟩ := hrel
          cases gk with
          | zero => exact absurd HA.out (by simp [tollhouseref15_Credential.l0])
          | succ k2 =>
            have H := HA.out
            clear HA
            simp only [tollhouseref15_Credential.l0] at H
            by_cases c13 : x4_2 < (a0.size : Int)
            · rw [if_pos c13] at H
              have c13b0 : decide (x4_2 < (a0.size : Int)) = true := decide_eq_true c13
              clear c13
              by_cases c14 : 0 ≤ x4_2
              · rw [if_pos c14] at H
                have c14b0 : decide (0 ≤ x4_2) = true := decide_eq_true c14
                clear c14
                by_cases c16 : (bt a0 x4_2) = 32
                · rw [if_pos c16] at H
                  have c16b0 : ((bt a0 x4_2) == 32) = true := beq_iff_eq.mpr c16
                  have c16b1 : ((bt a0 x4_2) != 32) = false := bne_eq_false_iff_eq.mpr c16
                  clear c16
                  have H' := Aside0.mk H
                  clear H
                  have p15 : 0 ≤ (x4_2 : Int) := of_decide_eq_true (by first | (with_reducible assumption) | assumption)
                  have q15 : x4_2 < (a0.size : Int) := of_decide_eq_true (by first | (with_reducible assumption) | assumption)
                  have hx15 := bt_at a0 x4_2
                  replace p15 := eq_true p15
                  replace q15 := eq_true q15
                  go_wp2
                  go_roundg k2
                  case measure => have := HJ1.out; have := HK2.out; omega
                  case rel => exact ⟨(wrap64 (x4_2 + 1)), (by first | rfl | (simp; done) | (simp [*]; done)), H', ⟨by have := HJ1.out; have := HK2.out; omega⟩, ⟨by repeat (first | (with_reducible first | exact HB.out | apply below_alloc | apply pw_below_drewN | apply below_drew1) | exact HB.out)⟩⟩
                · rw [if_neg c16] at H
                  have c16b0 : ((bt a0 x4_2) == 32) = false := beq_eq_false_iff_ne.mpr c16
                  have c16b1 : ((bt a0 x4_2) != 32) = true := bne_iff_ne.mpr c16
                  have c17b0 := eq_true (of_decide_eq_true (by first | (with_reducible assumption) | assumption) : 0 ≤ x4_2)
                  by_cases c18 : x4_2 ≤ (a0.size : Int)
                  · rw [if_pos c18] at H
                    have c18b0 := eq_true c18
                    have c18b1 : decide (x4_2 ≤ (a0.size : Int)) = true := decide_eq_true c18
                    clear c18
                    replace H := Option.bind_eq_some_iff.mp H
                    obtain ⟨t203, A190, H⟩ := H
                    replace H : (if t203 = true then (some (a0.extract (x4_2 : Int).toNat a0.size, true)) else (some ((⟨#[]⟩ : ByteArray), false))) = some (r1, r2) := H
                    have A19 := Aside0.mk A190
                    clear A190
                    by_cases c20 : t203 = true
                    · subst c20
                      have H1 : (some (a0.extract (x4_2 : Int).toNat a0.size, true)) = some (r1, r2) := by rw [if_pos rfl] at H; exact H
                      clear H
                      have H := H1
                      clear H1
                      have c21b0 := eq_true (of_decide_eq_true (by first | (with_reducible assumption) | assumption) : 0 ≤ x4_2)
                      have c22b0 := eq_true (of_decide_eq_true (by first | (with_reducible assumption) | assumption) : x4_2 ≤ (a0.size : Int))
                      simp only [Option.some.injEq, Prod.mk.injEq] at H
                      obtain ⟨rfl, rfl⟩ := H
                      have p15 : 0 ≤ (x4_2 : Int) := of_decide_eq_true (by first | (with_reducible assumption) | assumption)
                      have q15 : x4_2 < (a0.size : Int) := of_decide_eq_true (by first | (with_reducible assumption) | assumption)
                      have hx15 := bt_at a0 x4_2
                      replace p15 := eq_true p15
                      replace q15 := eq_true q15
                      go_wp2_with (first | ((with_reducible refine gate_callee (f := 14) rfl ?_); refine goesL_ (some 34) rfl rfl Tryz.func14 (by kernel_rfl) rfl #[.string (a0.extract (x4_2 : Int).toNat a0.size)] rfl (by (try simp only [List.map_toArray, List.map_cons, List.map_nil]); first | done | rfl | (simp only [List.length_drop, List.length_take]; rfl)) ?_; (with_reducible refine (tollhouseref15_May.calls k2 (a0.extract (x4_2 : Int).toNat a0.size) true _ A19.out).mono ?_); rintro e w' ⟨rfl, ⟨nd, rfl⟩⟩; refine ⟨_, rfl, ?_⟩))
                      go_ret2
                      exact ⟨by first | rfl | (simp [errW_none, errW_some] <;> rfl) | (simp [*, errW_none, errW_some] <;> rfl), by repeat (first | (with_reducible first | exact HB.out | apply below_alloc | apply pw_below_drewN | apply below_drew1) | exact HB.out)⟩
                    · replace c20 := Bool.eq_false_iff.mpr c20
                      subst c20
                      have H1 : (some ((⟨#[]⟩ : ByteArray), false)) = some (r1, r2) := by rw [if_neg (show ¬ (false = true) by decide)] at H; exact H
                      clear H
                      have H := H1
                      clear H1
                      simp only [Option.some.injEq, Prod.mk.injEq] at H
                      obtain ⟨rfl, rfl⟩ := H
                      have p15 : 0 ≤ (x4_2 : Int) := of_decide_eq_true (by first | (with_reducible assumption) | assumption)
                      have q15 : x4_2 < (a0.size : Int) := of_decide_eq_true (by first | (with_reducible assumption) | assumption)
                      have hx15 := bt_at a0 x4_2
                      replace p15 := eq_true p15
                      replace q15 := eq_true q15
                      go_wp2_with (first | ((with_reducible refine gate_callee (f := 14) rfl ?_); refine goesL_ (some 34) rfl rfl Tryz.func14 (by kernel_rfl) rfl #[.string (a0.extract (x4_2 : Int).toNat a0.size)] rfl (by (try simp only [List.map_toArray, List.map_cons, List.map_nil]); first | done | rfl | (simp only [List.length_drop, List.length_take]; rfl)) ?_; (with_reducible refine (tollhouseref15_May.calls k2 (a0.extract (x4_2 : Int).toNat a0.size) false _ A19.out).mono ?_); rintro e w' ⟨rfl, ⟨nd, rfl⟩⟩; refine ⟨_, rfl, ?_⟩))
                      go_ret2
                      exact ⟨by first | rfl | (simp [errW_none, errW_some] <;> rfl) | (simp [*, errW_none, errW_some] <;> rfl), by repeat (first | (with_reducible first | exact HB.out | apply below_alloc | apply pw_below_drewN | apply below_drew1) | exact HB.out)⟩
                  · rw [if_neg c18] at H
                    exact absurd H (by simp)
              · rw [if_neg c14] at H
                exact absurd H (by simp)
            · rw [if_neg c13] at H
              have c13b0 : decide (x4_2 < (a0.size : Int)) = false := decide_eq_false c13
              clear c13
              by_cases c23 : 0 ≤ x4_2
              · rw [if_pos c23] at H
                have c23b0 := eq_true c23
                have c23b1 : decide (0 ≤ x4_2) = true := decide_eq_true c23
                clear c23
                by_cases c24 : x4_2 ≤ (a0.size : Int)
                · rw [if_pos c24] at H
                  have c24b0 := eq_true c24
                  have c24b1 : decide (x4_2 ≤ (a0.size : Int)) = true := decide_eq_true c24
                  clear c24
                  replace H := Option.bind_eq_some_iff.mp H
                  obtain ⟨t204, A250, H⟩ := H
                  replace H : (if t204 = true then (some (a0.extract (x4_2 : Int).toNat a0.size, true)) else (some ((⟨#[]⟩ : ByteArray), false))) = some (r1, r2) := H
                  have A25 := Aside0.mk A250
                  clear A250
                  by_cases c26 : t204 = true
                  · subst c26
                    have H1 : (some (a0.extract (x4_2 : Int).toNat a0.size, true)) = some (r1, r2) := by rw [if_pos rfl] at H; exact H
                    clear H
                    have H := H1
                    clear H1
                    have c27b0 := eq_true (of_decide_eq_true (by first | (with_reducible assumption) | assumption) : 0 ≤ x4_2)
                    have c28b0 := eq_true (of_decide_eq_true (by first | (with_reducible assumption) | assumption) : x4_2 ≤ (a0.size : Int))
                    simp only [Option.some.injEq, Prod.mk.injEq] at H
                    obtain ⟨rfl, rfl⟩ := H
                    go_wp2_with (first | ((with_reducible refine gate_callee (f := 14) rfl ?_); refine goesL_ (some 34) rfl rfl Tryz.func14 (by kernel_rfl) rfl #[.string (a0.extract (x4_2 : Int).toNat a0.size)] rfl (by (try simp only [List.map_toArray, List.map_cons, List.map_nil]); first | done | rfl | (simp only [List.length_drop, List.length_take]; rfl)) ?_; (with_reducible refine (tollhouseref15_May.calls k2 (a0.extract (x4_2 : Int).toNat a0.size) true _ A25.out).mono ?_); rintro e w' ⟨rfl, ⟨nd, rfl⟩⟩; refine ⟨_, rfl, ?_⟩))
                    go_ret2
                    exact ⟨by first | rfl | (simp [errW_none, errW_some] <;> rfl) | (simp [*, errW_none, errW_some] <;> rfl), by repeat (first | (with_reducible first | exact HB.out | apply below_alloc | apply pw_below_drewN | apply below_drew1) | exact HB.out)⟩
                  · replace c26 := Bool.eq_false_iff.mpr c26
                    subst c26
                    have H1 : (some ((⟨#[]⟩ : ByteArray), false)) = some (r1, r2) := by rw [if_neg (show ¬ (false = true) by decide)] at H; exact H
                    clear H
                    have H := H1
                    clear H1
                    simp only [Option.some.injEq, Prod.mk.injEq] at H
                    obtain ⟨rfl, rfl⟩ := H
                    go_wp2_with (first | ((with_reducible refine gate_callee (f := 14) rfl ?_); refine goesL_ (some 34) rfl rfl Tryz.func14 (by kernel_rfl) rfl #[.string (a0.extract (x4_2 : Int).toNat a0.size)] rfl (by (try simp only [List.map_toArray, List.map_cons, List.map_nil]); first | done | rfl | (simp only [List.length_drop, List.length_take]; rfl)) ?_; (with_reducible refine (tollhouseref15_May.calls k2 (a0.extract (x4_2 : Int).toNat a0.size) false _ A25.out).mono ?_); rintro e w' ⟨rfl, ⟨nd, rfl⟩⟩; refine ⟨_, rfl, ?_⟩))
                    go_ret2
                    exact ⟨by first | rfl | (simp [errW_none, errW_some] <;> rfl) | (simp [*, errW_none, errW_some] <;> rfl), by repeat (first | (with_reducible first | exact HB.out | apply below_alloc | apply pw_below_drewN | apply below_drew1) | exact HB.out)⟩
                · rw [if_neg c24] at H
                  exact absurd H (by simp)
              · rw [if_neg c23] at H
                exact absurd H (by simp)

end Go.Proofs.YtepljhleaohbcaaGreatDoor.P
end

section
/- The walk of the Go function tollhouseref15 Holds, and what it computes. By program. Conditions: none but those that each theorem names. -/
namespace Go.Proofs.YtepljhleaohbcaaGreatDoor.P
open Go.RowKit Go.Proofs.YtepljhleaohbcaaGreatDoorW.PrintWords Go.Proofs.YtepljhleaohbcaaGreatDoorW.PrintLast Go.Proofs.YtepljhleaohbcaaGreatDoorW.PrintMore
attribute [local go_sem] max2_int min2_int max_two min_two max_three min_three max_four min_four

/-! ### tollhouseref15_Holds: function 19 -/
def tollhouseref15_Holds.f (k : Nat) (a0 : ByteArray) (l1 : List (S48)) : Option (Bool) := (tollhouseref05_Get.f k l1 (⟨#[112, 114, 111, 120, 121, 45, 97, 117, 116, 104, 111, 114, 105, 122, 97, 116, 105, 111, 110]⟩ : ByteArray)).bind fun t213 => (if (t213.length : Int) = 1 then (if 0 < (t213.length : Int) then ((tollhouseref15_Credential.f k (rdOf ByteArray.empty t213 0)).bind fun bt217 => (if bt217.2 = true then (some (bt217.1.toList == a0.toList)) else (some false))) else (none)) else (some false))
theorem tollhouseref15_Holds.mono : ∀ a0 a1 k, LeO (tollhouseref15_Holds.f k a0 a1) (tollhouseref15_Holds.f (k + 1) a0 a1) := by
  intro a0 a1 k
  unfold tollhouseref15_Holds.f
  repeat' first
      | (with_reducible exact tollhouseref05_Get.mono _ _ _)
      | (with_reducible exact tollhouseref15_Credential.mono _ _)
      | (with_reducible exact LeO.refl _)
      | (with_reducible exact LeO.none _)
      | (with_reducible refine LeO.ite ?_ ?_)
      | (with_reducible refine LeO.bind ?_ (fun _ => ?_))
      | exact tollhouseref05_Get.mono _ _ _
      | exact tollhouseref15_Credential.mono _ _
      | exact LeO.none _
      | refine LeO.ite ?_ ?_
      | refine LeO.bind ?_ (fun _ => ?_)
set_option maxHeartbeats 8000000 in
set_option maxRecDepth 100000 in
theorem tollhouseref15_Holds.calls (k : Nat) (a0 : ByteArray) (A1 : Option Addr) (c1 : Nat) (l1 : List (S48)) (r : Bool) (w : World) (hr1 : Kd.C k48 w A1 l1.length l1) (hc1 : l1.length ≤ c1) (h : tollhouseref15_Holds.f k a0 l1 = some r) :
    Calls Tryz.prog 19 #[.string a0, .slice A1 l1.length c1] w fun e w' => e = .returned (.bool r) ∧ Below w.heap.size w w' := by
  have HR1 := Aside0.mk hr1
  have HC1 := Aside0.mk hc1
  clear hr1 hc1
  have HB := Aside0.mk (Below.refl w.heap.size w)
  have H : ((tollhouseref05_Get.f k l1 (⟨#[112, 114, 111, 120, 121, 45, 97, 117, 116, 104, 111, 114, 105, 122, 97, 116, 105, 111, 110]⟩ : ByteArray)).bind fun t213 => (if (t213.length : Int) = 1 then (if 0 < (t213.length : Int) then ((tollhouseref15_Credential.f k (rdOf ByteArray.empty t213 0)).bind fun bt217 => (if bt217.2 = true then (some (bt217.1.toList == a0.toList)) else (some false))) else (none)) else (some false))) = some r := h
  clear h
  replace H := Option.bind_eq_some_iff.mp H
  obtain ⟨t213, A30, H⟩ := H
  replace H : (if (t213.length : Int) = 1 then (if 0 < (t213.length : Int) then ((tollhouseref15_Credential.f k (rdOf ByteArray.empty t213 0)).bind fun bt217 => (if bt217.2 = true then (some (bt217.1.toList == a0.toList)) else (some false))) else (none)) else (some false)) = some r := H
  have A3 := Aside0.mk A30
  clear A30
  by_cases c4 : (t213.length : Int) = 1
  · rw [if_pos c4] at H
    have c4b0 : ((t213.length : Int) == 1) = true := beq_iff_eq.mpr c4
    have c4b1 : ((t213.length : Int) != 1) = false := bne_eq_false_iff_eq.mpr c4
    clear c4
    by_cases c5 : 0 < (t213.length : Int)
    · rw [if_pos c5] at H
      have c5b0 : decide (0 < (t213.length : Int)) = true := decide_eq_true c5
      have c5b1 : decide (0 < t213.length) = true := decide_eq_true (by omega)
      clear c5
      replace H := Option.bind_eq_some_iff.mp H
      obtain ⟨⟨t217, t218⟩, A60, H⟩ := H
      replace H : (if t218 = true then (some (t217.toList == a0.toList)) else (some false)) = some r := H
      have A6 := Aside0.mk A60
      clear A60
      by_cases c7 : t218 = true
      · subst c7
        have H1 : (some (t217.toList == a0.toList)) = some r := by rw [if_pos rfl] at H; exact H
        clear H
        have H := H1
        clear H1
        obtain rfl := Option.some.inj H
        go_enter Tryz.func19, Tryz.ntmps19
        go_wp2_with (first | ((with_reducible refine gate_callee (f := 35) rfl ?_); refine goesL_ (some 9) rfl rfl Tryz.func35 (by kernel_rfl) rfl #[.slice A1 l1.length c1, .string (⟨#[112, 114, 111, 120, 121, 45, 97, 117, 116, 104, 111, 114, 105, 122, 97, 116, 105, 111, 110]⟩ : ByteArray)] rfl (by (try simp only [List.map_toArray, List.map_cons, List.map_nil]); first | done | rfl | (simp only [List.length_drop, List.length_take]; rfl)) ?_; (with_reducible refine (tollhouseref05_Get.calls k _ _ l1 (⟨#[112, 114, 111, 120, 121, 45, 97, 117, 116, 104, 111, 114, 105, 122, 97, 116, 105, 111, 110]⟩ : ByteArray) t213 _ ?side1 ?side2 A3.out).mono ?_); (case side1 => repeat (first | exact HR1.out | (with_reducible refine Kd.C_alloc ?_ _) | (with_reducible refine Kd.C_drewN ?_ _) | (with_reducible refine Kd.C_drew ?_))); (case side2 => exact HC1.out); rintro e w8 ⟨v214, rfl, ho0, hb⟩; refine ⟨_, rfl, ?_⟩; have n0_ := Aside0.mk (Kd.R_lower ho0 (below_size (by repeat (first | (with_reducible first | exact HB.out | apply below_alloc | apply pw_below_drewN | apply below_drew1) | exact HB.out)))); have n1_ := Aside0.mk (below_step (by repeat (first | (with_reducible first | exact HB.out | apply below_alloc | apply pw_below_drewN | apply below_drew1) | exact HB.out)) hb); clear HB; have HO215 := n0_; have HB := n1_; clear n0_ n1_; (try clear hb); (try clear hb2); (try clear hk); (try clear hi); (try clear ho0); obtain ⟨Ao9, co9, eo9⟩ := Kd.R_slice HO215.out; subst eo9; have p216 : 0 ≤ (0 : Int) := (by omega); have q216 : 0 < (t213.length : Int) := of_decide_eq_true (by first | (with_reducible assumption) | assumption); obtain ⟨ad216, e216, hx216_0⟩ := Kd.at_string (Kd.R_reads' HO215.out).2.2 0 p216 q216; cases e216; have qi216 : (0 < t213.length) = True := eq_true (by omega); (try rw [show ((0 : Int)).toNat = 0 from rfl] at hx216_0); (try rw [Addr.add_zero'] at hx216_0); replace p216 := eq_true p216; replace q216 := eq_true q216) | ((with_reducible refine gate_callee (f := 17) rfl ?_); refine goesL_ (some 17) rfl rfl Tryz.func17 (by kernel_rfl) rfl #[.string (rdOf ByteArray.empty t213 0)] rfl (by (try simp only [List.map_toArray, List.map_cons, List.map_nil]); first | done | rfl | (simp only [List.length_drop, List.length_take]; rfl)) ?_; (with_reducible refine (tollhouseref15_Credential.calls k (rdOf ByteArray.empty t213 0) t217 true _ A6.out).mono ?_); rintro e w10 ⟨rfl, hb⟩; refine ⟨_, rfl, ?_⟩; have n0_ := Aside0.mk (Kd.R_below (by (with_reducible repeat (first | apply Kd.R_alloc | apply Kd.R_drewN | apply Kd.R_drew)); exact HO215.out) hb); have n1_ := Aside0.mk (below_step (by repeat (first | (with_reducible first | exact HB.out | apply below_alloc | apply pw_below_drewN | apply below_drew1) | exact HB.out)) hb); clear HO215; clear HB; have HO215 := n0_; have HB := n1_; clear n0_ n1_; (try clear hb); (try clear hb2); (try clear hk); (try clear hi)))
        go_ret
        exact ⟨by first | rfl | (simp [errW_none, errW_some] <;> rfl) | (simp [*, errW_none, errW_some] <;> rfl), by repeat (first | (with_reducible first | exact HB.out | apply below_alloc | apply pw_below_drewN | apply below_drew1) | exact HB.out)⟩
      · replace c7 := Bool.eq_false_iff.mpr c7
        subst c7
        have H1 : (some false) = some r := by rw [if_neg (show ¬ (false = true) by decide)] at H; exact H
        clear H
        have H := H1
        clear H1
        obtain rfl := Option.some.inj H
        go_enter Tryz.func19, Tryz.ntmps19
        go_wp2_with (first | ((with_reducible refine gate_callee (f := 35) rfl ?_); refine goesL_ (some 9) rfl rfl Tryz.func35 (by kernel_rfl) rfl #[.slice A1 l1.length c1, .string (⟨#[112, 114, 111, 120, 121, 45, 97, 117, 116, 104, 111, 114, 105, 122, 97, 116, 105, 111, 110]⟩ : ByteArray)] rfl (by (try simp only [List.map_toArray, List.map_cons, List.map_nil]); first | done | rfl | (simp only [List.length_drop, List.length_take]; rfl)) ?_; (with_reducible refine (tollhouseref05_Get.calls k _ _ l1 (⟨#[112, 114, 111, 120, 121, 45, 97, 117, 116, 104, 111, 114, 105, 122, 97, 116, 105, 111, 110]⟩ : ByteArray) t213 _ ?side1 ?side2 A3.out).mono ?_); (case side1 => repeat (first | exact HR1.out | (with_reducible refine Kd.C_alloc ?_ _) | (with_reducible refine Kd.C_drewN ?_ _) | (with_reducible refine Kd.C_drew ?_))); (case side2 => exact HC1.out); rintro e w11 ⟨v214, rfl, ho0, hb⟩; refine ⟨_, rfl, ?_⟩; have n0_ := Aside0.mk (Kd.R_lower ho0 (below_size (by repeat (first | (with_reducible first | exact HB.out | apply below_alloc | apply pw_below_drewN | apply below_drew1) | exact HB.out)))); have n1_ := Aside0.mk (below_step (by repeat (first | (with_reducible first | exact HB.out | apply below_alloc | apply pw_below_drewN | apply below_drew1) | exact HB.out)) hb); clear HB; have HO215 := n0_; have HB := n1_; clear n0_ n1_; (try clear hb); (try clear hb2); (try clear hk); (try clear hi); (try clear ho0); obtain ⟨Ao12, co12, eo12⟩ := Kd.R_slice HO215.out; subst eo12; have p216 : 0 ≤ (0 : Int) := (by omega); have q216 : 0 < (t213.length : Int) := of_decide_eq_true (by first | (with_reducible assumption) | assumption); obtain ⟨ad216, e216, hx216_0⟩ := Kd.at_string (Kd.R_reads' HO215.out).2.2 0 p216 q216; cases e216; have qi216 : (0 < t213.length) = True := eq_true (by omega); (try rw [show ((0 : Int)).toNat = 0 from rfl] at hx216_0); (try rw [Addr.add_zero'] at hx216_0); replace p216 := eq_true p216; replace q216 := eq_true q216) | ((with_reducible refine gate_callee (f := 17) rfl ?_); refine goesL_ (some 17) rfl rfl Tryz.func17 (by kernel_rfl) rfl #[.string (rdOf ByteArray.empty t213 0)] rfl (by (try simp only [List.map_toArray, List.map_cons, List.map_nil]); first | done | rfl | (simp only [List.length_drop, List.length_take]; rfl)) ?_; (with_reducible refine (tollhouseref15_Credential.calls k (rdOf ByteArray.empty t213 0) t217 false _ A6.out).mono ?_); rintro e w13 ⟨rfl, hb⟩; refine ⟨_, rfl, ?_⟩; have n0_ := Aside0.mk (Kd.R_below (by (with_reducible repeat (first | apply Kd.R_alloc | apply Kd.R_drewN | apply Kd.R_drew)); exact HO215.out) hb); have n1_ := Aside0.mk (below_step (by repeat (first | (with_reducible first | exact HB.out | apply below_alloc | apply pw_below_drewN | apply below_drew1) | exact HB.out)) hb); clear HO215; clear HB; have HO215 := n0_; have HB := n1_; clear n0_ n1_; (try clear hb); (try clear hb2); (try clear hk); (try clear hi)))
        go_ret
        exact ⟨by first | rfl | (simp [errW_none, errW_some] <;> rfl) | (simp [*, errW_none, errW_some] <;> rfl), by repeat (first | (with_reducible first | exact HB.out | apply below_alloc | apply pw_below_drewN | apply below_drew1) | exact HB.out)⟩
    · rw [if_neg c5] at H
      exact absurd H (by simp)
  · rw [if_neg c4] at H
    have c4b0 : ((t213.length : Int) == 1) = false := beq_eq_false_iff_ne.mpr c4
    have c4b1 : ((t213.length : Int) != 1) = true := bne_iff_ne.mpr c4
    obtain rfl := Option.some.inj H
    go_enter Tryz.func19, Tryz.ntmps19
    go_wp2_with (first | ((with_reducible refine gate_callee (f := 35) rfl ?_); refine goesL_ (some 9) rfl rfl Tryz.func35 (by kernel_rfl) rfl #[.slice A1 l1.length c1, .string (⟨#[112, 114, 111, 120, 121, 45, 97, 117, 116, 104, 111, 114, 105, 122, 97, 116, 105, 111, 110]⟩ : ByteArray)] rfl (by (try simp only [List.map_toArray, List.map_cons, List.map_nil]); first | done | rfl | (simp only [List.length_drop, List.length_take]; rfl)) ?_; (with_reducible refine (tollhouseref05_Get.calls k _ _ l1 (⟨#[112, 114, 111, 120, 121, 45, 97, 117, 116, 104, 111, 114, 105, 122, 97, 116, 105, 111, 110]⟩ : ByteArray) t213 _ ?side1 ?side2 A3.out).mono ?_); (case side1 => repeat (first | exact HR1.out | (with_reducible refine Kd.C_alloc ?_ _) | (with_reducible refine Kd.C_drewN ?_ _) | (with_reducible refine Kd.C_drew ?_))); (case side2 => exact HC1.out); rintro e w14 ⟨v214, rfl, ho0, hb⟩; refine ⟨_, rfl, ?_⟩; have n0_ := Aside0.mk (Kd.R_lower ho0 (below_size (by repeat (first | (with_reducible first | exact HB.out | apply below_alloc | apply pw_below_drewN | apply below_drew1) | exact HB.out)))); have n1_ := Aside0.mk (below_step (by repeat (first | (with_reducible first | exact HB.out | apply below_alloc | apply pw_below_drewN | apply below_drew1) | exact HB.out)) hb); clear HB; have HO215 := n0_; have HB := n1_; clear n0_ n1_; (try clear hb); (try clear hb2); (try clear hk); (try clear hi); (try clear ho0); obtain ⟨Ao15, co15, eo15⟩ := Kd.R_slice HO215.out; subst eo15))
    go_ret
    exact ⟨by first | rfl | (simp [errW_none, errW_some] <;> rfl) | (simp [*, errW_none, errW_some] <;> rfl), by repeat (first | (with_reducible first | exact HB.out | apply below_alloc | apply pw_below_drewN | apply below_drew1) | exact HB.out)⟩

end Go.Proofs.YtepljhleaohbcaaGreatDoor.P
end
