/- The walk of the Go function tollhouselaw15 AuthHolds, and what it computes. By program. Conditions: none but those that each theorem names. -/
import Derived.Test.YtepljhleaohbcaaGreatDoorQ0
import Derived.Test.YtepljhleaohbcaaGreatDoorQauthCredential
import Derived.Test.YtepljhleaohbcaaGreatDoorQauthHolds
import Derived.Test.YtepljhleaohbcaaGreatDoorQtollhouselaw15wakes
import Derived.Test.YtepljhleaohbcaaGreatDoorQRef15
namespace Go.Proofs.YtepljhleaohbcaaGreatDoor.P
open Go.RowKit Go.Proofs.YtepljhleaohbcaaGreatDoorW.PrintWords Go.Proofs.YtepljhleaohbcaaGreatDoorW.PrintLast Go.Proofs.YtepljhleaohbcaaGreatDoorW.PrintMore
attribute [local go_sem] max2_int min2_int max_two min_two max_three min_three max_four min_four
set_option linter.unusedVariables false
set_option linter.unusedSimpArgs false

/-! ### tollhouselaw15_AuthHolds: function 4 -/
def tollhouselaw15_AuthHolds.f (k : Nat) (a0 : ByteArray) (l1 : List (S48)) (a2 : ByteArray) : Option (Bool) := (auth_Credential.f a2).bind fun bt219 => ((tollhouseref15_Credential.f k a2).bind fun bt221 => (if bt219.1.toList = bt221.1.toList then (if (bt219.2 == bt221.2) = true then ((auth_Holds.f k a0 l1).bind fun t223 => ((tollhouseref15_Holds.f k a0 l1).bind fun t224 => (if (t223 == t224) = true then ((tollhouselaw15_wakes.f k).bind fun t225 => (some t225)) else (some false)))) else (some false)) else (some false)))
theorem tollhouselaw15_AuthHolds.mono : ∀ a0 a1 a2 k, LeO (tollhouselaw15_AuthHolds.f k a0 a1 a2) (tollhouselaw15_AuthHolds.f (k + 1) a0 a1 a2) := by
  intro a0 a1 a2 k
  unfold tollhouselaw15_AuthHolds.f
  repeat' first
      | (with_reducible exact auth_Holds.mono _ _ _)
      | (with_reducible exact tollhouselaw15_wakes.mono _)
      | (with_reducible exact tollhouseref15_Credential.mono _ _)
      | (with_reducible exact tollhouseref15_Holds.mono _ _ _)
      | (with_reducible exact LeO.refl _)
      | (with_reducible exact LeO.none _)
      | (with_reducible refine LeO.ite ?_ ?_)
      | (with_reducible refine LeO.bind ?_ (fun _ => ?_))
      | exact auth_Holds.mono _ _ _
      | exact tollhouselaw15_wakes.mono _
      | exact tollhouseref15_Credential.mono _ _
      | exact tollhouseref15_Holds.mono _ _ _
      | exact LeO.none _
      | refine LeO.ite ?_ ?_
      | refine LeO.bind ?_ (fun _ => ?_)
set_option maxHeartbeats 8000000 in
set_option maxRecDepth 100000 in
theorem tollhouselaw15_AuthHolds.calls (k : Nat) (a0 : ByteArray) (A1 : Option Addr) (c1 : Nat) (l1 : List (S48)) (a2 : ByteArray) (r : Bool) (w : World) (hr1 : Kd.C k48 w A1 l1.length l1) (hc1 : l1.length ≤ c1) (hr_ : r = true) (hT : Tab w) (h : tollhouselaw15_AuthHolds.f k a0 l1 a2 = some r) :
    Calls Tryz.prog 4 #[.string a0, .slice A1 l1.length c1, .string a2] w fun e w' => e = .returned (.bool r) ∧ Below w.heap.size w w' := by
  have HT := Aside0.mk hT
  clear hT
  have HR1 := Aside0.mk hr1
  have HC1 := Aside0.mk hc1
  clear hr1 hc1
  have HB := Aside0.mk (Below.refl w.heap.size w)
  have H : ((auth_Credential.f a2).bind fun bt219 => ((tollhouseref15_Credential.f k a2).bind fun bt221 => (if bt219.1.toList = bt221.1.toList then (if (bt219.2 == bt221.2) = true then ((auth_Holds.f k a0 l1).bind fun t223 => ((tollhouseref15_Holds.f k a0 l1).bind fun t224 => (if (t223 == t224) = true then ((tollhouselaw15_wakes.f k).bind fun t225 => (some t225)) else (some false)))) else (some false)) else (some false)))) = some r := h
  clear h
  replace H := Option.bind_eq_some_iff.mp H
  obtain ⟨⟨t219, t220⟩, A40, H⟩ := H
  replace H : ((tollhouseref15_Credential.f k a2).bind fun bt221 => (if t219.toList = bt221.1.toList then (if (t220 == bt221.2) = true then ((auth_Holds.f k a0 l1).bind fun t223 => ((tollhouseref15_Holds.f k a0 l1).bind fun t224 => (if (t223 == t224) = true then ((tollhouselaw15_wakes.f k).bind fun t225 => (some t225)) else (some false)))) else (some false)) else (some false))) = some r := H
  have A4 := Aside0.mk A40
  clear A40
  replace H := Option.bind_eq_some_iff.mp H
  obtain ⟨⟨t221, t222⟩, A50, H⟩ := H
  replace H : (if t219.toList = t221.toList then (if (t220 == t222) = true then ((auth_Holds.f k a0 l1).bind fun t223 => ((tollhouseref15_Holds.f k a0 l1).bind fun t224 => (if (t223 == t224) = true then ((tollhouselaw15_wakes.f k).bind fun t225 => (some t225)) else (some false)))) else (some false)) else (some false)) = some r := H
  have A5 := Aside0.mk A50
  clear A50
  by_cases c6 : t219.toList = t221.toList
  · rw [if_pos c6] at H
    have c6b0 : (t219.toList == t221.toList) = true := beq_iff_eq.mpr c6
    have c6b1 : (t219.toList != t221.toList) = false := bne_eq_false_iff_eq.mpr c6
    clear c6
    by_cases c7 : (t220 == t222) = true
    · rw [if_pos c7] at H
      have c7b0 : (t220 == t222) = true := c7
      (try (have c7b1 : decide (t220 = t222) = true := by simpa using c7))
      (try (have c7b2 : (t220 == t222) = true := by simpa using c7))
      clear c7
      replace H := Option.bind_eq_some_iff.mp H
      obtain ⟨t223, A80, H⟩ := H
      replace H : ((tollhouseref15_Holds.f k a0 l1).bind fun t224 => (if (t223 == t224) = true then ((tollhouselaw15_wakes.f k).bind fun t225 => (some t225)) else (some false))) = some r := H
      have A8 := Aside0.mk A80
      clear A80
      replace H := Option.bind_eq_some_iff.mp H
      obtain ⟨t224, A90, H⟩ := H
      replace H : (if (t223 == t224) = true then ((tollhouselaw15_wakes.f k).bind fun t225 => (some t225)) else (some false)) = some r := H
      have A9 := Aside0.mk A90
      clear A90
      by_cases c10 : (t223 == t224) = true
      · rw [if_pos c10] at H
        have c10b0 : (t223 == t224) = true := c10
        (try (have c10b1 : decide (t223 = t224) = true := by simpa using c10))
        (try (have c10b2 : (t223 == t224) = true := by simpa using c10))
        clear c10
        replace H := Option.bind_eq_some_iff.mp H
        obtain ⟨t225, A110, H⟩ := H
        replace H : (some t225) = some r := H
        have A11 := Aside0.mk A110
        clear A110
        obtain rfl := Option.some.inj H
        go_enter Tryz.func4, Tryz.ntmps4
        go_wp2_with (first | ((with_reducible refine gate_callee (f := 16) rfl ?_); refine goesL_ (some 13) rfl rfl Tryz.func16 (by kernel_rfl) rfl #[.string a2] rfl (by (try simp only [List.map_toArray, List.map_cons, List.map_nil]); first | done | rfl | (simp only [List.length_drop, List.length_take]; rfl)) ?_; (with_reducible refine (auth_Credential.calls a2 t219 t220 _ ?sideT A4.out).mono ?_); (case sideT => repeat (first | exact HT.out | exact (Tab.below HT.out HB.out) | (with_reducible first | refine Tab.alloc ?_ _ | refine Tab.drewN ?_ _ | refine Tab.drew ?_))); rintro e w12 ⟨rfl, hb⟩; refine ⟨_, rfl, ?_⟩; have n0_ := Aside0.mk (below_step (by repeat (first | (with_reducible first | exact HB.out | apply below_alloc | apply pw_below_drewN | apply below_drew1) | exact HB.out)) hb); clear HB; have HB := n0_; clear n0_; (try clear hb); (try clear hb2); (try clear hk); (try clear hi)) | ((with_reducible refine gate_callee (f := 17) rfl ?_); refine goesL_ (some 18) rfl rfl Tryz.func17 (by kernel_rfl) rfl #[.string a2] rfl (by (try simp only [List.map_toArray, List.map_cons, List.map_nil]); first | done | rfl | (simp only [List.length_drop, List.length_take]; rfl)) ?_; (with_reducible refine (tollhouseref15_Credential.calls k a2 t221 t222 _ A5.out).mono ?_); rintro e w13 ⟨rfl, hb⟩; refine ⟨_, rfl, ?_⟩; have n0_ := Aside0.mk (below_step (by repeat (first | (with_reducible first | exact HB.out | apply below_alloc | apply pw_below_drewN | apply below_drew1) | exact HB.out)) hb); clear HB; have HB := n0_; clear n0_; (try clear hb); (try clear hb2); (try clear hk); (try clear hi)) | (go_at_call 18; (with_reducible refine (auth_Holds.calls k a0 _ _ l1 t223 _ ?side1 ?side2 ?sideT A8.out).mono ?_); (case sideT => repeat (first | exact HT.out | exact (Tab.below HT.out HB.out) | (with_reducible first | refine Tab.alloc ?_ _ | refine Tab.drewN ?_ _ | refine Tab.drew ?_))); (case side1 => repeat (first | exact (Kd.C_below HR1.out HB.out) | (with_reducible refine Kd.C_alloc ?_ _) | (with_reducible refine Kd.C_drewN ?_ _) | (with_reducible refine Kd.C_drew ?_))); (case side2 => exact HC1.out); rintro e w14 ⟨rfl, hb⟩; have n0_ := Aside0.mk (below_step (by repeat (first | (with_reducible first | exact HB.out | apply below_alloc | apply pw_below_drewN | apply below_drew1) | exact HB.out)) hb); clear HB; have HB := n0_; clear n0_; (try clear hb); (try clear hb2); (try clear hk); (try clear hi)) | (go_at_call 19; (with_reducible refine (tollhouseref15_Holds.calls k a0 _ _ l1 t224 _ ?side1 ?side2 A9.out).mono ?_); (case side1 => repeat (first | exact (Kd.C_below HR1.out HB.out) | (with_reducible refine Kd.C_alloc ?_ _) | (with_reducible refine Kd.C_drewN ?_ _) | (with_reducible refine Kd.C_drew ?_))); (case side2 => exact HC1.out); rintro e w15 ⟨rfl, hb⟩; have n0_ := Aside0.mk (below_step (by repeat (first | (with_reducible first | exact HB.out | apply below_alloc | apply pw_below_drewN | apply below_drew1) | exact HB.out)) hb); clear HB; have HB := n0_; clear n0_; (try clear hb); (try clear hb2); (try clear hk); (try clear hi)) | (go_at_call 15; (with_reducible refine (tollhouselaw15_wakes.calls k t225 _ ?sideT A11.out).mono ?_); (case sideT => repeat (first | exact HT.out | exact (Tab.below HT.out HB.out) | (with_reducible first | refine Tab.alloc ?_ _ | refine Tab.drewN ?_ _ | refine Tab.drew ?_))); rintro e w16 ⟨rfl, hb⟩; have n0_ := Aside0.mk (below_step (by repeat (first | (with_reducible first | exact HB.out | apply below_alloc | apply pw_below_drewN | apply below_drew1) | exact HB.out)) hb); clear HB; have HB := n0_; clear n0_; (try clear hb); (try clear hb2); (try clear hk); (try clear hi)))
        go_ret
        exact ⟨by first | rfl | (simp [errW_none, errW_some] <;> rfl) | (simp [*, errW_none, errW_some] <;> rfl), by repeat (first | (with_reducible first | exact HB.out | apply below_alloc | apply pw_below_drewN | apply below_drew1) | exact HB.out)⟩
      · rw [if_neg c10] at H
        have c10b0 : (t223 == t224) = false := by simpa using c10
        (try (have c10b1 : decide (t223 = t224) = false := by simpa using c10))
        (try (have c10b2 : (t223 == t224) = false := by simpa using c10))
        (try (have c10b3 : ¬ (t223 = t224) := by simpa using c10))
        clear c10
        exact absurd ((Option.some.inj H).trans hr_) (by decide)
    · rw [if_neg c7] at H
      have c7b0 : (t220 == t222) = false := by simpa using c7
      (try (have c7b1 : decide (t220 = t222) = false := by simpa using c7))
      (try (have c7b2 : (t220 == t222) = false := by simpa using c7))
      (try (have c7b3 : ¬ (t220 = t222) := by simpa using c7))
      clear c7
      exact absurd ((Option.some.inj H).trans hr_) (by decide)
  · rw [if_neg c6] at H
    have c6b0 : (t219.toList == t221.toList) = false := beq_eq_false_iff_ne.mpr c6
    have c6b1 : (t219.toList != t221.toList) = true := bne_iff_ne.mpr c6
    exact absurd ((Option.some.inj H).trans hr_) (by decide)

end Go.Proofs.YtepljhleaohbcaaGreatDoor.P
