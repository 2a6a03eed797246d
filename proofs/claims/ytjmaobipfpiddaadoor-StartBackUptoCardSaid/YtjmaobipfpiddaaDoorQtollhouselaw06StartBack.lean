/- The walk of the Go function tollhouselaw06 StartBack, and what it computes. By program. Conditions: none but those that each theorem names. -/
import Derived.Test.YtjmaobipfpiddaaDoorQ0
import Derived.Test.YtjmaobipfpiddaaDoorQstartPutRequest
import Derived.Test.YtjmaobipfpiddaaDoorQstartRequest
import Derived.Test.YtjmaobipfpiddaaDoorQstartPutStatus
import Derived.Test.YtjmaobipfpiddaaDoorQtollhouselaw06wakes
import Derived.Test.YtjmaobipfpiddaaDoorFtextToken
import Derived.Test.YtjmaobipfpiddaaDoorFtextVisible
import Derived.Test.YtjmaobipfpiddaaDoorFstartStatus
namespace Go.Proofs.YtjmaobipfpiddaaDoor.P
open Go.RowKit Go.Proofs.YtjmaobipfpiddaaDoorW.PrintWords Go.Proofs.YtjmaobipfpiddaaDoorW.PrintLast Go.Proofs.YtjmaobipfpiddaaDoorW.PrintMore
attribute [local go_sem] max2_int min2_int max_two min_two max_three min_three max_four min_four
set_option linter.unusedVariables false
set_option linter.unusedSimpArgs false

/-! ### tollhouselaw06_StartBack: function 5 -/
mutual
def tollhouselaw06_StartBack.j0 : Nat → ByteArray → ByteArray → Int → Int → Option (Bool)
  | 0, _, _, _, _ => none
  | k + 1, x0, x3, x4, x5 => (start_PutStatus.f x4 x5 x3).bind fun bt201 => (if bt201.2 = 0 then ((start_Status.f bt201.1).bind fun bt203 => (if bt203.2.2.2 = 0 then (if bt203.1 = x4 then (if bt203.2.1 = x5 then (if bt203.2.2.1.toList = x3.toList then (if (bt201.1.size : Int) > 512 then (some false) else ((text_Visible.f x3).bind fun t207 => (if t207 = true then (tollhouselaw06_StartBack.j1 k x0) else (some false)))) else (some false)) else (some false)) else (some false)) else (some false))) else (if bt201.2 = 1 then (if bt201.1.toList = ([] : List UInt8) then (tollhouselaw06_StartBack.j1 k x0) else (some false)) else (some false)))
def tollhouselaw06_StartBack.j1 : Nat → ByteArray → Option (Bool)
  | 0, _ => none
  | k + 1, x0 => (start_Request.f k x0).bind fun bt208 => (if bt208.2.2.2 = 0 then ((start_PutRequest.f bt208.1 bt208.2.1 bt208.2.2.1).bind fun bt212 => (if bt212.2 = 0 then (if bt212.1.toList = x0.toList then (tollhouselaw06_StartBack.j2 k x0 bt208.2.2.2) else (some false)) else (some false))) else (if bt208.2.2.2 = 5 then (if bt208.1.toList = ([] : List UInt8) then (if bt208.2.1.toList = ([] : List UInt8) then (if bt208.2.2.1 = 0 then (tollhouselaw06_StartBack.j2 k x0 bt208.2.2.2) else (some false)) else (some false)) else (some false)) else (some false)))
def tollhouselaw06_StartBack.j2 : Nat → ByteArray → Int → Option (Bool)
  | 0, _, _ => none
  | k + 1, x0, x31 => (start_Status.f x0).bind fun bt214 => (if bt214.2.2.2 = 0 then ((start_PutStatus.f bt214.1 bt214.2.1 bt214.2.2.1).bind fun bt218 => (if x31 = 0 then (some false) else (if bt218.2 = 0 then (if bt218.1.toList = x0.toList then ((tollhouselaw06_wakes.f k).bind fun t220 => (some t220)) else (some false)) else (some false)))) else (if bt214.2.2.2 = 5 then (if bt214.1 = 0 then (if bt214.2.1 = 0 then (if bt214.2.2.1.toList = ([] : List UInt8) then ((tollhouselaw06_wakes.f k).bind fun t221 => (some t221)) else (some false)) else (some false)) else (some false)) else (some false)))
end
def tollhouselaw06_StartBack.f (k : Nat) (a0 : ByteArray) (a1 : ByteArray) (a2 : ByteArray) (a3 : ByteArray) (a4 : Int) (a5 : Int) : Option (Bool) := (start_PutRequest.f a1 a2 a4).bind fun bt190 => (if bt190.2 = 0 then ((start_Request.f k bt190.1).bind fun bt192 => ((start_Status.f bt190.1).bind fun bt196 => (if bt192.2.2.2 = 0 then (if bt192.1.toList = a1.toList then (if bt192.2.1.toList = a2.toList then (if bt192.2.2.1 = a4 then (if bt196.2.2.2 = 5 then (if (bt190.1.size : Int) > 512 then (some false) else ((text_Token.f a1).bind fun t200 => (if t200 = true then (tollhouselaw06_StartBack.j0 k a0 a3 a4 a5) else (some false)))) else (some false)) else (some false)) else (some false)) else (some false)) else (some false)))) else (if bt190.2 = 1 then (if bt190.1.toList = ([] : List UInt8) then (tollhouselaw06_StartBack.j0 k a0 a3 a4 a5) else (some false)) else (some false)))
theorem tollhouselaw06_StartBack.mono_l : ∀ k, (∀ y0 y1 y2 y3, LeO (tollhouselaw06_StartBack.j0 k y0 y1 y2 y3) (tollhouselaw06_StartBack.j0 (k + 1) y0 y1 y2 y3)) ∧ (∀ y0, LeO (tollhouselaw06_StartBack.j1 k y0) (tollhouselaw06_StartBack.j1 (k + 1) y0)) ∧ (∀ y0 y1, LeO (tollhouselaw06_StartBack.j2 k y0 y1) (tollhouselaw06_StartBack.j2 (k + 1) y0 y1))
  | 0 => ⟨fun _ _ _ _ r h => by simp [tollhouselaw06_StartBack.j0] at h, fun _ r h => by simp [tollhouselaw06_StartBack.j1] at h, fun _ _ r h => by simp [tollhouselaw06_StartBack.j2] at h⟩
  | k + 1 => by
    obtain ⟨ih0, ih1, ih2⟩ := tollhouselaw06_StartBack.mono_l k
    refine ⟨?_, ?_, ?_⟩
    · intro y0 y1 y2 y3
      unfold tollhouselaw06_StartBack.j0
      repeat' first
      | (with_reducible exact ih0 _ _ _ _)
      | (with_reducible exact ih1 _)
      | (with_reducible exact ih2 _ _)
      | (with_reducible exact start_Request.mono _ _)
      | (with_reducible exact tollhouselaw06_wakes.mono _)
      | (with_reducible exact LeO.refl _)
      | (with_reducible exact LeO.none _)
      | (with_reducible refine LeO.ite ?_ ?_)
      | (with_reducible refine LeO.bind ?_ (fun _ => ?_))
      | exact ih0 _ _ _ _
      | exact ih1 _
      | exact ih2 _ _
      | exact start_Request.mono _ _
      | exact tollhouselaw06_wakes.mono _
      | exact LeO.none _
      | refine LeO.ite ?_ ?_
      | refine LeO.bind ?_ (fun _ => ?_)
    · intro y0
      unfold tollhouselaw06_StartBack.j1
      repeat' first
      | (with_reducible exact ih0 _ _ _ _)
      | (with_reducible exact ih1 _)
      | (with_reducible exact ih2 _ _)
      | (with_reducible exact start_Request.mono _ _)
      | (with_reducible exact tollhouselaw06_wakes.mono _)
      | (with_reducible exact LeO.refl _)
      | (with_reducible exact LeO.none _)
      | (with_reducible refine LeO.ite ?_ ?_)
      | (with_reducible refine LeO.bind ?_ (fun _ => ?_))
      | exact ih0 _ _ _ _
      | exact ih1 _
      | exact ih2 _ _
      | exact start_Request.mono _ _
      | exact tollhouselaw06_wakes.mono _
      | exact LeO.none _
      | refine LeO.ite ?_ ?_
      | refine LeO.bind ?_ (fun _ => ?_)
    · intro y0 y1
      unfold tollhouselaw06_StartBack.j2
      repeat' first
      | (with_reducible exact ih0 _ _ _ _)
      | (with_reducible exact ih1 _)
      | (with_reducible exact ih2 _ _)
      | (with_reducible exact start_Request.mono _ _)
      | (with_reducible exact tollhouselaw06_wakes.mono _)
      | (with_reducible exact LeO.refl _)
      | (with_reducible exact LeO.none _)
      | (with_reducible refine LeO.ite ?_ ?_)
      | (with_reducible refine LeO.bind ?_ (fun _ => ?_))
      | exact ih0 _ _ _ _
      | exact ih1 _
      | exact ih2 _ _
      | exact start_Request.mono _ _
      | exact tollhouselaw06_wakes.mono _
      | exact LeO.none _
      | refine LeO.ite ?_ ?_
      | refine LeO.bind ?_ (fun _ => ?_)
theorem tollhouselaw06_StartBack.mono : ∀ a0 a1 a2 a3 a4 a5 k, LeO (tollhouselaw06_StartBack.f k a0 a1 a2 a3 a4 a5) (tollhouselaw06_StartBack.f (k + 1) a0 a1 a2 a3 a4 a5) := by
  intro a0 a1 a2 a3 a4 a5 k
  obtain ⟨ih0, ih1, ih2⟩ := tollhouselaw06_StartBack.mono_l k
  unfold tollhouselaw06_StartBack.f
  repeat' first
      | (with_reducible exact ih0 _ _ _ _)
      | (with_reducible exact ih1 _)
      | (with_reducible exact ih2 _ _)
      | (with_reducible exact start_Request.mono _ _)
      | (with_reducible exact tollhouselaw06_wakes.mono _)
      | (with_reducible exact LeO.refl _)
      | (with_reducible exact LeO.none _)
      | (with_reducible refine LeO.ite ?_ ?_)
      | (with_reducible refine LeO.bind ?_ (fun _ => ?_))
      | exact ih0 _ _ _ _
      | exact ih1 _
      | exact ih2 _ _
      | exact start_Request.mono _ _
      | exact tollhouselaw06_wakes.mono _
      | exact LeO.none _
      | refine LeO.ite ?_ ?_
      | refine LeO.bind ?_ (fun _ => ?_)
set_option maxHeartbeats 8000000 in
set_option maxRecDepth 100000 in
theorem tollhouselaw06_StartBack.calls (k : Nat) (a0 : ByteArray) (a1 : ByteArray) (a2 : ByteArray) (a3 : ByteArray) (a4 : Int) (a5 : Int) (r : Bool) (w : World) (hr_ : r = true) (hT : Tab w) (h : tollhouselaw06_StartBack.f k a0 a1 a2 a3 a4 a5 = some r) :
    Calls Tryd.prog 5 #[.string a0, .string a1, .string a2, .string a3, .int .i64 a4, .int .i64 a5] w fun e w' => e = .returned (.bool r) ∧ Below w.heap.size w w' := by
  have HT := Aside0.mk hT
  clear hT
  have HB := Aside0.mk (Below.refl w.heap.size w)
  have H : ((start_PutRequest.f a1 a2 a4).bind fun bt190 => (if bt190.2 = 0 then ((start_Request.f k bt190.1).bind fun bt192 => ((start_Status.f bt190.1).bind fun bt196 => (if bt192.2.2.2 = 0 then (if bt192.1.toList = a1.toList then (if bt192.2.1.toList = a2.toList then (if bt192.2.2.1 = a4 then (if bt196.2.2.2 = 5 then (if (bt190.1.size : Int) > 512 then (some false) else ((text_Token.f a1).bind fun t200 => (if t200 = true then (tollhouselaw06_StartBack.j0 k a0 a3 a4 a5) else (some false)))) else (some false)) else (some false)) else (some false)) else (some false)) else (some false)))) else (if bt190.2 = 1 then (if bt190.1.toList = ([] : List UInt8) then (tollhouselaw06_StartBack.j0 k a0 a3 a4 a5) else (some false)) else (some false)))) = some r := h
  clear h
  replace H := Option.bind_eq_some_iff.mp H
  obtain ⟨⟨t190, t191⟩, A70, H⟩ := H
  replace H : (if t191 = 0 then ((start_Request.f k t190).bind fun bt192 => ((start_Status.f t190).bind fun bt196 => (if bt192.2.2.2 = 0 then (if bt192.1.toList = a1.toList then (if bt192.2.1.toList = a2.toList then (if bt192.2.2.1 = a4 then (if bt196.2.2.2 = 5 then (if (t190.size : Int) > 512 then (some false) else ((text_Token.f a1).bind fun t200 => (if t200 = true then (tollhouselaw06_StartBack.j0 k a0 a3 a4 a5) else (some false)))) else (some false)) else (some false)) else (some false)) else (some false)) else (some false)))) else (if t191 = 1 then (if t190.toList = ([] : List UInt8) then (tollhouselaw06_StartBack.j0 k a0 a3 a4 a5) else (some false)) else (some false))) = some r := H
  have A7 := Aside0.mk A70
  clear A70
  have HC8 := Aside0.mk H
  clear H
  go_enter Tryd.func5, Tryd.ntmps5
  go_upto_if 48 with (first | ((with_reducible refine gate_callee (f := 9) rfl ?_); refine goesL_ (some 44) rfl rfl Tryd.func9 (by kernel_rfl) rfl #[.string a1, .string a2, .int .i64 a4] rfl (by (try simp only [List.map_toArray, List.map_cons, List.map_nil]); first | done | rfl | (simp only [List.length_drop, List.length_take]; rfl)) ?_; (with_reducible refine (start_PutRequest.calls a1 a2 a4 t190 t191 _ ?sideT A7.out).mono ?_); (case sideT => repeat (first | exact HT.out | exact (Tab.below HT.out HB.out) | (with_reducible first | refine Tab.alloc ?_ _ | refine Tab.drewN ?_ _ | refine Tab.drew ?_))); rintro e w9 ⟨rfl, hb⟩; refine ⟨_, rfl, ?_⟩; have n0_ := Aside0.mk (below_step (by repeat (first | (with_reducible first | exact HB.out | apply below_alloc | apply pw_below_drewN | apply below_drew1) | exact HB.out)) hb); clear HB; have HB := n0_; clear n0_; (try clear hb); (try clear hb2); (try clear hk); (try clear hi)))
  (try simp only [Act.put, List.setIfInBounds_toArray, List.set_cons_zero, List.set_cons_succ])
  go_cut [] (fun wc => ∃ (kq : Nat), Aside0 (tollhouselaw06_StartBack.j0 kq a0 a3 a4 a5 = some r) ∧ Aside0 (kq ≤ k) ∧ Aside0 (Below w.heap.size w wc))
  case first =>
    have H := HC8.out
    clear HC8
    by_cases c10 : t191 = 0
    · rw [if_pos c10] at H
      have c10b0 : (t191 == 0) = true := beq_iff_eq.mpr c10
      have c10b1 : (t191 != 0) = false := bne_eq_false_iff_eq.mpr c10
      clear c10
      (first | rw [c10b0] | (simp only [i64_w, i32_w]; rw [c10b0]) | skip)
      replace H := Option.bind_eq_some_iff.mp H
      obtain ⟨⟨t192, t193, t194, t195⟩, A110, H⟩ := H
      replace H : ((start_Status.f t190).bind fun bt196 => (if t195 = 0 then (if t192.toList = a1.toList then (if t193.toList = a2.toList then (if t194 = a4 then (if bt196.2.2.2 = 5 then (if (t190.size : Int) > 512 then (some false) else ((text_Token.f a1).bind fun t200 => (if t200 = true then (tollhouselaw06_StartBack.j0 k a0 a3 a4 a5) else (some false)))) else (some false)) else (some false)) else (some false)) else (some false)) else (some false))) = some r := H
      have A11 := Aside0.mk A110
      clear A110
      replace H := Option.bind_eq_some_iff.mp H
      obtain ⟨⟨t196, t197, t198, t199⟩, A120, H⟩ := H
      replace H : (if t195 = 0 then (if t192.toList = a1.toList then (if t193.toList = a2.toList then (if t194 = a4 then (if t199 = 5 then (if (t190.size : Int) > 512 then (some false) else ((text_Token.f a1).bind fun t200 => (if t200 = true then (tollhouselaw06_StartBack.j0 k a0 a3 a4 a5) else (some false)))) else (some false)) else (some false)) else (some false)) else (some false)) else (some false)) = some r := H
      have A12 := Aside0.mk A120
      clear A120
      by_cases c13 : t195 = 0
      · rw [if_pos c13] at H
        have c13b0 : (t195 == 0) = true := beq_iff_eq.mpr c13
        have c13b1 : (t195 != 0) = false := bne_eq_false_iff_eq.mpr c13
        clear c13
        by_cases c14 : t192.toList = a1.toList
        · rw [if_pos c14] at H
          have c14b0 : (t192.toList == a1.toList) = true := beq_iff_eq.mpr c14
          have c14b1 : (t192.toList != a1.toList) = false := bne_eq_false_iff_eq.mpr c14
          clear c14
          by_cases c15 : t193.toList = a2.toList
          · rw [if_pos c15] at H
            have c15b0 : (t193.toList == a2.toList) = true := beq_iff_eq.mpr c15
            have c15b1 : (t193.toList != a2.toList) = false := bne_eq_false_iff_eq.mpr c15
            clear c15
            by_cases c16 : t194 = a4
            · rw [if_pos c16] at H
              have c16b0 : (t194 == a4) = true := beq_iff_eq.mpr c16
              have c16b1 : (t194 != a4) = false := bne_eq_false_iff_eq.mpr c16
              clear c16
              by_cases c17 : t199 = 5
              · rw [if_pos c17] at H
                have c17b0 : (t199 == 5) = true := beq_iff_eq.mpr c17
                have c17b1 : (t199 != 5) = false := bne_eq_false_iff_eq.mpr c17
                clear c17
                by_cases c18 : (t190.size : Int) > 512
                · rw [if_pos c18] at H
                  have c18b0 : decide (512 < (t190.size : Int)) = true := decide_eq_true c18
                  have c18b1 : decide (512 < t190.size) = true := decide_eq_true (by omega)
                  clear c18
                  exact absurd ((Option.some.inj H).trans hr_) (by decide)
                · rw [if_neg c18] at H
                  have c18b0 : decide (512 < (t190.size : Int)) = false := decide_eq_false c18
                  have c18b1 : decide (512 < t190.size) = false := decide_eq_false (by omega)
                  clear c18
                  replace H := Option.bind_eq_some_iff.mp H
                  obtain ⟨t200, A190, H⟩ := H
                  replace H : (if t200 = true then (tollhouselaw06_StartBack.j0 k a0 a3 a4 a5) else (some false)) = some r := H
                  have A19 := Aside0.mk A190
                  clear A190
                  by_cases c20 : t200 = true
                  · subst c20
                    have H1 : (tollhouselaw06_StartBack.j0 k a0 a3 a4 a5) = some r := by rw [if_pos rfl] at H; exact H
                    clear H
                    have H := H1
                    clear H1
                    have H' := Aside0.mk H
                    clear H
                    go_wp2_with (first | ((with_reducible refine gate_callee (f := 7) rfl ?_); refine goesL_ (some 51) rfl rfl Tryd.func7 (by kernel_rfl) rfl #[.string t190] rfl (by (try simp only [List.map_toArray, List.map_cons, List.map_nil]); first | done | rfl | (simp only [List.length_drop, List.length_take]; rfl)) ?_; (with_reducible refine (start_Request.calls k t190 t192 t193 t194 t195 _ ?sideT A11.out).mono ?_); (case sideT => repeat (first | exact HT.out | exact (Tab.below HT.out HB.out) | (with_reducible first | refine Tab.alloc ?_ _ | refine Tab.drewN ?_ _ | refine Tab.drew ?_))); rintro e w21 ⟨rfl, hb⟩; refine ⟨_, rfl, ?_⟩; have n0_ := Aside0.mk (below_step (by repeat (first | (with_reducible first | exact HB.out | apply below_alloc | apply pw_below_drewN | apply below_drew1) | exact HB.out)) hb); clear HB; have HB := n0_; clear n0_; (try clear hb); (try clear hb2); (try clear hk); (try clear hi)) | ((with_reducible refine gate_callee (f := 12) rfl ?_); refine goesL_ (some 58) rfl rfl Tryd.func12 (by kernel_rfl) rfl #[.string t190] rfl (by (try simp only [List.map_toArray, List.map_cons, List.map_nil]); first | done | rfl | (simp only [List.length_drop, List.length_take]; rfl)) ?_; (with_reducible refine (start_Status.calls t190 t196 t197 t198 t199 _ ?sideT A12.out).mono ?_); (case sideT => repeat (first | exact HT.out | exact (Tab.below HT.out HB.out) | (with_reducible first | refine Tab.alloc ?_ _ | refine Tab.drewN ?_ _ | refine Tab.drew ?_))); rintro e w22 ⟨rfl, hb⟩; refine ⟨_, rfl, ?_⟩; have n0_ := Aside0.mk (below_step (by repeat (first | (with_reducible first | exact HB.out | apply below_alloc | apply pw_below_drewN | apply below_drew1) | exact HB.out)) hb); clear HB; have HB := n0_; clear n0_; (try clear hb); (try clear hb2); (try clear hk); (try clear hi)) | (go_at_call 18; (with_reducible refine (text_Token.calls a1 true _ A19.out).mono ?_); rintro e w23 ⟨rfl, hb⟩; have n0_ := Aside0.mk (below_step (by repeat (first | (with_reducible first | exact HB.out | apply below_alloc | apply pw_below_drewN | apply below_drew1) | exact HB.out)) hb); clear HB; have HB := n0_; clear n0_; (try clear hb); (try clear hb2); (try clear hk); (try clear hi)))
                    go_meet
                    case rel => exact ⟨_, H', ⟨by first | omega | exact Nat.le_refl _⟩, ⟨by repeat (first | (with_reducible first | exact HB.out | apply below_alloc | apply pw_below_drewN | apply below_drew1) | exact HB.out)⟩⟩
                  · replace c20 := Bool.eq_false_iff.mpr c20
                    subst c20
                    have H1 : (some false) = some r := by rw [if_neg (show ¬ (false = true) by decide)] at H; exact H
                    clear H
                    have H := H1
                    clear H1
                    exact absurd ((Option.some.inj H).trans hr_) (by decide)
              · rw [if_neg c17] at H
                have c17b0 : (t199 == 5) = false := beq_eq_false_iff_ne.mpr c17
                have c17b1 : (t199 != 5) = true := bne_iff_ne.mpr c17
                exact absurd ((Option.some.inj H).trans hr_) (by decide)
            · rw [if_neg c16] at H
              have c16b0 : (t194 == a4) = false := beq_eq_false_iff_ne.mpr c16
              have c16b1 : (t194 != a4) = true := bne_iff_ne.mpr c16
              exact absurd ((Option.some.inj H).trans hr_) (by decide)
          · rw [if_neg c15] at H
            have c15b0 : (t193.toList == a2.toList) = false := beq_eq_false_iff_ne.mpr c15
            have c15b1 : (t193.toList != a2.toList) = true := bne_iff_ne.mpr c15
            exact absurd ((Option.some.inj H).trans hr_) (by decide)
        · rw [if_neg c14] at H
          have c14b0 : (t192.toList == a1.toList) = false := beq_eq_false_iff_ne.mpr c14
          have c14b1 : (t192.toList != a1.toList) = true := bne_iff_ne.mpr c14
          exact absurd ((Option.some.inj H).trans hr_) (by decide)
      · rw [if_neg c13] at H
        have c13b0 : (t195 == 0) = false := beq_eq_false_iff_ne.mpr c13
        have c13b1 : (t195 != 0) = true := bne_iff_ne.mpr c13
        exact absurd ((Option.some.inj H).trans hr_) (by decide)
    · rw [if_neg c10] at H
      have c10b0 : (t191 == 0) = false := beq_eq_false_iff_ne.mpr c10
      have c10b1 : (t191 != 0) = true := bne_iff_ne.mpr c10
      (first | rw [c10b0] | (simp only [i64_w, i32_w]; rw [c10b0]) | skip)
      by_cases c24 : t191 = 1
      · rw [if_pos c24] at H
        have c24b0 : (t191 == 1) = true := beq_iff_eq.mpr c24
        have c24b1 : (t191 != 1) = false := bne_eq_false_iff_eq.mpr c24
        clear c24
        by_cases c25 : t190.toList = ([] : List UInt8)
        · rw [if_pos c25] at H
          have c25b0 : (t190.toList == ([] : List UInt8)) = true := beq_iff_eq.mpr c25
          have c25b1 : (t190.toList != ([] : List UInt8)) = false := bne_eq_false_iff_eq.mpr c25
          clear c25
          have H' := Aside0.mk H
          clear H
          go_wp2
          go_meet
          case rel => exact ⟨_, H', ⟨by first | omega | exact Nat.le_refl _⟩, ⟨by repeat (first | (with_reducible first | exact HB.out | apply below_alloc | apply pw_below_drewN | apply below_drew1) | exact HB.out)⟩⟩
        · rw [if_neg c25] at H
          have c25b0 : (t190.toList == ([] : List UInt8)) = false := beq_eq_false_iff_ne.mpr c25
          have c25b1 : (t190.toList != ([] : List UInt8)) = true := bne_iff_ne.mpr c25
          exact absurd ((Option.some.inj H).trans hr_) (by decide)
      · rw [if_neg c24] at H
        have c24b0 : (t191 == 1) = false := beq_eq_false_iff_ne.mpr c24
        have c24b1 : (t191 != 1) = true := bne_iff_ne.mpr c24
        exact absurd ((Option.some.inj H).trans hr_) (by decide)
  case rest =>
    clear HC8
    try clear c1
    try clear c2
    try clear p2
    try clear c5
    try clear c7
    try clear c9
    try clear c10
    try clear c10b0
    try clear c10b1
    try clear c12
    try clear c13
    try clear c13b0
    try clear c13b1
    try clear c14
    try clear c14b0
    try clear c14b1
    try clear c15
    try clear c15b0
    try clear c15b1
    try clear c16
    try clear c16b0
    try clear c16b1
    try clear c17
    try clear c17b0
    try clear c17b1
    try clear c18
    try clear c18b0
    try clear c18b1
    try clear c20
    try clear c24
    try clear c24b0
    try clear c24b1
    try clear c25
    try clear c25b0
    try clear c25b1
    obtain ⟨kq, HA, HJ7, HB⟩ := hcut
    cases kq with
    | zero => exact absurd HA.out (by simp [tollhouselaw06_StartBack.j0])
    | succ kj7 =>
      have H := HA.out
      clear HA
      simp only [tollhouselaw06_StartBack.j0] at H
      replace H := Option.bind_eq_some_iff.mp H
      obtain ⟨⟨t201, t202⟩, A260, H⟩ := H
      replace H : (if t202 = 0 then ((start_Status.f t201).bind fun bt203 => (if bt203.2.2.2 = 0 then (if bt203.1 = a4 then (if bt203.2.1 = a5 then (if bt203.2.2.1.toList = a3.toList then (if (t201.size : Int) > 512 then (some false) else ((text_Visible.f a3).bind fun t207 => (if t207 = true then (tollhouselaw06_StartBack.j1 kj7 a0) else (some false)))) else (some false)) else (some false)) else (some false)) else (some false))) else (if t202 = 1 then (if t201.toList = ([] : List UInt8) then (tollhouselaw06_StartBack.j1 kj7 a0) else (some false)) else (some false))) = some r := H
      have A26 := Aside0.mk A260
      clear A260
      have HC27 := Aside0.mk H
      clear H
      go_upto_if 108 with (first | ((with_reducible refine gate_callee (f := 14) rfl ?_); refine goesL_ (some 104) rfl rfl Tryd.func14 (by kernel_rfl) rfl #[.int .i64 a4, .int .i64 a5, .string a3] rfl (by (try simp only [List.map_toArray, List.map_cons, List.map_nil]); first | done | rfl | (simp only [List.length_drop, List.length_take]; rfl)) ?_; (with_reducible refine (start_PutStatus.calls a4 a5 a3 t201 t202 _ ?sideT A26.out).mono ?_); (case sideT => repeat (first | exact HT.out | exact (Tab.below HT.out HB.out) | (with_reducible first | refine Tab.alloc ?_ _ | refine Tab.drewN ?_ _ | refine Tab.drew ?_))); rintro e w28 ⟨rfl, hb⟩; refine ⟨_, rfl, ?_⟩; have n0_ := Aside0.mk (below_step (by repeat (first | (with_reducible first | exact HB.out | apply below_alloc | apply pw_below_drewN | apply below_drew1) | exact HB.out)) hb); clear HB; have HB := n0_; clear n0_; (try clear hb); (try clear hb2); (try clear hk); (try clear hi)))
      (try simp only [Act.put, List.setIfInBounds_toArray, List.set_cons_zero, List.set_cons_succ])
      go_cut [] (fun wc => ∃ (kq : Nat), Aside0 (tollhouselaw06_StartBack.j1 kq a0 = some r) ∧ Aside0 (kq ≤ kj7) ∧ Aside0 (Below w.heap.size w wc))
      case first =>
        have H := HC27.out
        clear HC27
        by_cases c29 : t202 = 0
        · rw [if_pos c29] at H
          have c29b0 : (t202 == 0) = true := beq_iff_eq.mpr c29
          have c29b1 : (t202 != 0) = false := bne_eq_false_iff_eq.mpr c29
          clear c29
          (first | rw [c29b0] | (simp only [i64_w, i32_w]; rw [c29b0]) | skip)
          replace H := Option.bind_eq_some_iff.mp H
          obtain ⟨⟨t203, t204, t205, t206⟩, A300, H⟩ := H
          replace H : (if t206 = 0 then (if t203 = a4 then (if t204 = a5 then (if t205.toList = a3.toList then (if (t201.size : Int) > 512 then (some false) else ((text_Visible.f a3).bind fun t207 => (if t207 = true then (tollhouselaw06_StartBack.j1 kj7 a0) else (some false)))) else (some false)) else (some false)) else (some false)) else (some false)) = some r := H
          have A30 := Aside0.mk A300
          clear A300
          by_cases c31 : t206 = 0
          · rw [if_pos c31] at H
            have c31b0 : (t206 == 0) = true := beq_iff_eq.mpr c31
            have c31b1 : (t206 != 0) = false := bne_eq_false_iff_eq.mpr c31
            clear c31
            by_cases c32 : t203 = a4
            · rw [if_pos c32] at H
              have c32b0 : (t203 == a4) = true := beq_iff_eq.mpr c32
              have c32b1 : (t203 != a4) = false := bne_eq_false_iff_eq.mpr c32
              clear c32
              by_cases c33 : t204 = a5
              · rw [if_pos c33] at H
                have c33b0 : (t204 == a5) = true := beq_iff_eq.mpr c33
                have c33b1 : (t204 != a5) = false := bne_eq_false_iff_eq.mpr c33
                clear c33
                by_cases c34 : t205.toList = a3.toList
                · rw [if_pos c34] at H
                  have c34b0 : (t205.toList == a3.toList) = true := beq_iff_eq.mpr c34
                  have c34b1 : (t205.toList != a3.toList) = false := bne_eq_false_iff_eq.mpr c34
                  clear c34
                  by_cases c35 : (t201.size : Int) > 512
                  · rw [if_pos c35] at H
                    have c35b0 : decide (512 < (t201.size : Int)) = true := decide_eq_true c35
                    have c35b1 : decide (512 < t201.size) = true := decide_eq_true (by omega)
                    clear c35
                    exact absurd ((Option.some.inj H).trans hr_) (by decide)
                  · rw [if_neg c35] at H
                    have c35b0 : decide (512 < (t201.size : Int)) = false := decide_eq_false c35
                    have c35b1 : decide (512 < t201.size) = false := decide_eq_false (by omega)
                    clear c35
                    replace H := Option.bind_eq_some_iff.mp H
                    obtain ⟨t207, A360, H⟩ := H
                    replace H : (if t207 = true then (tollhouselaw06_StartBack.j1 kj7 a0) else (some false)) = some r := H
                    have A36 := Aside0.mk A360
                    clear A360
                    by_cases c37 : t207 = true
                    · subst c37
                      have H1 : (tollhouselaw06_StartBack.j1 kj7 a0) = some r := by rw [if_pos rfl] at H; exact H
                      clear H
                      have H := H1
                      clear H1
                      have H' := Aside0.mk H
                      clear H
                      go_wp2_with (first | ((with_reducible refine gate_callee (f := 12) rfl ?_); refine goesL_ (some 111) rfl rfl Tryd.func12 (by kernel_rfl) rfl #[.string t201] rfl (by (try simp only [List.map_toArray, List.map_cons, List.map_nil]); first | done | rfl | (simp only [List.length_drop, List.length_take]; rfl)) ?_; (with_reducible refine (start_Status.calls t201 t203 t204 t205 t206 _ ?sideT A30.out).mono ?_); (case sideT => repeat (first | exact HT.out | exact (Tab.below HT.out HB.out) | (with_reducible first | refine Tab.alloc ?_ _ | refine Tab.drewN ?_ _ | refine Tab.drew ?_))); rintro e w38 ⟨rfl, hb⟩; refine ⟨_, rfl, ?_⟩; have n0_ := Aside0.mk (below_step (by repeat (first | (with_reducible first | exact HB.out | apply below_alloc | apply pw_below_drewN | apply below_drew1) | exact HB.out)) hb); clear HB; have HB := n0_; clear n0_; (try clear hb); (try clear hb2); (try clear hk); (try clear hi)) | (go_at_call 19; (with_reducible refine (text_Visible.calls a3 true _ A36.out).mono ?_); rintro e w39 ⟨rfl, hb⟩; have n0_ := Aside0.mk (below_step (by repeat (first | (with_reducible first | exact HB.out | apply below_alloc | apply pw_below_drewN | apply below_drew1) | exact HB.out)) hb); clear HB; have HB := n0_; clear n0_; (try clear hb); (try clear hb2); (try clear hk); (try clear hi)))
                      go_meet
                      case rel => exact ⟨_, H', ⟨by have := HJ7.out; first | omega | exact Nat.le_refl _⟩, ⟨by repeat (first | (with_reducible first | exact HB.out | apply below_alloc | apply pw_below_drewN | apply below_drew1) | exact HB.out)⟩⟩
                    · replace c37 := Bool.eq_false_iff.mpr c37
                      subst c37
                      have H1 : (some false) = some r := by rw [if_neg (show ¬ (false = true) by decide)] at H; exact H
                      clear H
                      have H := H1
                      clear H1
                      exact absurd ((Option.some.inj H).trans hr_) (by decide)
                · rw [if_neg c34] at H
                  have c34b0 : (t205.toList == a3.toList) = false := beq_eq_false_iff_ne.mpr c34
                  have c34b1 : (t205.toList != a3.toList) = true := bne_iff_ne.mpr c34
                  exact absurd ((Option.some.inj H).trans hr_) (by decide)
              · rw [if_neg c33] at H
                have c33b0 : (t204 == a5) = false := beq_eq_false_iff_ne.mpr c33
                have c33b1 : (t204 != a5) = true := bne_iff_ne.mpr c33
                exact absurd ((Option.some.inj H).trans hr_) (by decide)
            · rw [if_neg c32] at H
              have c32b0 : (t203 == a4) = false := beq_eq_false_iff_ne.mpr c32
              have c32b1 : (t203 != a4) = true := bne_iff_ne.mpr c32
              exact absurd ((Option.some.inj H).trans hr_) (by decide)
          · rw [if_neg c31] at H
            have c31b0 : (t206 == 0) = false := beq_eq_false_iff_ne.mpr c31
            have c31b1 : (t206 != 0) = true := bne_iff_ne.mpr c31
            exact absurd ((Option.some.inj H).trans hr_) (by decide)
        · rw [if_neg c29] at H
          have c29b0 : (t202 == 0) = false := beq_eq_false_iff_ne.mpr c29
          have c29b1 : (t202 != 0) = true := bne_iff_ne.mpr c29
          (first | rw [c29b0] | (simp only [i64_w, i32_w]; rw [c29b0]) | skip)
          by_cases c40 : t202 = 1
          · rw [if_pos c40] at H
            have c40b0 : (t202 == 1) = true := beq_iff_eq.mpr c40
            have c40b1 : (t202 != 1) = false := bne_eq_false_iff_eq.mpr c40
            clear c40
            by_cases c41 : t201.toList = ([] : List UInt8)
            · rw [if_pos c41] at H
              have c41b0 : (t201.toList == ([] : List UInt8)) = true := beq_iff_eq.mpr c41
              have c41b1 : (t201.toList != ([] : List UInt8)) = false := bne_eq_false_iff_eq.mpr c41
              clear c41
              have H' := Aside0.mk H
              clear H
              go_wp2
              go_meet
              case rel => exact ⟨_, H', ⟨by have := HJ7.out; first | omega | exact Nat.le_refl _⟩, ⟨by repeat (first | (with_reducible first | exact HB.out | apply below_alloc | apply pw_below_drewN | apply below_drew1) | exact HB.out)⟩⟩
            · rw [if_neg c41] at H
              have c41b0 : (t201.toList == ([] : List UInt8)) = false := beq_eq_false_iff_ne.mpr c41
              have c41b1 : (t201.toList != ([] : List UInt8)) = true := bne_iff_ne.mpr c41
              exact absurd ((Option.some.inj H).trans hr_) (by decide)
          · rw [if_neg c40] at H
            have c40b0 : (t202 == 1) = false := beq_eq_false_iff_ne.mpr c40
            have c40b1 : (t202 != 1) = true := bne_iff_ne.mpr c40
            exact absurd ((Option.some.inj H).trans hr_) (by decide)
      case rest =>
        clear HC27
        try clear c1
        try clear c2
        try clear p2
        try clear c3
        try clear c4
        try clear c5
        try clear c7
        try clear c9
        try clear c10
        try clear c10b0
        try clear c10b1
        try clear c12
        try clear c13
        try clear c13b0
        try clear c13b1
        try clear c14
        try clear c14b0
        try clear c14b1
        try clear c15
        try clear c15b0
        try clear c15b1
        try clear c16
        try clear c16b0
        try clear c16b1
        try clear c17
        try clear c17b0
        try clear c17b1
        try clear c18
        try clear c18b0
        try clear c18b1
        try clear c20
        try clear c24
        try clear c24b0
        try clear c24b1
        try clear c25
        try clear c25b0
        try clear c25b1
        try clear c29
        try clear c29b0
        try clear c29b1
        try clear c31
        try clear c31b0
        try clear c31b1
        try clear c32
        try clear c32b0
        try clear c32b1
        try clear c33
        try clear c33b0
        try clear c33b1
        try clear c34
        try clear c34b0
        try clear c34b1
        try clear c35
        try clear c35b0
        try clear c35b1
        try clear c37
        try clear c40
        try clear c40b0
        try clear c40b1
        try clear c41
        try clear c41b0
        try clear c41b1
        try clear p2
        obtain ⟨kq, HA, HJ26, HB⟩ := hcut
        cases kq with
        | zero => exact absurd HA.out (by simp [tollhouselaw06_StartBack.j1])
        | succ kj26 =>
          have H := HA.out
          clear HA
          simp only [tollhouselaw06_StartBack.j1] at H
          replace H := Option.bind_eq_some_iff.mp H
          obtain ⟨⟨t208, t209, t210, t211⟩, A420, H⟩ := H
          replace H : (if t211 = 0 then ((start_PutRequest.f t208 t209 t210).bind fun bt212 => (if bt212.2 = 0 then (if bt212.1.toList = a0.toList then (tollhouselaw06_StartBack.j2 kj26 a0 t211) else (some false)) else (some false))) else (if t211 = 5 then (if t208.toList = ([] : List UInt8) then (if t209.toList = ([] : List UInt8) then (if t210 = 0 then (tollhouselaw06_StartBack.j2 kj26 a0 t211) else (some false)) else (some false)) else (some false)) else (some false))) = some r := H
          have A42 := Aside0.mk A420
          clear A420
          have HC43 := Aside0.mk H
          clear H
          go_upto_if 157 with (first | ((with_reducible refine gate_callee (f := 7) rfl ?_); refine goesL_ (some 151) rfl rfl Tryd.func7 (by kernel_rfl) rfl #[.string a0] rfl (by (try simp only [List.map_toArray, List.map_cons, List.map_nil]); first | done | rfl | (simp only [List.length_drop, List.length_take]; rfl)) ?_; (with_reducible refine (start_Request.calls kj26 a0 t208 t209 t210 t211 _ ?sideT A42.out).mono ?_); (case sideT => repeat (first | exact HT.out | exact (Tab.below HT.out HB.out) | (with_reducible first | refine Tab.alloc ?_ _ | refine Tab.drewN ?_ _ | refine Tab.drew ?_))); rintro e w44 ⟨rfl, hb⟩; refine ⟨_, rfl, ?_⟩; have n0_ := Aside0.mk (below_step (by repeat (first | (with_reducible first | exact HB.out | apply below_alloc | apply pw_below_drewN | apply below_drew1) | exact HB.out)) hb); clear HB; have HB := n0_; clear n0_; (try clear hb); (try clear hb2); (try clear hk); (try clear hi)))
          (try simp only [Act.put, List.setIfInBounds_toArray, List.set_cons_zero, List.set_cons_succ])
          go_cut [] (fun wc => ∃ (kq : Nat), Aside0 (tollhouselaw06_StartBack.j2 kq a0 t211 = some r) ∧ Aside0 (kq ≤ kj26) ∧ Aside0 (Below w.heap.size w wc))
          case first =>
            have H := HC43.out
            clear HC43
            by_cases c45 : t211 = 0
            · rw [if_pos c45] at H
              have c45b0 : (t211 == 0) = true := beq_iff_eq.mpr c45
              have c45b1 : (t211 != 0) = false := bne_eq_false_iff_eq.mpr c45
              clear c45
              (first | rw [c45b0] | (simp only [i64_w, i32_w]; rw [c45b0]) | skip)
              replace H := Option.bind_eq_some_iff.mp H
              obtain ⟨⟨t212, t213⟩, A460, H⟩ := H
              replace H : (if t213 = 0 then (if t212.toList = a0.toList then (tollhouselaw06_StartBack.j2 kj26 a0 t211) else (some false)) else (some false)) = some r := H
              have A46 := Aside0.mk A460
              clear A460
              by_cases c47 : t213 = 0
              · rw [if_pos c47] at H
                have c47b0 : (t213 == 0) = true := beq_iff_eq.mpr c47
                have c47b1 : (t213 != 0) = false := bne_eq_false_iff_eq.mpr c47
                clear c47
                by_cases c48 : t212.toList = a0.toList
                · rw [if_pos c48] at H
                  have c48b0 : (t212.toList == a0.toList) = true := beq_iff_eq.mpr c48
                  have c48b1 : (t212.toList != a0.toList) = false := bne_eq_false_iff_eq.mpr c48
                  clear c48
                  have H' := Aside0.mk H
                  clear H
                  go_wp2_with (first | ((with_reducible refine gate_callee (f := 9) rfl ?_); refine goesL_ (some 162) rfl rfl Tryd.func9 (by kernel_rfl) rfl #[.string t208, .string t209, .int .i64 t210] rfl (by (try simp only [List.map_toArray, List.map_cons, List.map_nil]); first | done | rfl | (simp only [List.length_drop, List.length_take]; rfl)) ?_; (with_reducible refine (start_PutRequest.calls t208 t209 t210 t212 t213 _ ?sideT A46.out).mono ?_); (case sideT => repeat (first | exact HT.out | exact (Tab.below HT.out HB.out) | (with_reducible first | refine Tab.alloc ?_ _ | refine Tab.drewN ?_ _ | refine Tab.drew ?_))); rintro e w49 ⟨rfl, hb⟩; refine ⟨_, rfl, ?_⟩; have n0_ := Aside0.mk (below_step (by repeat (first | (with_reducible first | exact HB.out | apply below_alloc | apply pw_below_drewN | apply below_drew1) | exact HB.out)) hb); clear HB; have HB := n0_; clear n0_; (try clear hb); (try clear hb2); (try clear hk); (try clear hi)))
                  go_meet
                  case rel => exact ⟨_, H', ⟨by have := HJ7.out; have := HJ26.out; first | omega | exact Nat.le_refl _⟩, ⟨by repeat (first | (with_reducible first | exact HB.out | apply below_alloc | apply pw_below_drewN | apply below_drew1) | exact HB.out)⟩⟩
                · rw [if_neg c48] at H
                  have c48b0 : (t212.toList == a0.toList) = false := beq_eq_false_iff_ne.mpr c48
                  have c48b1 : (t212.toList != a0.toList) = true := bne_iff_ne.mpr c48
                  exact absurd ((Option.some.inj H).trans hr_) (by decide)
              · rw [if_neg c47] at H
                have c47b0 : (t213 == 0) = false := beq_eq_false_iff_ne.mpr c47
                have c47b1 : (t213 != 0) = true := bne_iff_ne.mpr c47
                exact absurd ((Option.some.inj H).trans hr_) (by decide)
            · rw [if_neg c45] at H
              have c45b0 : (t211 == 0) = false := beq_eq_false_iff_ne.mpr c45
              have c45b1 : (t211 != 0) = true := bne_iff_ne.mpr c45
              (first | rw [c45b0] | (simp only [i64_w, i32_w]; rw [c45b0]) | skip)
              by_cases c50 : t211 = 5
              · rw [if_pos c50] at H
                have c50b0 : (t211 == 5) = true := beq_iff_eq.mpr c50
                have c50b1 : (t211 != 5) = false := bne_eq_false_iff_eq.mpr c50
                clear c50
                by_cases c51 : t208.toList = ([] : List UInt8)
                · rw [if_pos c51] at H
                  have c51b0 : (t208.toList == ([] : List UInt8)) = true := beq_iff_eq.mpr c51
                  have c51b1 : (t208.toList != ([] : List UInt8)) = false := bne_eq_false_iff_eq.mpr c51
                  clear c51
                  by_cases c52 : t209.toList = ([] : List UInt8)
                  · rw [if_pos c52] at H
                    have c52b0 : (t209.toList == ([] : List UInt8)) = true := beq_iff_eq.mpr c52
                    have c52b1 : (t209.toList != ([] : List UInt8)) = false := bne_eq_false_iff_eq.mpr c52
                    clear c52
                    by_cases c53 : t210 = 0
                    · rw [if_pos c53] at H
                      have c53b0 : (t210 == 0) = true := beq_iff_eq.mpr c53
                      have c53b1 : (t210 != 0) = false := bne_eq_false_iff_eq.mpr c53
                      clear c53
                      have H' := Aside0.mk H
                      clear H
                      go_wp2
                      go_meet
                      case rel => exact ⟨_, H', ⟨by have := HJ7.out; have := HJ26.out; first | omega | exact Nat.le_refl _⟩, ⟨by repeat (first | (with_reducible first | exact HB.out | apply below_alloc | apply pw_below_drewN | apply below_drew1) | exact HB.out)⟩⟩
                    · rw [if_neg c53] at H
                      have c53b0 : (t210 == 0) = false := beq_eq_false_iff_ne.mpr c53
                      have c53b1 : (t210 != 0) = true := bne_iff_ne.mpr c53
                      exact absurd ((Option.some.inj H).trans hr_) (by decide)
                  · rw [if_neg c52] at H
                    have c52b0 : (t209.toList == ([] : List UInt8)) = false := beq_eq_false_iff_ne.mpr c52
                    have c52b1 : (t209.toList != ([] : List UInt8)) = true := bne_iff_ne.mpr c52
                    exact absurd ((Option.some.inj H).trans hr_) (by decide)
                · rw [if_neg c51] at H
                  have c51b0 : (t208.toList == ([] : List UInt8)) = false := beq_eq_false_iff_ne.mpr c51
                  have c51b1 : (t208.toList != ([] : List UInt8)) = true := bne_iff_ne.mpr c51
                  exact absurd ((Option.some.inj H).trans hr_) (by decide)
              · rw [if_neg c50] at H
                have c50b0 : (t211 == 5) = false := beq_eq_false_iff_ne.mpr c50
                have c50b1 : (t211 != 5) = true := bne_iff_ne.mpr c50
                exact absurd ((Option.some.inj H).trans hr_) (by decide)
          case rest =>
            clear HC43
            try clear c1
            try clear c2
            try clear p2
            try clear c3
            try clear c4
            try clear c5
            try clear c7
            try clear c9
            try clear c10
            try clear c10b0
            try clear c10b1
            try clear c12
            try clear c13
            try clear c13b0
            try clear c13b1
            try clear c14
            try clear c14b0
            try clear c14b1
            try clear c15
            try clear c15b0
            try clear c15b1
            try clear c16
            try clear c16b0
            try clear c16b1
            try clear c17
            try clear c17b0
            try clear c17b1
            try clear c18
            try clear c18b0
            try clear c18b1
            try clear c20
            try clear c24
            try clear c24b0
            try clear c24b1
            try clear c25
            try clear c25b0
            try clear c25b1
            try clear c29
            try clear c29b0
            try clear c29b1
            try clear c31
            try clear c31b0
            try clear c31b1
            try clear c32
            try clear c32b0
            try clear c32b1
            try clear c33
            try clear c33b0
            try clear c33b1
            try clear c34
            try clear c34b0
            try clear c34b1
            try clear c35
            try clear c35b0
            try clear c35b1
            try clear c37
            try clear c40
            try clear c40b0
            try clear c40b1
            try clear c41
            try clear c41b0
            try clear c41b1
            try clear c45
            try clear c45b0
            try clear c45b1
            try clear c47
            try clear c47b0
            try clear c47b1
            try clear c48
            try clear c48b0
            try clear c48b1
            try clear c50
            try clear c50b0
            try clear c50b1
            try clear c51
            try clear c51b0
            try clear c51b1
            try clear c52
            try clear c52b0
            try clear c52b1
            try clear c53
            try clear c53b0
            try clear c53b1
            try clear p2
            obtain ⟨kq, HA, HJ42, HB⟩ := hcut
            cases kq with
            | zero => exact absurd HA.out (by simp [tollhouselaw06_StartBack.j2])
            | succ kj42 =>
              have H := HA.out
              clear HA
              simp only [tollhouselaw06_StartBack.j2] at H
              replace H := Option.bind_eq_some_iff.mp H
              obtain ⟨⟨t214, t215, t216, t217⟩, A540, H⟩ := H
              replace H : (if t217 = 0 then ((start_PutStatus.f t214 t215 t216).bind fun bt218 => (if t211 = 0 then (some false) else (if bt218.2 = 0 then (if bt218.1.toList = a0.toList then ((tollhouselaw06_wakes.f kj42).bind fun t220 => (some t220)) else (some false)) else (some false)))) else (if t217 = 5 then (if t214 = 0 then (if t215 = 0 then (if t216.toList = ([] : List UInt8) then ((tollhouselaw06_wakes.f kj42).bind fun t221 => (some t221)) else (some false)) else (some false)) else (some false)) else (some false))) = some r := H
              have A54 := Aside0.mk A540
              clear A540
              by_cases c55 : t217 = 0
              · rw [if_pos c55] at H
                have c55b0 : (t217 == 0) = true := beq_iff_eq.mpr c55
                have c55b1 : (t217 != 0) = false := bne_eq_false_iff_eq.mpr c55
                clear c55
                replace H := Option.bind_eq_some_iff.mp H
                obtain ⟨⟨t218, t219⟩, A560, H⟩ := H
                replace H : (if t211 = 0 then (some false) else (if t219 = 0 then (if t218.toList = a0.toList then ((tollhouselaw06_wakes.f kj42).bind fun t220 => (some t220)) else (some false)) else (some false))) = some r := H
                have A56 := Aside0.mk A560
                clear A560
                by_cases c57 : t211 = 0
                · rw [if_pos c57] at H
                  have c57b0 : (t211 == 0) = true := beq_iff_eq.mpr c57
                  have c57b1 : (t211 != 0) = false := bne_eq_false_iff_eq.mpr c57
                  clear c57
                  exact absurd ((Option.some.inj H).trans hr_) (by decide)
                · rw [if_neg c57] at H
                  have c57b0 : (t211 == 0) = false := beq_eq_false_iff_ne.mpr c57
                  have c57b1 : (t211 != 0) = true := bne_iff_ne.mpr c57
                  by_cases c58 : t219 = 0
                  · rw [if_pos c58] at H
                    have c58b0 : (t219 == 0) = true := beq_iff_eq.mpr c58
                    have c58b1 : (t219 != 0) = false := bne_eq_false_iff_eq.mpr c58
                    clear c58
                    by_cases c59 : t218.toList = a0.toList
                    · rw [if_pos c59] at H
                      have c59b0 : (t218.toList == a0.toList) = true := beq_iff_eq.mpr c59
                      have c59b1 : (t218.toList != a0.toList) = false := bne_eq_false_iff_eq.mpr c59
                      clear c59
                      replace H := Option.bind_eq_some_iff.mp H
                      obtain ⟨t220, A600, H⟩ := H
                      replace H : (some t220) = some r := H
                      have A60 := Aside0.mk A600
                      clear A600
                      obtain rfl := Option.some.inj H
                      go_wp2_with (first | ((with_reducible refine gate_callee (f := 12) rfl ?_); refine goesL_ (some 188) rfl rfl Tryd.func12 (by kernel_rfl) rfl #[.string a0] rfl (by (try simp only [List.map_toArray, List.map_cons, List.map_nil]); first | done | rfl | (simp only [List.length_drop, List.length_take]; rfl)) ?_; (with_reducible refine (start_Status.calls a0 t214 t215 t216 t217 _ ?sideT A54.out).mono ?_); (case sideT => repeat (first | exact HT.out | exact (Tab.below HT.out HB.out) | (with_reducible first | refine Tab.alloc ?_ _ | refine Tab.drewN ?_ _ | refine Tab.drew ?_))); rintro e w61 ⟨rfl, hb⟩; refine ⟨_, rfl, ?_⟩; have n0_ := Aside0.mk (below_step (by repeat (first | (with_reducible first | exact HB.out | apply below_alloc | apply pw_below_drewN | apply below_drew1) | exact HB.out)) hb); clear HB; have HB := n0_; clear n0_; (try clear hb); (try clear hb2); (try clear hk); (try clear hi)) | ((with_reducible refine gate_callee (f := 14) rfl ?_); refine goesL_ (some 216) rfl rfl Tryd.func14 (by kernel_rfl) rfl #[.int .i64 t214, .int .i64 t215, .string t216] rfl (by (try simp only [List.map_toArray, List.map_cons, List.map_nil]); first | done | rfl | (simp only [List.length_drop, List.length_take]; rfl)) ?_; (with_reducible refine (start_PutStatus.calls t214 t215 t216 t218 t219 _ ?sideT A56.out).mono ?_); (case sideT => repeat (first | exact HT.out | exact (Tab.below HT.out HB.out) | (with_reducible first | refine Tab.alloc ?_ _ | refine Tab.drewN ?_ _ | refine Tab.drew ?_))); rintro e w62 ⟨rfl, hb⟩; refine ⟨_, rfl, ?_⟩; have n0_ := Aside0.mk (below_step (by repeat (first | (with_reducible first | exact HB.out | apply below_alloc | apply pw_below_drewN | apply below_drew1) | exact HB.out)) hb); clear HB; have HB := n0_; clear n0_; (try clear hb); (try clear hb2); (try clear hk); (try clear hi)) | (go_at_call 11; (with_reducible refine (tollhouselaw06_wakes.calls kj42 t220 _ ?sideT A60.out).mono ?_); (case sideT => repeat (first | exact HT.out | exact (Tab.below HT.out HB.out) | (with_reducible first | refine Tab.alloc ?_ _ | refine Tab.drewN ?_ _ | refine Tab.drew ?_))); rintro e w63 ⟨rfl, hb⟩; have n0_ := Aside0.mk (below_step (by repeat (first | (with_reducible first | exact HB.out | apply below_alloc | apply pw_below_drewN | apply below_drew1) | exact HB.out)) hb); clear HB; have HB := n0_; clear n0_; (try clear hb); (try clear hb2); (try clear hk); (try clear hi)))
                      go_ret
                      exact ⟨by first | rfl | (simp [errW_none, errW_some] <;> rfl) | (simp [*, errW_none, errW_some] <;> rfl), by repeat (first | (with_reducible first | exact HB.out | apply below_alloc | apply pw_below_drewN | apply below_drew1) | exact HB.out)⟩
                    · rw [if_neg c59] at H
                      have c59b0 : (t218.toList == a0.toList) = false := beq_eq_false_iff_ne.mpr c59
                      have c59b1 : (t218.toList != a0.toList) = true := bne_iff_ne.mpr c59
                      exact absurd ((Option.some.inj H).trans hr_) (by decide)
                  · rw [if_neg c58] at H
                    have c58b0 : (t219 == 0) = false := beq_eq_false_iff_ne.mpr c58
                    have c58b1 : (t219 != 0) = true := bne_iff_ne.mpr c58
                    exact absurd ((Option.some.inj H).trans hr_) (by decide)
              · rw [if_neg c55] at H
                have c55b0 : (t217 == 0) = false := beq_eq_false_iff_ne.mpr c55
                have c55b1 : (t217 != 0) = true := bne_iff_ne.mpr c55
                by_cases c64 : t217 = 5
                · rw [if_pos c64] at H
                  have c64b0 : (t217 == 5) = true := beq_iff_eq.mpr c64
                  have c64b1 : (t217 != 5) = false := bne_eq_false_iff_eq.mpr c64
                  clear c64
                  by_cases c65 : t214 = 0
                  · rw [if_pos c65] at H
                    have c65b0 : (t214 == 0) = true := beq_iff_eq.mpr c65
                    have c65b1 : (t214 != 0) = false := bne_eq_false_iff_eq.mpr c65
                    clear c65
                    by_cases c66 : t215 = 0
                    · rw [if_pos c66] at H
                      have c66b0 : (t215 == 0) = true := beq_iff_eq.mpr c66
                      have c66b1 : (t215 != 0) = false := bne_eq_false_iff_eq.mpr c66
                      clear c66
                      by_cases c67 : t216.toList = ([] : List UInt8)
                      · rw [if_pos c67] at H
                        have c67b0 : (t216.toList == ([] : List UInt8)) = true := beq_iff_eq.mpr c67
                        have c67b1 : (t216.toList != ([] : List UInt8)) = false := bne_eq_false_iff_eq.mpr c67
                        clear c67
                        replace H := Option.bind_eq_some_iff.mp H
                        obtain ⟨t221, A680, H⟩ := H
                        replace H : (some t221) = some r := H
                        have A68 := Aside0.mk A680
                        clear A680
                        obtain rfl := Option.some.inj H
                        go_wp2_with (first | ((with_reducible refine gate_callee (f := 12) rfl ?_); refine goesL_ (some 188) rfl rfl Tryd.func12 (by kernel_rfl) rfl #[.string a0] rfl (by (try simp only [List.map_toArray, List.map_cons, List.map_nil]); first | done | rfl | (simp only [List.length_drop, List.length_take]; rfl)) ?_; (with_reducible refine (start_Status.calls a0 t214 t215 t216 t217 _ ?sideT A54.out).mono ?_); (case sideT => repeat (first | exact HT.out | exact (Tab.below HT.out HB.out) | (with_reducible first | refine Tab.alloc ?_ _ | refine Tab.drewN ?_ _ | refine Tab.drew ?_))); rintro e w69 ⟨rfl, hb⟩; refine ⟨_, rfl, ?_⟩; have n0_ := Aside0.mk (below_step (by repeat (first | (with_reducible first | exact HB.out | apply below_alloc | apply pw_below_drewN | apply below_drew1) | exact HB.out)) hb); clear HB; have HB := n0_; clear n0_; (try clear hb); (try clear hb2); (try clear hk); (try clear hi)) | (go_at_call 11; (with_reducible refine (tollhouselaw06_wakes.calls kj42 t221 _ ?sideT A68.out).mono ?_); (case sideT => repeat (first | exact HT.out | exact (Tab.below HT.out HB.out) | (with_reducible first | refine Tab.alloc ?_ _ | refine Tab.drewN ?_ _ | refine Tab.drew ?_))); rintro e w70 ⟨rfl, hb⟩; have n0_ := Aside0.mk (below_step (by repeat (first | (with_reducible first | exact HB.out | apply below_alloc | apply pw_below_drewN | apply below_drew1) | exact HB.out)) hb); clear HB; have HB := n0_; clear n0_; (try clear hb); (try clear hb2); (try clear hk); (try clear hi)))
                        go_ret
                        exact ⟨by first | rfl | (simp [errW_none, errW_some] <;> rfl) | (simp [*, errW_none, errW_some] <;> rfl), by repeat (first | (with_reducible first | exact HB.out | apply below_alloc | apply pw_below_drewN | apply below_drew1) | exact HB.out)⟩
                      · rw [if_neg c67] at H
                        have c67b0 : (t216.toList == ([] : List UInt8)) = false := beq_eq_false_iff_ne.mpr c67
                        have c67b1 : (t216.toList != ([] : List UInt8)) = true := bne_iff_ne.mpr c67
                        exact absurd ((Option.some.inj H).trans hr_) (by decide)
                    · rw [if_neg c66] at H
                      have c66b0 : (t215 == 0) = false := beq_eq_false_iff_ne.mpr c66
                      have c66b1 : (t215 != 0) = true := bne_iff_ne.mpr c66
                      exact absurd ((Option.some.inj H).trans hr_) (by decide)
                  · rw [if_neg c65] at H
                    have c65b0 : (t214 == 0) = false := beq_eq_false_iff_ne.mpr c65
                    have c65b1 : (t214 != 0) = true := bne_iff_ne.mpr c65
                    exact absurd ((Option.some.inj H).trans hr_) (by decide)
                · rw [if_neg c64] at H
                  have c64b0 : (t217 == 5) = false := beq_eq_false_iff_ne.mpr c64
                  have c64b1 : (t217 != 5) = true := bne_iff_ne.mpr c64
                  exact absurd ((Option.some.inj H).trans hr_) (by decide)


end Go.Proofs.YtjmaobipfpiddaaDoor.P
