/- The walk of the Go function tollhouselaw06 StartRequests, and what it computes. By program. Conditions: none but those that each theorem names. -/
import Derived.Test.YtjmaobipfpiddaaDoorQ0
import Derived.Test.YtjmaobipfpiddaaDoorQstartPutRequest
import Derived.Test.YtjmaobipfpiddaaDoorQstartRequest
import Derived.Test.YtjmaobipfpiddaaDoorQtollhouselaw06wakes
import Derived.Test.YtjmaobipfpiddaaDoorQRef06
namespace Go.Proofs.YtjmaobipfpiddaaDoor.P
open Go.RowKit Go.Proofs.YtjmaobipfpiddaaDoorW.PrintWords Go.Proofs.YtjmaobipfpiddaaDoorW.PrintLast Go.Proofs.YtjmaobipfpiddaaDoorW.PrintMore
attribute [local go_sem] max2_int min2_int max_two min_two max_three min_three max_four min_four
set_option linter.unusedVariables false
set_option linter.unusedSimpArgs false

/-! ### tollhouselaw06_StartRequests: function 3 -/
def tollhouselaw06_StartRequests.f (k : Nat) (a0 : ByteArray) (a1 : ByteArray) (a2 : ByteArray) (a3 : Int) : Option (Bool) := (start_Request.f k a0).bind fun bt239 => ((tollhouseref06_Request.f k a0).bind fun bt243 => ((start_PutRequest.f a1 a2 a3).bind fun bt247 => ((tollhouseref06_PutRequest.f k a1 a2 a3).bind fun bt249 => (if bt239.1.toList = bt243.1.toList then (if bt239.2.1.toList = bt243.2.1.toList then (if bt239.2.2.1 = bt243.2.2.1 then (if bt239.2.2.2 = bt243.2.2.2 then (if bt247.1.toList = bt249.1.toList then (if bt247.2 = bt249.2 then ((tollhouselaw06_wakes.f k).bind fun t251 => (some t251)) else (some false)) else (some false)) else (some false)) else (some false)) else (some false)) else (some false)))))
theorem tollhouselaw06_StartRequests.mono : ∀ a0 a1 a2 a3 k, LeO (tollhouselaw06_StartRequests.f k a0 a1 a2 a3) (tollhouselaw06_StartRequests.f (k + 1) a0 a1 a2 a3) := by
  intro a0 a1 a2 a3 k
  unfold tollhouselaw06_StartRequests.f
  repeat' first
      | (with_reducible exact start_Request.mono _ _)
      | (with_reducible exact tollhouselaw06_wakes.mono _)
      | (with_reducible exact tollhouseref06_PutRequest.mono _ _ _ _)
      | (with_reducible exact tollhouseref06_Request.mono _ _)
      | (with_reducible exact LeO.refl _)
      | (with_reducible exact LeO.none _)
      | (with_reducible refine LeO.ite ?_ ?_)
      | (with_reducible refine LeO.bind ?_ (fun _ => ?_))
      | exact start_Request.mono _ _
      | exact tollhouselaw06_wakes.mono _
      | exact tollhouseref06_PutRequest.mono _ _ _ _
      | exact tollhouseref06_Request.mono _ _
      | exact LeO.none _
      | refine LeO.ite ?_ ?_
      | refine LeO.bind ?_ (fun _ => ?_)
set_option maxHeartbeats 8000000 in
set_option maxRecDepth 100000 in
theorem tollhouselaw06_StartRequests.calls (k : Nat) (a0 : ByteArray) (a1 : ByteArray) (a2 : ByteArray) (a3 : Int) (r : Bool) (w : World) (hr_ : r = true) (hT : Tab w) (h : tollhouselaw06_StartRequests.f k a0 a1 a2 a3 = some r) :
    Calls Tryd.prog 3 #[.string a0, .string a1, .string a2, .int .i64 a3] w fun e w' => e = .returned (.bool r) ∧ Below w.heap.size w w' := by
  have HT := Aside0.mk hT
  clear hT
  have HB := Aside0.mk (Below.refl w.heap.size w)
  have H : ((start_Request.f k a0).bind fun bt239 => ((tollhouseref06_Request.f k a0).bind fun bt243 => ((start_PutRequest.f a1 a2 a3).bind fun bt247 => ((tollhouseref06_PutRequest.f k a1 a2 a3).bind fun bt249 => (if bt239.1.toList = bt243.1.toList then (if bt239.2.1.toList = bt243.2.1.toList then (if bt239.2.2.1 = bt243.2.2.1 then (if bt239.2.2.2 = bt243.2.2.2 then (if bt247.1.toList = bt249.1.toList then (if bt247.2 = bt249.2 then ((tollhouselaw06_wakes.f k).bind fun t251 => (some t251)) else (some false)) else (some false)) else (some false)) else (some false)) else (some false)) else (some false)))))) = some r := h
  clear h
  replace H := Option.bind_eq_some_iff.mp H
  obtain ⟨⟨t239, t240, t241, t242⟩, A50, H⟩ := H
  replace H : ((tollhouseref06_Request.f k a0).bind fun bt243 => ((start_PutRequest.f a1 a2 a3).bind fun bt247 => ((tollhouseref06_PutRequest.f k a1 a2 a3).bind fun bt249 => (if t239.toList = bt243.1.toList then (if t240.toList = bt243.2.1.toList then (if t241 = bt243.2.2.1 then (if t242 = bt243.2.2.2 then (if bt247.1.toList = bt249.1.toList then (if bt247.2 = bt249.2 then ((tollhouselaw06_wakes.f k).bind fun t251 => (some t251)) else (some false)) else (some false)) else (some false)) else (some false)) else (some false)) else (some false))))) = some r := H
  have A5 := Aside0.mk A50
  clear A50
  replace H := Option.bind_eq_some_iff.mp H
  obtain ⟨⟨t243, t244, t245, t246⟩, A60, H⟩ := H
  replace H : ((start_PutRequest.f a1 a2 a3).bind fun bt247 => ((tollhouseref06_PutRequest.f k a1 a2 a3).bind fun bt249 => (if t239.toList = t243.toList then (if t240.toList = t244.toList then (if t241 = t245 then (if t242 = t246 then (if bt247.1.toList = bt249.1.toList then (if bt247.2 = bt249.2 then ((tollhouselaw06_wakes.f k).bind fun t251 => (some t251)) else (some false)) else (some false)) else (some false)) else (some false)) else (some false)) else (some false)))) = some r := H
  have A6 := Aside0.mk A60
  clear A60
  replace H := Option.bind_eq_some_iff.mp H
  obtain ⟨⟨t247, t248⟩, A70, H⟩ := H
  replace H : ((tollhouseref06_PutRequest.f k a1 a2 a3).bind fun bt249 => (if t239.toList = t243.toList then (if t240.toList = t244.toList then (if t241 = t245 then (if t242 = t246 then (if t247.toList = bt249.1.toList then (if t248 = bt249.2 then ((tollhouselaw06_wakes.f k).bind fun t251 => (some t251)) else (some false)) else (some false)) else (some false)) else (some false)) else (some false)) else (some false))) = some r := H
  have A7 := Aside0.mk A70
  clear A70
  replace H := Option.bind_eq_some_iff.mp H
  obtain ⟨⟨t249, t250⟩, A80, H⟩ := H
  replace H : (if t239.toList = t243.toList then (if t240.toList = t244.toList then (if t241 = t245 then (if t242 = t246 then (if t247.toList = t249.toList then (if t248 = t250 then ((tollhouselaw06_wakes.f k).bind fun t251 => (some t251)) else (some false)) else (some false)) else (some false)) else (some false)) else (some false)) else (some false)) = some r := H
  have A8 := Aside0.mk A80
  clear A80
  by_cases c9 : t239.toList = t243.toList
  · rw [if_pos c9] at H
    have c9b0 : (t239.toList == t243.toList) = true := beq_iff_eq.mpr c9
    have c9b1 : (t239.toList != t243.toList) = false := bne_eq_false_iff_eq.mpr c9
    clear c9
    by_cases c10 : t240.toList = t244.toList
    · rw [if_pos c10] at H
      have c10b0 : (t240.toList == t244.toList) = true := beq_iff_eq.mpr c10
      have c10b1 : (t240.toList != t244.toList) = false := bne_eq_false_iff_eq.mpr c10
      clear c10
      by_cases c11 : t241 = t245
      · rw [if_pos c11] at H
        have c11b0 : (t241 == t245) = true := beq_iff_eq.mpr c11
        have c11b1 : (t241 != t245) = false := bne_eq_false_iff_eq.mpr c11
        clear c11
        by_cases c12 : t242 = t246
        · rw [if_pos c12] at H
          have c12b0 : (t242 == t246) = true := beq_iff_eq.mpr c12
          have c12b1 : (t242 != t246) = false := bne_eq_false_iff_eq.mpr c12
          clear c12
          by_cases c13 : t247.toList = t249.toList
          · rw [if_pos c13] at H
            have c13b0 : (t247.toList == t249.toList) = true := beq_iff_eq.mpr c13
            have c13b1 : (t247.toList != t249.toList) = false := bne_eq_false_iff_eq.mpr c13
            clear c13
            by_cases c14 : t248 = t250
            · rw [if_pos c14] at H
              have c14b0 : (t248 == t250) = true := beq_iff_eq.mpr c14
              have c14b1 : (t248 != t250) = false := bne_eq_false_iff_eq.mpr c14
              clear c14
              replace H := Option.bind_eq_some_iff.mp H
              obtain ⟨t251, A150, H⟩ := H
              replace H : (some t251) = some r := H
              have A15 := Aside0.mk A150
              clear A150
              obtain rfl := Option.some.inj H
              go_enter Tryd.func3, Tryd.ntmps3
              go_wp2_with (first | ((with_reducible refine gate_callee (f := 7) rfl ?_); refine goesL_ (some 23) rfl rfl Tryd.func7 (by kernel_rfl) rfl #[.string a0] rfl (by (try simp only [List.map_toArray, List.map_cons, List.map_nil]); first | done | rfl | (simp only [List.length_drop, List.length_take]; rfl)) ?_; (with_reducible refine (start_Request.calls k a0 t239 t240 t241 t242 _ ?sideT A5.out).mono ?_); (case sideT => repeat (first | exact HT.out | exact (Tab.below HT.out HB.out) | (with_reducible first | refine Tab.alloc ?_ _ | refine Tab.drewN ?_ _ | refine Tab.drew ?_))); rintro e w16 ⟨rfl, hb⟩; refine ⟨_, rfl, ?_⟩; have n0_ := Aside0.mk (below_step (by repeat (first | (with_reducible first | exact HB.out | apply below_alloc | apply pw_below_drewN | apply below_drew1) | exact HB.out)) hb); clear HB; have HB := n0_; clear n0_; (try clear hb); (try clear hb2); (try clear hk); (try clear hi)) | ((with_reducible refine gate_callee (f := 8) rfl ?_); refine goesL_ (some 30) rfl rfl Tryd.func8 (by kernel_rfl) rfl #[.string a0] rfl (by (try simp only [List.map_toArray, List.map_cons, List.map_nil]); first | done | rfl | (simp only [List.length_drop, List.length_take]; rfl)) ?_; (with_reducible refine (tollhouseref06_Request.calls k a0 t243 t244 t245 t246 _ A6.out).mono ?_); rintro e w17 ⟨rfl, hb⟩; refine ⟨_, rfl, ?_⟩; have n0_ := Aside0.mk (below_step (by repeat (first | (with_reducible first | exact HB.out | apply below_alloc | apply pw_below_drewN | apply below_drew1) | exact HB.out)) hb); clear HB; have HB := n0_; clear n0_; (try clear hb); (try clear hb2); (try clear hk); (try clear hi)) | ((with_reducible refine gate_callee (f := 9) rfl ?_); refine goesL_ (some 39) rfl rfl Tryd.func9 (by kernel_rfl) rfl #[.string a1, .string a2, .int .i64 a3] rfl (by (try simp only [List.map_toArray, List.map_cons, List.map_nil]); first | done | rfl | (simp only [List.length_drop, List.length_take]; rfl)) ?_; (with_reducible refine (start_PutRequest.calls a1 a2 a3 t247 t248 _ ?sideT A7.out).mono ?_); (case sideT => repeat (first | exact HT.out | exact (Tab.below HT.out HB.out) | (with_reducible first | refine Tab.alloc ?_ _ | refine Tab.drewN ?_ _ | refine Tab.drew ?_))); rintro e w18 ⟨rfl, hb⟩; refine ⟨_, rfl, ?_⟩; have n0_ := Aside0.mk (below_step (by repeat (first | (with_reducible first | exact HB.out | apply below_alloc | apply pw_below_drewN | apply below_drew1) | exact HB.out)) hb); clear HB; have HB := n0_; clear n0_; (try clear hb); (try clear hb2); (try clear hk); (try clear hi)) | ((with_reducible refine gate_callee (f := 10) rfl ?_); refine goesL_ (some 46) rfl rfl Tryd.func10 (by kernel_rfl) rfl #[.string a1, .string a2, .int .i64 a3] rfl (by (try simp only [List.map_toArray, List.map_cons, List.map_nil]); first | done | rfl | (simp only [List.length_drop, List.length_take]; rfl)) ?_; (with_reducible refine (tollhouseref06_PutRequest.calls k a1 a2 a3 t249 t250 _ A8.out).mono ?_); rintro e w19 ⟨rfl, hb⟩; refine ⟨_, rfl, ?_⟩; have n0_ := Aside0.mk (below_step (by repeat (first | (with_reducible first | exact HB.out | apply below_alloc | apply pw_below_drewN | apply below_drew1) | exact HB.out)) hb); clear HB; have HB := n0_; clear n0_; (try clear hb); (try clear hb2); (try clear hk); (try clear hi)) | (go_at_call 11; (with_reducible refine (tollhouselaw06_wakes.calls k t251 _ ?sideT A15.out).mono ?_); (case sideT => repeat (first | exact HT.out | exact (Tab.below HT.out HB.out) | (with_reducible first | refine Tab.alloc ?_ _ | refine Tab.drewN ?_ _ | refine Tab.drew ?_))); rintro e w20 ⟨rfl, hb⟩; have n0_ := Aside0.mk (below_step (by repeat (first | (with_reducible first | exact HB.out | apply below_alloc | apply pw_below_drewN | apply below_drew1) | exact HB.out)) hb); clear HB; have HB := n0_; clear n0_; (try clear hb); (try clear hb2); (try clear hk); (try clear hi)))
              go_ret
              exact ⟨by first | rfl | (simp [errW_none, errW_some] <;> rfl) | (simp [*, errW_none, errW_some] <;> rfl), by repeat (first | (with_reducible first | exact HB.out | apply below_alloc | apply pw_below_drewN | apply below_drew1) | exact HB.out)⟩
            · rw [if_neg c14] at H
              have c14b0 : (t248 == t250) = false := beq_eq_false_iff_ne.mpr c14
              have c14b1 : (t248 != t250) = true := bne_iff_ne.mpr c14
              exact absurd ((Option.some.inj H).trans hr_) (by decide)
          · rw [if_neg c13] at H
            have c13b0 : (t247.toList == t249.toList) = false := beq_eq_false_iff_ne.mpr c13
            have c13b1 : (t247.toList != t249.toList) = true := bne_iff_ne.mpr c13
            exact absurd ((Option.some.inj H).trans hr_) (by decide)
        · rw [if_neg c12] at H
          have c12b0 : (t242 == t246) = false := beq_eq_false_iff_ne.mpr c12
          have c12b1 : (t242 != t246) = true := bne_iff_ne.mpr c12
          exact absurd ((Option.some.inj H).trans hr_) (by decide)
      · rw [if_neg c11] at H
        have c11b0 : (t241 == t245) = false := beq_eq_false_iff_ne.mpr c11
        have c11b1 : (t241 != t245) = true := bne_iff_ne.mpr c11
        exact absurd ((Option.some.inj H).trans hr_) (by decide)
    · rw [if_neg c10] at H
      have c10b0 : (t240.toList == t244.toList) = false := beq_eq_false_iff_ne.mpr c10
      have c10b1 : (t240.toList != t244.toList) = true := bne_iff_ne.mpr c10
      exact absurd ((Option.some.inj H).trans hr_) (by decide)
  · rw [if_neg c9] at H
    have c9b0 : (t239.toList == t243.toList) = false := beq_eq_false_iff_ne.mpr c9
    have c9b1 : (t239.toList != t243.toList) = true := bne_iff_ne.mpr c9
    exact absurd ((Option.some.inj H).trans hr_) (by decide)


end Go.Proofs.YtjmaobipfpiddaaDoor.P
