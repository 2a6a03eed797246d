/- The walk of the Go function tollhouselaw06 StartStatuses, and what it computes. By program. Conditions: none but those that each theorem names. -/
import Derived.Test.YtjmaobipfpiddaaDoorQ0
import Derived.Test.YtjmaobipfpiddaaDoorQstartPutStatus
import Derived.Test.YtjmaobipfpiddaaDoorQtollhouselaw06wakes
import Derived.Test.YtjmaobipfpiddaaDoorQRef06
import Derived.Test.YtjmaobipfpiddaaDoorFstartStatus
import Derived.Test.YtjmaobipfpiddaaDoorFstartReason
namespace Go.Proofs.YtjmaobipfpiddaaDoor.P
open Go.RowKit Go.Proofs.YtjmaobipfpiddaaDoorW.PrintWords Go.Proofs.YtjmaobipfpiddaaDoorW.PrintLast Go.Proofs.YtjmaobipfpiddaaDoorW.PrintMore
attribute [local go_sem] max2_int min2_int max_two min_two max_three min_three max_four min_four
set_option linter.unusedVariables false
set_option linter.unusedSimpArgs false

/-! ### tollhouselaw06_StartStatuses: function 4 -/
def tollhouselaw06_StartStatuses.f (k : Nat) (a0 : ByteArray) (a1 : Int) (a2 : Int) (a3 : ByteArray) : Option (Bool) := (start_Status.f a0).bind fun bt265 => ((tollhouseref06_Status.f k a0).bind fun bt269 => ((start_PutStatus.f a1 a2 a3).bind fun bt273 => ((tollhouseref06_PutStatus.f k a1 a2 a3).bind fun bt275 => (if bt265.1 = bt269.1 then (if bt265.2.1 = bt269.2.1 then (if bt265.2.2.1.toList = bt269.2.2.1.toList then (if bt265.2.2.2 = bt269.2.2.2 then (if bt273.1.toList = bt275.1.toList then (if bt273.2 = bt275.2 then ((start_Reason.f a2).bind fun t277 => ((tollhouseref06_Reason.f a2).bind fun t278 => (if t277.toList = t278.toList then ((tollhouselaw06_wakes.f k).bind fun t279 => (some t279)) else (some false)))) else (some false)) else (some false)) else (some false)) else (some false)) else (some false)) else (some false)))))
theorem tollhouselaw06_StartStatuses.mono : ∀ a0 a1 a2 a3 k, LeO (tollhouselaw06_StartStatuses.f k a0 a1 a2 a3) (tollhouselaw06_StartStatuses.f (k + 1) a0 a1 a2 a3) := by
  intro a0 a1 a2 a3 k
  unfold tollhouselaw06_StartStatuses.f
  repeat' first
      | (with_reducible exact tollhouselaw06_wakes.mono _)
      | (with_reducible exact tollhouseref06_PutStatus.mono _ _ _ _)
      | (with_reducible exact tollhouseref06_Status.mono _ _)
      | (with_reducible exact LeO.refl _)
      | (with_reducible exact LeO.none _)
      | (with_reducible refine LeO.ite ?_ ?_)
      | (with_reducible refine LeO.bind ?_ (fun _ => ?_))
      | exact tollhouselaw06_wakes.mono _
      | exact tollhouseref06_PutStatus.mono _ _ _ _
      | exact tollhouseref06_Status.mono _ _
      | exact LeO.none _
      | refine LeO.ite ?_ ?_
      | refine LeO.bind ?_ (fun _ => ?_)
set_option maxHeartbeats 8000000 in
set_option maxRecDepth 100000 in
theorem tollhouselaw06_StartStatuses.calls (k : Nat) (a0 : ByteArray) (a1 : Int) (a2 : Int) (a3 : ByteArray) (r : Bool) (w : World) (hr_ : r = true) (hT : Tab w) (h : tollhouselaw06_StartStatuses.f k a0 a1 a2 a3 = some r) :
    Calls Tryd.prog 4 #[.string a0, .int .i64 a1, .int .i64 a2, .string a3] w fun e w' => e = .returned (.bool r) ∧ Below w.heap.size w w' := by
  have HT := Aside0.mk hT
  clear hT
  have HB := Aside0.mk (Below.refl w.heap.size w)
  have H : ((start_Status.f a0).bind fun bt265 => ((tollhouseref06_Status.f k a0).bind fun bt269 => ((start_PutStatus.f a1 a2 a3).bind fun bt273 => ((tollhouseref06_PutStatus.f k a1 a2 a3).bind fun bt275 => (if bt265.1 = bt269.1 then (if bt265.2.1 = bt269.2.1 then (if bt265.2.2.1.toList = bt269.2.2.1.toList then (if bt265.2.2.2 = bt269.2.2.2 then (if bt273.1.toList = bt275.1.toList then (if bt273.2 = bt275.2 then ((start_Reason.f a2).bind fun t277 => ((tollhouseref06_Reason.f a2).bind fun t278 => (if t277.toList = t278.toList then ((tollhouselaw06_wakes.f k).bind fun t279 => (some t279)) else (some false)))) else (some false)) else (some false)) else (some false)) else (some false)) else (some false)) else (some false)))))) = some r := h
  clear h
  replace H := Option.bind_eq_some_iff.mp H
  obtain ⟨⟨t265, t266, t267, t268⟩, A50, H⟩ := H
  replace H : ((tollhouseref06_Status.f k a0).bind fun bt269 => ((start_PutStatus.f a1 a2 a3).bind fun bt273 => ((tollhouseref06_PutStatus.f k a1 a2 a3).bind fun bt275 => (if t265 = bt269.1 then (if t266 = bt269.2.1 then (if t267.toList = bt269.2.2.1.toList then (if t268 = bt269.2.2.2 then (if bt273.1.toList = bt275.1.toList then (if bt273.2 = bt275.2 then ((start_Reason.f a2).bind fun t277 => ((tollhouseref06_Reason.f a2).bind fun t278 => (if t277.toList = t278.toList then ((tollhouselaw06_wakes.f k).bind fun t279 => (some t279)) else (some false)))) else (some false)) else (some false)) else (some false)) else (some false)) else (some false)) else (some false))))) = some r := H
  have A5 := Aside0.mk A50
  clear A50
  replace H := Option.bind_eq_some_iff.mp H
  obtain ⟨⟨t269, t270, t271, t272⟩, A60, H⟩ := H
  replace H : ((start_PutStatus.f a1 a2 a3).bind fun bt273 => ((tollhouseref06_PutStatus.f k a1 a2 a3).bind fun bt275 => (if t265 = t269 then (if t266 = t270 then (if t267.toList = t271.toList then (if t268 = t272 then (if bt273.1.toList = bt275.1.toList then (if bt273.2 = bt275.2 then ((start_Reason.f a2).bind fun t277 => ((tollhouseref06_Reason.f a2).bind fun t278 => (if t277.toList = t278.toList then ((tollhouselaw06_wakes.f k).bind fun t279 => (some t279)) else (some false)))) else (some false)) else (some false)) else (some false)) else (some false)) else (some false)) else (some false)))) = some r := H
  have A6 := Aside0.mk A60
  clear A60
  replace H := Option.bind_eq_some_iff.mp H
  obtain ⟨⟨t273, t274⟩, A70, H⟩ := H
  replace H : ((tollhouseref06_PutStatus.f k a1 a2 a3).bind fun bt275 => (if t265 = t269 then (if t266 = t270 then (if t267.toList = t271.toList then (if t268 = t272 then (if t273.toList = bt275.1.toList then (if t274 = bt275.2 then ((start_Reason.f a2).bind fun t277 => ((tollhouseref06_Reason.f a2).bind fun t278 => (if t277.toList = t278.toList then ((tollhouselaw06_wakes.f k).bind fun t279 => (some t279)) else (some false)))) else (some false)) else (some false)) else (some false)) else (some false)) else (some false)) else (some false))) = some r := H
  have A7 := Aside0.mk A70
  clear A70
  replace H := Option.bind_eq_some_iff.mp H
  obtain ⟨⟨t275, t276⟩, A80, H⟩ := H
  replace H : (if t265 = t269 then (if t266 = t270 then (if t267.toList = t271.toList then (if t268 = t272 then (if t273.toList = t275.toList then (if t274 = t276 then ((start_Reason.f a2).bind fun t277 => ((tollhouseref06_Reason.f a2).bind fun t278 => (if t277.toList = t278.toList then ((tollhouselaw06_wakes.f k).bind fun t279 => (some t279)) else (some false)))) else (some false)) else (some false)) else (some false)) else (some false)) else (some false)) else (some false)) = some r := H
  have A8 := Aside0.mk A80
  clear A80
  by_cases c9 : t265 = t269
  · rw [if_pos c9] at H
    have c9b0 : (t265 == t269) = true := beq_iff_eq.mpr c9
    have c9b1 : (t265 != t269) = false := bne_eq_false_iff_eq.mpr c9
    clear c9
    by_cases c10 : t266 = t270
    · rw [if_pos c10] at H
      have c10b0 : (t266 == t270) = true := beq_iff_eq.mpr c10
      have c10b1 : (t266 != t270) = false := bne_eq_false_iff_eq.mpr c10
      clear c10
      by_cases c11 : t267.toList = t271.toList
      · rw [if_pos c11] at H
        have c11b0 : (t267.toList == t271.toList) = true := beq_iff_eq.mpr c11
        have c11b1 : (t267.toList != t271.toList) = false := bne_eq_false_iff_eq.mpr c11
        clear c11
        by_cases c12 : t268 = t272
        · rw [if_pos c12] at H
          have c12b0 : (t268 == t272) = true := beq_iff_eq.mpr c12
          have c12b1 : (t268 != t272) = false := bne_eq_false_iff_eq.mpr c12
          clear c12
          by_cases c13 : t273.toList = t275.toList
          · rw [if_pos c13] at H
            have c13b0 : (t273.toList == t275.toList) = true := beq_iff_eq.mpr c13
            have c13b1 : (t273.toList != t275.toList) = false := bne_eq_false_iff_eq.mpr c13
            clear c13
            by_cases c14 : t274 = t276
            · rw [if_pos c14] at H
              have c14b0 : (t274 == t276) = true := beq_iff_eq.mpr c14
              have c14b1 : (t274 != t276) = false := bne_eq_false_iff_eq.mpr c14
              clear c14
              replace H := Option.bind_eq_some_iff.mp H
              obtain ⟨t277, A150, H⟩ := H
              replace H : ((tollhouseref06_Reason.f a2).bind fun t278 => (if t277.toList = t278.toList then ((tollhouselaw06_wakes.f k).bind fun t279 => (some t279)) else (some false))) = some r := H
              have A15 := Aside0.mk A150
              clear A150
              replace H := Option.bind_eq_some_iff.mp H
              obtain ⟨t278, A160, H⟩ := H
              replace H : (if t277.toList = t278.toList then ((tollhouselaw06_wakes.f k).bind fun t279 => (some t279)) else (some false)) = some r := H
              have A16 := Aside0.mk A160
              clear A160
              by_cases c17 : t277.toList = t278.toList
              · rw [if_pos c17] at H
                have c17b0 : (t277.toList == t278.toList) = true := beq_iff_eq.mpr c17
                have c17b1 : (t277.toList != t278.toList) = false := bne_eq_false_iff_eq.mpr c17
                clear c17
                replace H := Option.bind_eq_some_iff.mp H
                obtain ⟨t279, A180, H⟩ := H
                replace H : (some t279) = some r := H
                have A18 := Aside0.mk A180
                clear A180
                obtain rfl := Option.some.inj H
                go_enter Tryd.func4, Tryd.ntmps4
                go_wp2_with (first | ((with_reducible refine gate_callee (f := 12) rfl ?_); refine goesL_ (some 23) rfl rfl Tryd.func12 (by kernel_rfl) rfl #[.string a0] rfl (by (try simp only [List.map_toArray, List.map_cons, List.map_nil]); first | done | rfl | (simp only [List.length_drop, List.length_take]; rfl)) ?_; (with_reducible refine (start_Status.calls a0 t265 t266 t267 t268 _ ?sideT A5.out).mono ?_); (case sideT => repeat (first | exact HT.out | exact (Tab.below HT.out HB.out) | (with_reducible first | refine Tab.alloc ?_ _ | refine Tab.drewN ?_ _ | refine Tab.drew ?_))); rintro e w19 ⟨rfl, hb⟩; refine ⟨_, rfl, ?_⟩; have n0_ := Aside0.mk (below_step (by repeat (first | (with_reducible first | exact HB.out | apply below_alloc | apply pw_below_drewN | apply below_drew1) | exact HB.out)) hb); clear HB; have HB := n0_; clear n0_; (try clear hb); (try clear hb2); (try clear hk); (try clear hi)) | ((with_reducible refine gate_callee (f := 13) rfl ?_); refine goesL_ (some 30) rfl rfl Tryd.func13 (by kernel_rfl) rfl #[.string a0] rfl (by (try simp only [List.map_toArray, List.map_cons, List.map_nil]); first | done | rfl | (simp only [List.length_drop, List.length_take]; rfl)) ?_; (with_reducible refine (tollhouseref06_Status.calls k a0 t269 t270 t271 t272 _ A6.out).mono ?_); rintro e w' ⟨rfl, ⟨nd, rfl⟩⟩; refine ⟨_, rfl, ?_⟩) | ((with_reducible refine gate_callee (f := 14) rfl ?_); refine goesL_ (some 39) rfl rfl Tryd.func14 (by kernel_rfl) rfl #[.int .i64 a1, .int .i64 a2, .string a3] rfl (by (try simp only [List.map_toArray, List.map_cons, List.map_nil]); first | done | rfl | (simp only [List.length_drop, List.length_take]; rfl)) ?_; (with_reducible refine (start_PutStatus.calls a1 a2 a3 t273 t274 _ ?sideT A7.out).mono ?_); (case sideT => repeat (first | exact HT.out | exact (Tab.below HT.out HB.out) | (with_reducible first | refine Tab.alloc ?_ _ | refine Tab.drewN ?_ _ | refine Tab.drew ?_))); rintro e w20 ⟨rfl, hb⟩; refine ⟨_, rfl, ?_⟩; have n0_ := Aside0.mk (below_step (by repeat (first | (with_reducible first | exact HB.out | apply below_alloc | apply pw_below_drewN | apply below_drew1) | exact HB.out)) hb); clear HB; have HB := n0_; clear n0_; (try clear hb); (try clear hb2); (try clear hk); (try clear hi)) | ((with_reducible refine gate_callee (f := 15) rfl ?_); refine goesL_ (some 46) rfl rfl Tryd.func15 (by kernel_rfl) rfl #[.int .i64 a1, .int .i64 a2, .string a3] rfl (by (try simp only [List.map_toArray, List.map_cons, List.map_nil]); first | done | rfl | (simp only [List.length_drop, List.length_take]; rfl)) ?_; (with_reducible refine (tollhouseref06_PutStatus.calls k a1 a2 a3 t275 t276 _ A8.out).mono ?_); rintro e w21 ⟨rfl, hb⟩; refine ⟨_, rfl, ?_⟩; have n0_ := Aside0.mk (below_step (by repeat (first | (with_reducible first | exact HB.out | apply below_alloc | apply pw_below_drewN | apply below_drew1) | exact HB.out)) hb); clear HB; have HB := n0_; clear n0_; (try clear hb); (try clear hb2); (try clear hk); (try clear hi)) | (go_at_call 16; (with_reducible refine (start_Reason.calls a2 t277 _ A15.out).mono ?_); rintro e w22 ⟨rfl, hb⟩; have n0_ := Aside0.mk (below_step (by repeat (first | (with_reducible first | exact HB.out | apply below_alloc | apply pw_below_drewN | apply below_drew1) | exact HB.out)) hb); clear HB; have HB := n0_; clear n0_; (try clear hb); (try clear hb2); (try clear hk); (try clear hi)) | (go_at_call 17; (with_reducible refine (tollhouseref06_Reason.calls a2 t278 _ A16.out).mono ?_); rintro e w' ⟨rfl, ⟨nd, rfl⟩⟩) | (go_at_call 11; (with_reducible refine (tollhouselaw06_wakes.calls k t279 _ ?sideT A18.out).mono ?_); (case sideT => repeat (first | exact HT.out | exact (Tab.below HT.out HB.out) | (with_reducible first | refine Tab.alloc ?_ _ | refine Tab.drewN ?_ _ | refine Tab.drew ?_))); rintro e w23 ⟨rfl, hb⟩; have n0_ := Aside0.mk (below_step (by repeat (first | (with_reducible first | exact HB.out | apply below_alloc | apply pw_below_drewN | apply below_drew1) | exact HB.out)) hb); clear HB; have HB := n0_; clear n0_; (try clear hb); (try clear hb2); (try clear hk); (try clear hi)))
                go_ret
                exact ⟨by first | rfl | (simp [errW_none, errW_some] <;> rfl) | (simp [*, errW_none, errW_some] <;> rfl), by repeat (first | (with_reducible first | exact HB.out | apply below_alloc | apply pw_below_drewN | apply below_drew1) | exact HB.out)⟩
              · rw [if_neg c17] at H
                have c17b0 : (t277.toList == t278.toList) = false := beq_eq_false_iff_ne.mpr c17
                have c17b1 : (t277.toList != t278.toList) = true := bne_iff_ne.mpr c17
                exact absurd ((Option.some.inj H).trans hr_) (by decide)
            · rw [if_neg c14] at H
              have c14b0 : (t274 == t276) = false := beq_eq_false_iff_ne.mpr c14
              have c14b1 : (t274 != t276) = true := bne_iff_ne.mpr c14
              exact absurd ((Option.some.inj H).trans hr_) (by decide)
          · rw [if_neg c13] at H
            have c13b0 : (t273.toList == t275.toList) = false := beq_eq_false_iff_ne.mpr c13
            have c13b1 : (t273.toList != t275.toList) = true := bne_iff_ne.mpr c13
            exact absurd ((Option.some.inj H).trans hr_) (by decide)
        · rw [if_neg c12] at H
          have c12b0 : (t268 == t272) = false := beq_eq_false_iff_ne.mpr c12
          have c12b1 : (t268 != t272) = true := bne_iff_ne.mpr c12
          exact absurd ((Option.some.inj H).trans hr_) (by decide)
      · rw [if_neg c11] at H
        have c11b0 : (t267.toList == t271.toList) = false := beq_eq_false_iff_ne.mpr c11
        have c11b1 : (t267.toList != t271.toList) = true := bne_iff_ne.mpr c11
        exact absurd ((Option.some.inj H).trans hr_) (by decide)
    · rw [if_neg c10] at H
      have c10b0 : (t266 == t270) = false := beq_eq_false_iff_ne.mpr c10
      have c10b1 : (t266 != t270) = true := bne_iff_ne.mpr c10
      exact absurd ((Option.some.inj H).trans hr_) (by decide)
  · rw [if_neg c9] at H
    have c9b0 : (t265 == t269) = false := beq_eq_false_iff_ne.mpr c9
    have c9b1 : (t265 != t269) = true := bne_iff_ne.mpr c9
    exact absurd ((Option.some.inj H).trans hr_) (by decide)


end Go.Proofs.YtjmaobipfpiddaaDoor.P
