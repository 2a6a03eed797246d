/- The walk of the Go function tollhouselaw03 NumWrites, and what it computes. By program. Conditions: none but those that each theorem names. -/
import Derived.Test.YtjiiahiglpcpmaaDoorQ0
import Derived.Test.YtjiiahiglpcpmaaDoorQnumHexText
import Derived.Test.YtjiiahiglpcpmaaDoorQtollhouselaw03awake
import Derived.Test.YtjiiahiglpcpmaaDoorQnumText
import Derived.Test.YtjiiahiglpcpmaaDoorQRef03
namespace Go.Proofs.YtjiiahiglpcpmaaDoor.P
open Go.RowKit Go.Proofs.YtjiiahiglpcpmaaDoorW.PrintWords Go.Proofs.YtjiiahiglpcpmaaDoorW.PrintLast Go.Proofs.YtjiiahiglpcpmaaDoorW.PrintMore
attribute [local go_sem] max2_int min2_int max_two min_two max_three min_three max_four min_four
set_option linter.unusedVariables false
set_option linter.unusedSimpArgs false

/-! ### tollhouselaw03_NumWrites: function 4 -/
def tollhouselaw03_NumWrites.f (a0 : Int) : Option (Bool) := (num_Text.f a0).bind fun bt175 => ((tollhouseref03_Text.f a0).bind fun bt177 => ((num_HexText.f a0).bind fun bt179 => ((tollhouseref03_HexText.f a0).bind fun bt181 => ((tollhouselaw03_awake.f).bind fun t183 => (if t183 = true then (if bt175.1.toList = bt177.1.toList then (if bt175.2 = bt177.2 then (if bt179.1.toList = bt181.1.toList then (some (bt179.2 == bt181.2)) else (some false)) else (some false)) else (some false)) else (some false))))))
set_option maxHeartbeats 8000000 in
set_option maxRecDepth 100000 in
theorem tollhouselaw03_NumWrites.calls (a0 : Int) (r : Bool) (w : World) (hr_ : r = true) (hT : Tab w) (h : tollhouselaw03_NumWrites.f a0 = some r) :
    Calls Tryd.prog 4 #[.int .u64 a0] w fun e w' => e = .returned (.bool r) ∧ Below w.heap.size w w' := by
  have HT := Aside0.mk hT
  clear hT
  have HB := Aside0.mk (Below.refl w.heap.size w)
  have H : ((num_Text.f a0).bind fun bt175 => ((tollhouseref03_Text.f a0).bind fun bt177 => ((num_HexText.f a0).bind fun bt179 => ((tollhouseref03_HexText.f a0).bind fun bt181 => ((tollhouselaw03_awake.f).bind fun t183 => (if t183 = true then (if bt175.1.toList = bt177.1.toList then (if bt175.2 = bt177.2 then (if bt179.1.toList = bt181.1.toList then (some (bt179.2 == bt181.2)) else (some false)) else (some false)) else (some false)) else (some false))))))) = some r := h
  clear h
  replace H := Option.bind_eq_some_iff.mp H
  obtain ⟨⟨t175, t176⟩, A20, H⟩ := H
  replace H : ((tollhouseref03_Text.f a0).bind fun bt177 => ((num_HexText.f a0).bind fun bt179 => ((tollhouseref03_HexText.f a0).bind fun bt181 => ((tollhouselaw03_awake.f).bind fun t183 => (if t183 = true then (if t175.toList = bt177.1.toList then (if t176 = bt177.2 then (if bt179.1.toList = bt181.1.toList then (some (bt179.2 == bt181.2)) else (some false)) else (some false)) else (some false)) else (some false)))))) = some r := H
  have A2 := Aside0.mk A20
  clear A20
  replace H := Option.bind_eq_some_iff.mp H
  obtain ⟨⟨t177, t178⟩, A30, H⟩ := H
  replace H : ((num_HexText.f a0).bind fun bt179 => ((tollhouseref03_HexText.f a0).bind fun bt181 => ((tollhouselaw03_awake.f).bind fun t183 => (if t183 = true then (if t175.toList = t177.toList then (if t176 = t178 then (if bt179.1.toList = bt181.1.toList then (some (bt179.2 == bt181.2)) else (some false)) else (some false)) else (some false)) else (some false))))) = some r := H
  have A3 := Aside0.mk A30
  clear A30
  replace H := Option.bind_eq_some_iff.mp H
  obtain ⟨⟨t179, t180⟩, A40, H⟩ := H
  replace H : ((tollhouseref03_HexText.f a0).bind fun bt181 => ((tollhouselaw03_awake.f).bind fun t183 => (if t183 = true then (if t175.toList = t177.toList then (if t176 = t178 then (if t179.toList = bt181.1.toList then (some (t180 == bt181.2)) else (some false)) else (some false)) else (some false)) else (some false)))) = some r := H
  have A4 := Aside0.mk A40
  clear A40
  replace H := Option.bind_eq_some_iff.mp H
  obtain ⟨⟨t181, t182⟩, A50, H⟩ := H
  replace H : ((tollhouselaw03_awake.f).bind fun t183 => (if t183 = true then (if t175.toList = t177.toList then (if t176 = t178 then (if t179.toList = t181.toList then (some (t180 == t182)) else (some false)) else (some false)) else (some false)) else (some false))) = some r := H
  have A5 := Aside0.mk A50
  clear A50
  replace H := Option.bind_eq_some_iff.mp H
  obtain ⟨t183, A60, H⟩ := H
  replace H : (if t183 = true then (if t175.toList = t177.toList then (if t176 = t178 then (if t179.toList = t181.toList then (some (t180 == t182)) else (some false)) else (some false)) else (some false)) else (some false)) = some r := H
  have A6 := Aside0.mk A60
  clear A60
  by_cases c7 : t183 = true
  · subst c7
    have H1 : (if t175.toList = t177.toList then (if t176 = t178 then (if t179.toList = t181.toList then (some (t180 == t182)) else (some false)) else (some false)) else (some false)) = some r := by rw [if_pos rfl] at H; exact H
    clear H
    have H := H1
    clear H1
    by_cases c8 : t175.toList = t177.toList
    · rw [if_pos c8] at H
      have c8b0 : (t175.toList == t177.toList) = true := beq_iff_eq.mpr c8
      have c8b1 : (t175.toList != t177.toList) = false := bne_eq_false_iff_eq.mpr c8
      clear c8
      by_cases c9 : t176 = t178
      · rw [if_pos c9] at H
        have c9b0 : (t176 == t178) = true := beq_iff_eq.mpr c9
        have c9b1 : (t176 != t178) = false := bne_eq_false_iff_eq.mpr c9
        clear c9
        by_cases c10 : t179.toList = t181.toList
        · rw [if_pos c10] at H
          have c10b0 : (t179.toList == t181.toList) = true := beq_iff_eq.mpr c10
          have c10b1 : (t179.toList != t181.toList) = false := bne_eq_false_iff_eq.mpr c10
          clear c10
          obtain rfl := Option.some.inj H
          go_enter Tryd.func4, Tryd.ntmps4
          go_wp2_with (first | ((with_reducible refine gate_callee (f := 13) rfl ?_); refine goesL_ (some 13) rfl rfl Tryd.func13 (by kernel_rfl) rfl #[.int .u64 a0] rfl (by (try simp only [List.map_toArray, List.map_cons, List.map_nil]); first | done | rfl | (simp only [List.length_drop, List.length_take]; rfl)) ?_; (with_reducible refine (num_Text.calls a0 t175 t176 _ ?sideT A2.out).mono ?_); (case sideT => repeat (first | exact HT.out | exact (Tab.below HT.out HB.out) | (with_reducible first | refine Tab.alloc ?_ _ | refine Tab.drewN ?_ _ | refine Tab.drew ?_))); rintro e w11 ⟨rfl, hb⟩; refine ⟨_, rfl, ?_⟩; have n0_ := Aside0.mk (below_step (by repeat (first | (with_reducible first | exact HB.out | apply below_alloc | apply pw_below_drewN | apply below_drew1) | exact HB.out)) hb); clear HB; have HB := n0_; clear n0_; (try clear hb); (try clear hb2); (try clear hk); (try clear hi)) | ((with_reducible refine gate_callee (f := 14) rfl ?_); refine goesL_ (some 18) rfl rfl Tryd.func14 (by kernel_rfl) rfl #[.int .u64 a0] rfl (by (try simp only [List.map_toArray, List.map_cons, List.map_nil]); first | done | rfl | (simp only [List.length_drop, List.length_take]; rfl)) ?_; (with_reducible refine (tollhouseref03_Text.calls a0 t177 t178 _ A3.out).mono ?_); rintro e w12 ⟨rfl, hb⟩; refine ⟨_, rfl, ?_⟩; have n0_ := Aside0.mk (below_step (by repeat (first | (with_reducible first | exact HB.out | apply below_alloc | apply pw_below_drewN | apply below_drew1) | exact HB.out)) hb); clear HB; have HB := n0_; clear n0_; (try clear hb); (try clear hb2); (try clear hk); (try clear hi)) | ((with_reducible refine gate_callee (f := 15) rfl ?_); refine goesL_ (some 23) rfl rfl Tryd.func15 (by kernel_rfl) rfl #[.int .u64 a0] rfl (by (try simp only [List.map_toArray, List.map_cons, List.map_nil]); first | done | rfl | (simp only [List.length_drop, List.length_take]; rfl)) ?_; (with_reducible refine (num_HexText.calls a0 t179 t180 _ ?sideT A4.out).mono ?_); (case sideT => repeat (first | exact HT.out | exact (Tab.below HT.out HB.out) | (with_reducible first | refine Tab.alloc ?_ _ | refine Tab.drewN ?_ _ | refine Tab.drew ?_))); rintro e w13 ⟨rfl, hb⟩; refine ⟨_, rfl, ?_⟩; have n0_ := Aside0.mk (below_step (by repeat (first | (with_reducible first | exact HB.out | apply below_alloc | apply pw_below_drewN | apply below_drew1) | exact HB.out)) hb); clear HB; have HB := n0_; clear n0_; (try clear hb); (try clear hb2); (try clear hk); (try clear hi)) | ((with_reducible refine gate_callee (f := 16) rfl ?_); refine goesL_ (some 28) rfl rfl Tryd.func16 (by kernel_rfl) rfl #[.int .u64 a0] rfl (by (try simp only [List.map_toArray, List.map_cons, List.map_nil]); first | done | rfl | (simp only [List.length_drop, List.length_take]; rfl)) ?_; (with_reducible refine (tollhouseref03_HexText.calls a0 t181 t182 _ A5.out).mono ?_); rintro e w14 ⟨rfl, hb⟩; refine ⟨_, rfl, ?_⟩; have n0_ := Aside0.mk (below_step (by repeat (first | (with_reducible first | exact HB.out | apply below_alloc | apply pw_below_drewN | apply below_drew1) | exact HB.out)) hb); clear HB; have HB := n0_; clear n0_; (try clear hb); (try clear hb2); (try clear hk); (try clear hi)) | ((with_reducible refine gate_callee (f := 12) rfl ?_); refine goesL_ (some 31) rfl rfl Tryd.func12 (by kernel_rfl) rfl #[] rfl (by (try simp only [List.map_toArray, List.map_cons, List.map_nil]); first | done | rfl | (simp only [List.length_drop, List.length_take]; rfl)) ?_; (with_reducible refine (tollhouselaw03_awake.calls true _ ?sideT A6.out).mono ?_); (case sideT => repeat (first | exact HT.out | exact (Tab.below HT.out HB.out) | (with_reducible first | refine Tab.alloc ?_ _ | refine Tab.drewN ?_ _ | refine Tab.drew ?_))); rintro e w15 ⟨rfl, hb⟩; refine ⟨_, rfl, ?_⟩; have n0_ := Aside0.mk (below_step (by repeat (first | (with_reducible first | exact HB.out | apply below_alloc | apply pw_below_drewN | apply below_drew1) | exact HB.out)) hb); clear HB; have HB := n0_; clear n0_; (try clear hb); (try clear hb2); (try clear hk); (try clear hi)))
          go_ret
          exact ⟨by first | rfl | (simp [errW_none, errW_some] <;> rfl) | (simp [*, errW_none, errW_some] <;> rfl), by repeat (first | (with_reducible first | exact HB.out | apply below_alloc | apply pw_below_drewN | apply below_drew1) | exact HB.out)⟩
        · rw [if_neg c10] at H
          have c10b0 : (t179.toList == t181.toList) = false := beq_eq_false_iff_ne.mpr c10
          have c10b1 : (t179.toList != t181.toList) = true := bne_iff_ne.mpr c10
          exact absurd ((Option.some.inj H).trans hr_) (by decide)
      · rw [if_neg c9] at H
        have c9b0 : (t176 == t178) = false := beq_eq_false_iff_ne.mpr c9
        have c9b1 : (t176 != t178) = true := bne_iff_ne.mpr c9
        exact absurd ((Option.some.inj H).trans hr_) (by decide)
    · rw [if_neg c8] at H
      have c8b0 : (t175.toList == t177.toList) = false := beq_eq_false_iff_ne.mpr c8
      have c8b1 : (t175.toList != t177.toList) = true := bne_iff_ne.mpr c8
      exact absurd ((Option.some.inj H).trans hr_) (by decide)
  · replace c7 := Bool.eq_false_iff.mpr c7
    subst c7
    have H1 : (some false) = some r := by rw [if_neg (show ¬ (false = true) by decide)] at H; exact H
    clear H
    have H := H1
    clear H1
    exact absurd ((Option.some.inj H).trans hr_) (by decide)


end Go.Proofs.YtjiiahiglpcpmaaDoor.P
