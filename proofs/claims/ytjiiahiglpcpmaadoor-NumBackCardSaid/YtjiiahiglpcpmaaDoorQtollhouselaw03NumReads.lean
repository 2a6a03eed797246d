/- The walk of the Go function tollhouselaw03 NumReads, and what it computes. By program. Conditions: none but those that each theorem names. -/
import Derived.Test.YtjiiahiglpcpmaaDoorQ0
import Derived.Test.YtjiiahiglpcpmaaDoorQRef03
import Derived.Test.YtjiiahiglpcpmaaDoorQtollhouselaw03awake
import Derived.Test.YtjiiahiglpcpmaaDoorFnumDecimal
import Derived.Test.YtjiiahiglpcpmaaDoorFnumHex
namespace Go.Proofs.YtjiiahiglpcpmaaDoor.P
open Go.RowKit Go.Proofs.YtjiiahiglpcpmaaDoorW.PrintWords Go.Proofs.YtjiiahiglpcpmaaDoorW.PrintLast Go.Proofs.YtjiiahiglpcpmaaDoorW.PrintMore
attribute [local go_sem] max2_int min2_int max_two min_two max_three min_three max_four min_four
set_option linter.unusedVariables false
set_option linter.unusedSimpArgs false

/-! ### tollhouselaw03_NumReads: function 3 -/
def tollhouselaw03_NumReads.f (k : Nat) (a0 : ByteArray) : Option (Bool) := (num_Decimal.f a0).bind fun bt135 => ((tollhouseref03_Decimal.f k a0).bind fun bt137 => ((num_Hex.f a0).bind fun bt139 => ((tollhouseref03_Hex.f k a0).bind fun bt141 => ((tollhouselaw03_awake.f).bind fun t143 => (if t143 = true then (if bt135.1 = bt137.1 then (if bt135.2 = bt137.2 then (if bt139.1 = bt141.1 then (some (bt139.2 == bt141.2)) else (some false)) else (some false)) else (some false)) else (some false))))))
theorem tollhouselaw03_NumReads.mono : ∀ a0 k, LeO (tollhouselaw03_NumReads.f k a0) (tollhouselaw03_NumReads.f (k + 1) a0) := by
  intro a0 k
  unfold tollhouselaw03_NumReads.f
  repeat' first
      | (with_reducible exact tollhouseref03_Decimal.mono _ _)
      | (with_reducible exact tollhouseref03_Hex.mono _ _)
      | (with_reducible exact LeO.refl _)
      | (with_reducible exact LeO.none _)
      | (with_reducible refine LeO.ite ?_ ?_)
      | (with_reducible refine LeO.bind ?_ (fun _ => ?_))
      | exact tollhouseref03_Decimal.mono _ _
      | exact tollhouseref03_Hex.mono _ _
      | exact LeO.none _
      | refine LeO.ite ?_ ?_
      | refine LeO.bind ?_ (fun _ => ?_)
set_option maxHeartbeats 8000000 in
set_option maxRecDepth 100000 in
theorem tollhouselaw03_NumReads.calls (k : Nat) (a0 : ByteArray) (r : Bool) (w : World) (hr_ : r = true) (hT : Tab w) (h : tollhouselaw03_NumReads.f k a0 = some r) :
    Calls Tryd.prog 3 #[.string a0] w fun e w' => e = .returned (.bool r) ∧ Below w.heap.size w w' := by
  have HT := Aside0.mk hT
  clear hT
  have HB := Aside0.mk (Below.refl w.heap.size w)
  have H : ((num_Decimal.f a0).bind fun bt135 => ((tollhouseref03_Decimal.f k a0).bind fun bt137 => ((num_Hex.f a0).bind fun bt139 => ((tollhouseref03_Hex.f k a0).bind fun bt141 => ((tollhouselaw03_awake.f).bind fun t143 => (if t143 = true then (if bt135.1 = bt137.1 then (if bt135.2 = bt137.2 then (if bt139.1 = bt141.1 then (some (bt139.2 == bt141.2)) else (some false)) else (some false)) else (some false)) else (some false))))))) = some r := h
  clear h
  replace H := Option.bind_eq_some_iff.mp H
  obtain ⟨⟨t135, t136⟩, A20, H⟩ := H
  replace H : ((tollhouseref03_Decimal.f k a0).bind fun bt137 => ((num_Hex.f a0).bind fun bt139 => ((tollhouseref03_Hex.f k a0).bind fun bt141 => ((tollhouselaw03_awake.f).bind fun t143 => (if t143 = true then (if t135 = bt137.1 then (if t136 = bt137.2 then (if bt139.1 = bt141.1 then (some (bt139.2 == bt141.2)) else (some false)) else (some false)) else (some false)) else (some false)))))) = some r := H
  have A2 := Aside0.mk A20
  clear A20
  replace H := Option.bind_eq_some_iff.mp H
  obtain ⟨⟨t137, t138⟩, A30, H⟩ := H
  replace H : ((num_Hex.f a0).bind fun bt139 => ((tollhouseref03_Hex.f k a0).bind fun bt141 => ((tollhouselaw03_awake.f).bind fun t143 => (if t143 = true then (if t135 = t137 then (if t136 = t138 then (if bt139.1 = bt141.1 then (some (bt139.2 == bt141.2)) else (some false)) else (some false)) else (some false)) else (some false))))) = some r := H
  have A3 := Aside0.mk A30
  clear A30
  replace H := Option.bind_eq_some_iff.mp H
  obtain ⟨⟨t139, t140⟩, A40, H⟩ := H
  replace H : ((tollhouseref03_Hex.f k a0).bind fun bt141 => ((tollhouselaw03_awake.f).bind fun t143 => (if t143 = true then (if t135 = t137 then (if t136 = t138 then (if t139 = bt141.1 then (some (t140 == bt141.2)) else (some false)) else (some false)) else (some false)) else (some false)))) = some r := H
  have A4 := Aside0.mk A40
  clear A40
  replace H := Option.bind_eq_some_iff.mp H
  obtain ⟨⟨t141, t142⟩, A50, H⟩ := H
  replace H : ((tollhouselaw03_awake.f).bind fun t143 => (if t143 = true then (if t135 = t137 then (if t136 = t138 then (if t139 = t141 then (some (t140 == t142)) else (some false)) else (some false)) else (some false)) else (some false))) = some r := H
  have A5 := Aside0.mk A50
  clear A50
  replace H := Option.bind_eq_some_iff.mp H
  obtain ⟨t143, A60, H⟩ := H
  replace H : (if t143 = true then (if t135 = t137 then (if t136 = t138 then (if t139 = t141 then (some (t140 == t142)) else (some false)) else (some false)) else (some false)) else (some false)) = some r := H
  have A6 := Aside0.mk A60
  clear A60
  by_cases c7 : t143 = true
  · subst c7
    have H1 : (if t135 = t137 then (if t136 = t138 then (if t139 = t141 then (some (t140 == t142)) else (some false)) else (some false)) else (some false)) = some r := by rw [if_pos rfl] at H; exact H
    clear H
    have H := H1
    clear H1
    by_cases c8 : t135 = t137
    · rw [if_pos c8] at H
      have c8b0 : (t135 == t137) = true := beq_iff_eq.mpr c8
      have c8b1 : (t135 != t137) = false := bne_eq_false_iff_eq.mpr c8
      clear c8
      by_cases c9 : t136 = t138
      · rw [if_pos c9] at H
        have c9b0 : (t136 == t138) = true := beq_iff_eq.mpr c9
        have c9b1 : (t136 != t138) = false := bne_eq_false_iff_eq.mpr c9
        clear c9
        by_cases c10 : t139 = t141
        · rw [if_pos c10] at H
          have c10b0 : (t139 == t141) = true := beq_iff_eq.mpr c10
          have c10b1 : (t139 != t141) = false := bne_eq_false_iff_eq.mpr c10
          clear c10
          obtain rfl := Option.some.inj H
          go_enter Tryd.func3, Tryd.ntmps3
          go_wp2_with (first | ((with_reducible refine gate_callee (f := 8) rfl ?_); refine goesL_ (some 13) rfl rfl Tryd.func8 (by kernel_rfl) rfl #[.string a0] rfl (by (try simp only [List.map_toArray, List.map_cons, List.map_nil]); first | done | rfl | (simp only [List.length_drop, List.length_take]; rfl)) ?_; (with_reducible refine (num_Decimal.calls a0 t135 t136 _ A2.out).mono ?_); rintro e w11 ⟨rfl, hb⟩; refine ⟨_, rfl, ?_⟩; have n0_ := Aside0.mk (below_step (by repeat (first | (with_reducible first | exact HB.out | apply below_alloc | apply pw_below_drewN | apply below_drew1) | exact HB.out)) hb); clear HB; have HB := n0_; clear n0_; (try clear hb); (try clear hb2); (try clear hk); (try clear hi)) | ((with_reducible refine gate_callee (f := 9) rfl ?_); refine goesL_ (some 18) rfl rfl Tryd.func9 (by kernel_rfl) rfl #[.string a0] rfl (by (try simp only [List.map_toArray, List.map_cons, List.map_nil]); first | done | rfl | (simp only [List.length_drop, List.length_take]; rfl)) ?_; (with_reducible refine (tollhouseref03_Decimal.calls k a0 t137 t138 _ A3.out).mono ?_); rintro e w' ⟨rfl, ⟨nd, rfl⟩⟩; refine ⟨_, rfl, ?_⟩) | ((with_reducible refine gate_callee (f := 10) rfl ?_); refine goesL_ (some 23) rfl rfl Tryd.func10 (by kernel_rfl) rfl #[.string a0] rfl (by (try simp only [List.map_toArray, List.map_cons, List.map_nil]); first | done | rfl | (simp only [List.length_drop, List.length_take]; rfl)) ?_; (with_reducible refine (num_Hex.calls a0 t139 t140 _ A4.out).mono ?_); rintro e w12 ⟨rfl, hb⟩; refine ⟨_, rfl, ?_⟩; have n0_ := Aside0.mk (below_step (by repeat (first | (with_reducible first | exact HB.out | apply below_alloc | apply pw_below_drewN | apply below_drew1) | exact HB.out)) hb); clear HB; have HB := n0_; clear n0_; (try clear hb); (try clear hb2); (try clear hk); (try clear hi)) | ((with_reducible refine gate_callee (f := 11) rfl ?_); refine goesL_ (some 28) rfl rfl Tryd.func11 (by kernel_rfl) rfl #[.string a0] rfl (by (try simp only [List.map_toArray, List.map_cons, List.map_nil]); first | done | rfl | (simp only [List.length_drop, List.length_take]; rfl)) ?_; (with_reducible refine (tollhouseref03_Hex.calls k a0 t141 t142 _ A5.out).mono ?_); rintro e w' ⟨rfl, ⟨nd, rfl⟩⟩; refine ⟨_, rfl, ?_⟩) | ((with_reducible refine gate_callee (f := 12) rfl ?_); refine goesL_ (some 31) rfl rfl Tryd.func12 (by kernel_rfl) rfl #[] rfl (by (try simp only [List.map_toArray, List.map_cons, List.map_nil]); first | done | rfl | (simp only [List.length_drop, List.length_take]; rfl)) ?_; (with_reducible refine (tollhouselaw03_awake.calls true _ ?sideT A6.out).mono ?_); (case sideT => repeat (first | exact HT.out | exact (Tab.below HT.out HB.out) | (with_reducible first | refine Tab.alloc ?_ _ | refine Tab.drewN ?_ _ | refine Tab.drew ?_))); rintro e w13 ⟨rfl, hb⟩; refine ⟨_, rfl, ?_⟩; have n0_ := Aside0.mk (below_step (by repeat (first | (with_reducible first | exact HB.out | apply below_alloc | apply pw_below_drewN | apply below_drew1) | exact HB.out)) hb); clear HB; have HB := n0_; clear n0_; (try clear hb); (try clear hb2); (try clear hk); (try clear hi)))
          go_ret
          exact ⟨by first | rfl | (simp [errW_none, errW_some] <;> rfl) | (simp [*, errW_none, errW_some] <;> rfl), by repeat (first | (with_reducible first | exact HB.out | apply below_alloc | apply pw_below_drewN | apply below_drew1) | exact HB.out)⟩
        · rw [if_neg c10] at H
          have c10b0 : (t139 == t141) = false := beq_eq_false_iff_ne.mpr c10
          have c10b1 : (t139 != t141) = true := bne_iff_ne.mpr c10
          exact absurd ((Option.some.inj H).trans hr_) (by decide)
      · rw [if_neg c9] at H
        have c9b0 : (t136 == t138) = false := beq_eq_false_iff_ne.mpr c9
        have c9b1 : (t136 != t138) = true := bne_iff_ne.mpr c9
        exact absurd ((Option.some.inj H).trans hr_) (by decide)
    · rw [if_neg c8] at H
      have c8b0 : (t135 == t137) = false := beq_eq_false_iff_ne.mpr c8
      have c8b1 : (t135 != t137) = true := bne_iff_ne.mpr c8
      exact absurd ((Option.some.inj H).trans hr_) (by decide)
  · replace c7 := Bool.eq_false_iff.mpr c7
    subst c7
    have H1 : (some false) = some r := by rw [if_neg (show ¬ (false = true) by decide)] at H; exact H
    clear H
    have H := H1
    clear H1
    exact absurd ((Option.some.inj H).trans hr_) (by decide)


end Go.Proofs.YtjiiahiglpcpmaaDoor.P
