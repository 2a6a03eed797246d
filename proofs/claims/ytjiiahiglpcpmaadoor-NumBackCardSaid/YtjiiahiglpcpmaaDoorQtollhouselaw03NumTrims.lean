/- The walk of the Go function tollhouselaw03 NumTrims, and what it computes. By program. Conditions: none but those that each theorem names. -/
import Derived.Test.YtjiiahiglpcpmaaDoorQ0
import Derived.Test.YtjiiahiglpcpmaaDoorQnumHexText
import Derived.Test.YtjiiahiglpcpmaaDoorQtollhouselaw03awake
import Derived.Test.YtjiiahiglpcpmaaDoorQnumText
import Derived.Test.YtjiiahiglpcpmaaDoorFnumDecimal
import Derived.Test.YtjiiahiglpcpmaaDoorFnumHex
import Derived.Test.YtjiiahiglpcpmaaDoorFstringsTrimLeft
import Derived.Test.YtjiiahiglpcpmaaDoorFstringsToLower
namespace Go.Proofs.YtjiiahiglpcpmaaDoor.P
open Go.RowKit Go.Proofs.YtjiiahiglpcpmaaDoorW.PrintWords Go.Proofs.YtjiiahiglpcpmaaDoorW.PrintLast Go.Proofs.YtjiiahiglpcpmaaDoorW.PrintMore
attribute [local go_sem] max2_int min2_int max_two min_two max_three min_three max_four min_four
set_option linter.unusedVariables false
set_option linter.unusedSimpArgs false

/-! ### tollhouselaw03_NumTrims: function 7 -/
mutual
def tollhouselaw03_NumTrims.j0 : Nat → ByteArray → Option (Bool)
  | 0, _ => none
  | k + 1, x0 => (num_Hex.f x0).bind fun bt227 => (if bt227.2 = 0 then ((strings_TrimLeft.f x0 (⟨#[48]⟩ : ByteArray)).bind fun t229 => ((strings_ToLower.f t229).bind fun t230 => (if t230.toList = ([] : List UInt8) then (tollhouselaw03_NumTrims.j1 k bt227.1 (⟨#[48]⟩ : ByteArray)) else (tollhouselaw03_NumTrims.j1 k bt227.1 t230)))) else ((tollhouselaw03_awake.f).bind fun t234 => (some t234)))
def tollhouselaw03_NumTrims.j1 : Nat → Int → ByteArray → Option (Bool)
  | 0, _, _ => none
  | k + 1, x8, x10 => (num_HexText.f x8).bind fun bt231 => (if bt231.2 = 0 then (if bt231.1.toList = x10.toList then ((tollhouselaw03_awake.f).bind fun t233 => (some t233)) else (some false)) else (some false))
end
def tollhouselaw03_NumTrims.f (k : Nat) (a0 : ByteArray) : Option (Bool) := (num_Decimal.f a0).bind fun bt220 => (if bt220.2 = 0 then ((strings_TrimLeft.f a0 (⟨#[48]⟩ : ByteArray)).bind fun t222 => (if t222.toList = ([] : List UInt8) then ((num_Text.f bt220.1).bind fun bt223 => (if bt223.2 = 0 then (if bt223.1.toList = ([48] : List UInt8) then (tollhouselaw03_NumTrims.j0 k a0) else (some false)) else (some false))) else ((num_Text.f bt220.1).bind fun bt225 => (if bt225.2 = 0 then (if bt225.1.toList = t222.toList then (tollhouselaw03_NumTrims.j0 k a0) else (some false)) else (some false))))) else (tollhouselaw03_NumTrims.j0 k a0))
theorem tollhouselaw03_NumTrims.mono_l : ∀ k, (∀ y0, LeO (tollhouselaw03_NumTrims.j0 k y0) (tollhouselaw03_NumTrims.j0 (k + 1) y0)) ∧ (∀ y0 y1, LeO (tollhouselaw03_NumTrims.j1 k y0 y1) (tollhouselaw03_NumTrims.j1 (k + 1) y0 y1))
  | 0 => ⟨fun _ r h => by simp [tollhouselaw03_NumTrims.j0] at h, fun _ _ r h => by simp [tollhouselaw03_NumTrims.j1] at h⟩
  | k + 1 => by
    obtain ⟨ih0, ih1⟩ := tollhouselaw03_NumTrims.mono_l k
    refine ⟨?_, ?_⟩
    · intro y0
      unfold tollhouselaw03_NumTrims.j0
      repeat' first
      | (with_reducible exact ih0 _)
      | (with_reducible exact ih1 _ _)
      | (with_reducible exact LeO.refl _)
      | (with_reducible exact LeO.none _)
      | (with_reducible refine LeO.ite ?_ ?_)
      | (with_reducible refine LeO.bind ?_ (fun _ => ?_))
      | exact ih0 _
      | exact ih1 _ _
      | exact LeO.none _
      | refine LeO.ite ?_ ?_
      | refine LeO.bind ?_ (fun _ => ?_)
    · intro y0 y1
      unfold tollhouselaw03_NumTrims.j1
      repeat' first
      | (with_reducible exact ih0 _)
      | (with_reducible exact ih1 _ _)
      | (with_reducible exact LeO.refl _)
      | (with_reducible exact LeO.none _)
      | (with_reducible refine LeO.ite ?_ ?_)
      | (with_reducible refine LeO.bind ?_ (fun _ => ?_))
      | exact ih0 _
      | exact ih1 _ _
      | exact LeO.none _
      | refine LeO.ite ?_ ?_
      | refine LeO.bind ?_ (fun _ => ?_)
theorem tollhouselaw03_NumTrims.mono : ∀ a0 k, LeO (tollhouselaw03_NumTrims.f k a0) (tollhouselaw03_NumTrims.f (k + 1) a0) := by
  intro a0 k
  obtain ⟨ih0, ih1⟩ := tollhouselaw03_NumTrims.mono_l k
  unfold tollhouselaw03_NumTrims.f
  repeat' first
      | (with_reducible exact ih0 _)
      | (with_reducible exact ih1 _ _)
      | (with_reducible exact LeO.refl _)
      | (with_reducible exact LeO.none _)
      | (with_reducible refine LeO.ite ?_ ?_)
      | (with_reducible refine LeO.bind ?_ (fun _ => ?_))
      | exact ih0 _
      | exact ih1 _ _
      | exact LeO.none _
      | refine LeO.ite ?_ ?_
      | refine LeO.bind ?_ (fun _ => ?_)
set_option maxHeartbeats 8000000 in
set_option maxRecDepth 100000 in
theorem tollhouselaw03_NumTrims.calls (k : Nat) (a0 : ByteArray) (r : Bool) (w : World) (hr_ : r = true) (hT : Tab w) (h : tollhouselaw03_NumTrims.f k a0 = some r) :
    Calls Tryd.prog 7 #[.string a0] w fun e w' => e = .returned (.bool r) ∧ Below w.heap.size w w' := by
  have HT := Aside0.mk hT
  clear hT
  have HB := Aside0.mk (Below.refl w.heap.size w)
  have H : ((num_Decimal.f a0).bind fun bt220 => (if bt220.2 = 0 then ((strings_TrimLeft.f a0 (⟨#[48]⟩ : ByteArray)).bind fun t222 => (if t222.toList = ([] : List UInt8) then ((num_Text.f bt220.1).bind fun bt223 => (if bt223.2 = 0 then (if bt223.1.toList = ([48] : List UInt8) then (tollhouselaw03_NumTrims.j0 k a0) else (some false)) else (some false))) else ((num_Text.f bt220.1).bind fun bt225 => (if bt225.2 = 0 then (if bt225.1.toList = t222.toList then (tollhouselaw03_NumTrims.j0 k a0) else (some false)) else (some false))))) else (tollhouselaw03_NumTrims.j0 k a0))) = some r := h
  clear h
  replace H := Option.bind_eq_some_iff.mp H
  obtain ⟨⟨t220, t221⟩, A20, H⟩ := H
  replace H : (if t221 = 0 then ((strings_TrimLeft.f a0 (⟨#[48]⟩ : ByteArray)).bind fun t222 => (if t222.toList = ([] : List UInt8) then ((num_Text.f t220).bind fun bt223 => (if bt223.2 = 0 then (if bt223.1.toList = ([48] : List UInt8) then (tollhouselaw03_NumTrims.j0 k a0) else (some false)) else (some false))) else ((num_Text.f t220).bind fun bt225 => (if bt225.2 = 0 then (if bt225.1.toList = t222.toList then (tollhouselaw03_NumTrims.j0 k a0) else (some false)) else (some false))))) else (tollhouselaw03_NumTrims.j0 k a0)) = some r := H
  have A2 := Aside0.mk A20
  clear A20
  have HC3 := Aside0.mk H
  clear H
  go_enter Tryd.func7, Tryd.ntmps7
  go_upto_if 19 with (first | ((with_reducible refine gate_callee (f := 8) rfl ?_); refine goesL_ (some 15) rfl rfl Tryd.func8 (by kernel_rfl) rfl #[.string a0] rfl (by (try simp only [List.map_toArray, List.map_cons, List.map_nil]); first | done | rfl | (simp only [List.length_drop, List.length_take]; rfl)) ?_; (with_reducible refine (num_Decimal.calls a0 t220 t221 _ A2.out).mono ?_); rintro e w4 ⟨rfl, hb⟩; refine ⟨_, rfl, ?_⟩; have n0_ := Aside0.mk (below_step (by repeat (first | (with_reducible first | exact HB.out | apply below_alloc | apply pw_below_drewN | apply below_drew1) | exact HB.out)) hb); clear HB; have HB := n0_; clear n0_; (try clear hb); (try clear hb2); (try clear hk); (try clear hi)))
  (try simp only [Act.put, List.setIfInBounds_toArray, List.set_cons_zero, List.set_cons_succ])
  go_cut [] (fun wc => ∃ (kq : Nat), Aside0 (tollhouselaw03_NumTrims.j0 kq a0 = some r) ∧ Aside0 (kq ≤ k) ∧ Aside0 (Below w.heap.size w wc))
  case first =>
    have H := HC3.out
    clear HC3
    by_cases c5 : t221 = 0
    · rw [if_pos c5] at H
      have c5b0 : (t221 == 0) = true := beq_iff_eq.mpr c5
      have c5b1 : (t221 != 0) = false := bne_eq_false_iff_eq.mpr c5
      clear c5
      (first | rw [c5b0] | (simp only [i64_w, i32_w]; rw [c5b0]) | skip)
      replace H := Option.bind_eq_some_iff.mp H
      obtain ⟨t222, A60, H⟩ := H
      replace H : (if t222.toList = ([] : List UInt8) then ((num_Text.f t220).bind fun bt223 => (if bt223.2 = 0 then (if bt223.1.toList = ([48] : List UInt8) then (tollhouselaw03_NumTrims.j0 k a0) else (some false)) else (some false))) else ((num_Text.f t220).bind fun bt225 => (if bt225.2 = 0 then (if bt225.1.toList = t222.toList then (tollhouselaw03_NumTrims.j0 k a0) else (some false)) else (some false)))) = some r := H
      have A6 := Aside0.mk A60
      clear A60
      by_cases c7 : t222.toList = ([] : List UInt8)
      · rw [if_pos c7] at H
        have c7b0 : (t222.toList == ([] : List UInt8)) = true := beq_iff_eq.mpr c7
        have c7b1 : (t222.toList != ([] : List UInt8)) = false := bne_eq_false_iff_eq.mpr c7
        clear c7
        replace H := Option.bind_eq_some_iff.mp H
        obtain ⟨⟨t223, t224⟩, A80, H⟩ := H
        replace H : (if t224 = 0 then (if t223.toList = ([48] : List UInt8) then (tollhouselaw03_NumTrims.j0 k a0) else (some false)) else (some false)) = some r := H
        have A8 := Aside0.mk A80
        clear A80
        by_cases c9 : t224 = 0
        · rw [if_pos c9] at H
          have c9b0 : (t224 == 0) = true := beq_iff_eq.mpr c9
          have c9b1 : (t224 != 0) = false := bne_eq_false_iff_eq.mpr c9
          clear c9
          by_cases c10 : t223.toList = ([48] : List UInt8)
          · rw [if_pos c10] at H
            have c10b0 : (t223.toList == ([48] : List UInt8)) = true := beq_iff_eq.mpr c10
            have c10b1 : (t223.toList != ([48] : List UInt8)) = false := bne_eq_false_iff_eq.mpr c10
            clear c10
            have H' := Aside0.mk H
            clear H
            go_wp2_with (first | ((with_reducible refine gate_callee (f := 19) rfl ?_); refine goesL_ (some 21) rfl rfl Tryd.func19 (by kernel_rfl) rfl #[.string a0, .string (⟨#[48]⟩ : ByteArray)] rfl (by (try simp only [List.map_toArray, List.map_cons, List.map_nil]); first | done | rfl | (simp only [List.length_drop, List.length_take]; rfl)) ?_; (with_reducible refine (strings_TrimLeft.calls a0 (⟨#[48]⟩ : ByteArray) t222 _ A6.out).mono ?_); rintro e w11 ⟨rfl, hb⟩; refine ⟨_, rfl, ?_⟩; have n0_ := Aside0.mk (below_step (by repeat (first | (with_reducible first | exact HB.out | apply below_alloc | apply pw_below_drewN | apply below_drew1) | exact HB.out)) hb); clear HB; have HB := n0_; clear n0_; (try clear hb); (try clear hb2); (try clear hk); (try clear hi)) | ((with_reducible refine gate_callee (f := 13) rfl ?_); refine goesL_ (some 26) rfl rfl Tryd.func13 (by kernel_rfl) rfl #[.int .u64 t220] rfl (by (try simp only [List.map_toArray, List.map_cons, List.map_nil]); first | done | rfl | (simp only [List.length_drop, List.length_take]; rfl)) ?_; (with_reducible refine (num_Text.calls t220 t223 t224 _ ?sideT A8.out).mono ?_); (case sideT => repeat (first | exact HT.out | exact (Tab.below HT.out HB.out) | (with_reducible first | refine Tab.alloc ?_ _ | refine Tab.drewN ?_ _ | refine Tab.drew ?_))); rintro e w12 ⟨rfl, hb⟩; refine ⟨_, rfl, ?_⟩; have n0_ := Aside0.mk (below_step (by repeat (first | (with_reducible first | exact HB.out | apply below_alloc | apply pw_below_drewN | apply below_drew1) | exact HB.out)) hb); clear HB; have HB := n0_; clear n0_; (try clear hb); (try clear hb2); (try clear hk); (try clear hi)))
            go_meet
            case rel => exact ⟨_, H', ⟨by first | omega | exact Nat.le_refl _⟩, ⟨by repeat (first | (with_reducible first | exact HB.out | apply below_alloc | apply pw_below_drewN | apply below_drew1) | exact HB.out)⟩⟩
          · rw [if_neg c10] at H
            have c10b0 : (t223.toList == ([48] : List UInt8)) = false := beq_eq_false_iff_ne.mpr c10
            have c10b1 : (t223.toList != ([48] : List UInt8)) = true := bne_iff_ne.mpr c10
            exact absurd ((Option.some.inj H).trans hr_) (by decide)
        · rw [if_neg c9] at H
          have c9b0 : (t224 == 0) = false := beq_eq_false_iff_ne.mpr c9
          have c9b1 : (t224 != 0) = true := bne_iff_ne.mpr c9
          exact absurd ((Option.some.inj H).trans hr_) (by decide)
      · rw [if_neg c7] at H
        have c7b0 : (t222.toList == ([] : List UInt8)) = false := beq_eq_false_iff_ne.mpr c7
        have c7b1 : (t222.toList != ([] : List UInt8)) = true := bne_iff_ne.mpr c7
        replace H := Option.bind_eq_some_iff.mp H
        obtain ⟨⟨t225, t226⟩, A130, H⟩ := H
        replace H : (if t226 = 0 then (if t225.toList = t222.toList then (tollhouselaw03_NumTrims.j0 k a0) else (some false)) else (some false)) = some r := H
        have A13 := Aside0.mk A130
        clear A130
        by_cases c14 : t226 = 0
        · rw [if_pos c14] at H
          have c14b0 : (t226 == 0) = true := beq_iff_eq.mpr c14
          have c14b1 : (t226 != 0) = false := bne_eq_false_iff_eq.mpr c14
          clear c14
          by_cases c15 : t225.toList = t222.toList
          · rw [if_pos c15] at H
            have c15b0 : (t225.toList == t222.toList) = true := beq_iff_eq.mpr c15
            have c15b1 : (t225.toList != t222.toList) = false := bne_eq_false_iff_eq.mpr c15
            clear c15
            have H' := Aside0.mk H
            clear H
            go_wp2_with (first | ((with_reducible refine gate_callee (f := 19) rfl ?_); refine goesL_ (some 21) rfl rfl Tryd.func19 (by kernel_rfl) rfl #[.string a0, .string (⟨#[48]⟩ : ByteArray)] rfl (by (try simp only [List.map_toArray, List.map_cons, List.map_nil]); first | done | rfl | (simp only [List.length_drop, List.length_take]; rfl)) ?_; (with_reducible refine (strings_TrimLeft.calls a0 (⟨#[48]⟩ : ByteArray) t222 _ A6.out).mono ?_); rintro e w16 ⟨rfl, hb⟩; refine ⟨_, rfl, ?_⟩; have n0_ := Aside0.mk (below_step (by repeat (first | (with_reducible first | exact HB.out | apply below_alloc | apply pw_below_drewN | apply below_drew1) | exact HB.out)) hb); clear HB; have HB := n0_; clear n0_; (try clear hb); (try clear hb2); (try clear hk); (try clear hi)) | ((with_reducible refine gate_callee (f := 13) rfl ?_); refine goesL_ (some 26) rfl rfl Tryd.func13 (by kernel_rfl) rfl #[.int .u64 t220] rfl (by (try simp only [List.map_toArray, List.map_cons, List.map_nil]); first | done | rfl | (simp only [List.length_drop, List.length_take]; rfl)) ?_; (with_reducible refine (num_Text.calls t220 t225 t226 _ ?sideT A13.out).mono ?_); (case sideT => repeat (first | exact HT.out | exact (Tab.below HT.out HB.out) | (with_reducible first | refine Tab.alloc ?_ _ | refine Tab.drewN ?_ _ | refine Tab.drew ?_))); rintro e w17 ⟨rfl, hb⟩; refine ⟨_, rfl, ?_⟩; have n0_ := Aside0.mk (below_step (by repeat (first | (with_reducible first | exact HB.out | apply below_alloc | apply pw_below_drewN | apply below_drew1) | exact HB.out)) hb); clear HB; have HB := n0_; clear n0_; (try clear hb); (try clear hb2); (try clear hk); (try clear hi)))
            go_meet
            case rel => exact ⟨_, H', ⟨by first | omega | exact Nat.le_refl _⟩, ⟨by repeat (first | (with_reducible first | exact HB.out | apply below_alloc | apply pw_below_drewN | apply below_drew1) | exact HB.out)⟩⟩
          · rw [if_neg c15] at H
            have c15b0 : (t225.toList == t222.toList) = false := beq_eq_false_iff_ne.mpr c15
            have c15b1 : (t225.toList != t222.toList) = true := bne_iff_ne.mpr c15
            exact absurd ((Option.some.inj H).trans hr_) (by decide)
        · rw [if_neg c14] at H
          have c14b0 : (t226 == 0) = false := beq_eq_false_iff_ne.mpr c14
          have c14b1 : (t226 != 0) = true := bne_iff_ne.mpr c14
          exact absurd ((Option.some.inj H).trans hr_) (by decide)
    · rw [if_neg c5] at H
      have c5b0 : (t221 == 0) = false := beq_eq_false_iff_ne.mpr c5
      have c5b1 : (t221 != 0) = true := bne_iff_ne.mpr c5
      (first | rw [c5b0] | (simp only [i64_w, i32_w]; rw [c5b0]) | skip)
      have H' := Aside0.mk H
      clear H
      go_wp2
      go_meet
      case rel => exact ⟨_, H', ⟨by first | omega | exact Nat.le_refl _⟩, ⟨by repeat (first | (with_reducible first | exact HB.out | apply below_alloc | apply pw_below_drewN | apply below_drew1) | exact HB.out)⟩⟩
  case rest =>
    clear HC3
    try clear c1
    try clear p2
    try clear c5
    try clear c5b0
    try clear c5b1
    try clear c7
    try clear c7b0
    try clear c7b1
    try clear c8
    try clear c9
    try clear c9b0
    try clear c9b1
    try clear c10
    try clear c10b0
    try clear c10b1
    try clear c13
    try clear c14
    try clear c14b0
    try clear c14b1
    try clear c15
    try clear c15b0
    try clear c15b1
    obtain ⟨kq, HA, HJ2, HB⟩ := hcut
    cases kq with
    | zero => exact absurd HA.out (by simp [tollhouselaw03_NumTrims.j0])
    | succ kj2 =>
      have H := HA.out
      clear HA
      simp only [tollhouselaw03_NumTrims.j0] at H
      replace H := Option.bind_eq_some_iff.mp H
      obtain ⟨⟨t227, t228⟩, A180, H⟩ := H
      replace H : (if t228 = 0 then ((strings_TrimLeft.f a0 (⟨#[48]⟩ : ByteArray)).bind fun t229 => ((strings_ToLower.f t229).bind fun t230 => (if t230.toList = ([] : List UInt8) then (tollhouselaw03_NumTrims.j1 kj2 t227 (⟨#[48]⟩ : ByteArray)) else (tollhouselaw03_NumTrims.j1 kj2 t227 t230)))) else ((tollhouselaw03_awake.f).bind fun t234 => (some t234))) = some r := H
      have A18 := Aside0.mk A180
      clear A180
      by_cases c19 : t228 = 0
      · rw [if_pos c19] at H
        have c19b0 : (t228 == 0) = true := beq_iff_eq.mpr c19
        have c19b1 : (t228 != 0) = false := bne_eq_false_iff_eq.mpr c19
        clear c19
        replace H := Option.bind_eq_some_iff.mp H
        obtain ⟨t229, A200, H⟩ := H
        replace H : ((strings_ToLower.f t229).bind fun t230 => (if t230.toList = ([] : List UInt8) then (tollhouselaw03_NumTrims.j1 kj2 t227 (⟨#[48]⟩ : ByteArray)) else (tollhouselaw03_NumTrims.j1 kj2 t227 t230))) = some r := H
        have A20 := Aside0.mk A200
        clear A200
        replace H := Option.bind_eq_some_iff.mp H
        obtain ⟨t230, A210, H⟩ := H
        replace H : (if t230.toList = ([] : List UInt8) then (tollhouselaw03_NumTrims.j1 kj2 t227 (⟨#[48]⟩ : ByteArray)) else (tollhouselaw03_NumTrims.j1 kj2 t227 t230)) = some r := H
        have A21 := Aside0.mk A210
        clear A210
        have HC22 := Aside0.mk H
        clear H
        go_upto_if 47 with (first | ((with_reducible refine gate_callee (f := 10) rfl ?_); refine goesL_ (some 38) rfl rfl Tryd.func10 (by kernel_rfl) rfl #[.string a0] rfl (by (try simp only [List.map_toArray, List.map_cons, List.map_nil]); first | done | rfl | (simp only [List.length_drop, List.length_take]; rfl)) ?_; (with_reducible refine (num_Hex.calls a0 t227 t228 _ A18.out).mono ?_); rintro e w23 ⟨rfl, hb⟩; refine ⟨_, rfl, ?_⟩; have n0_ := Aside0.mk (below_step (by repeat (first | (with_reducible first | exact HB.out | apply below_alloc | apply pw_below_drewN | apply below_drew1) | exact HB.out)) hb); clear HB; have HB := n0_; clear n0_; (try clear hb); (try clear hb2); (try clear hk); (try clear hi)) | ((with_reducible refine gate_callee (f := 19) rfl ?_); refine goesL_ (some 44) rfl rfl Tryd.func19 (by kernel_rfl) rfl #[.string a0, .string (⟨#[48]⟩ : ByteArray)] rfl (by (try simp only [List.map_toArray, List.map_cons, List.map_nil]); first | done | rfl | (simp only [List.length_drop, List.length_take]; rfl)) ?_; (with_reducible refine (strings_TrimLeft.calls a0 (⟨#[48]⟩ : ByteArray) t229 _ A20.out).mono ?_); rintro e w24 ⟨rfl, hb⟩; refine ⟨_, rfl, ?_⟩; have n0_ := Aside0.mk (below_step (by repeat (first | (with_reducible first | exact HB.out | apply below_alloc | apply pw_below_drewN | apply below_drew1) | exact HB.out)) hb); clear HB; have HB := n0_; clear n0_; (try clear hb); (try clear hb2); (try clear hk); (try clear hi)) | ((with_reducible refine gate_callee (f := 20) rfl ?_); refine goesL_ (some 45) rfl rfl Tryd.func20 (by kernel_rfl) rfl #[.string t229] rfl (by (try simp only [List.map_toArray, List.map_cons, List.map_nil]); first | done | rfl | (simp only [List.length_drop, List.length_take]; rfl)) ?_; (with_reducible refine (strings_ToLower.calls t229 t230 _ A21.out).mono ?_); rintro e w25 ⟨rfl, hb⟩; refine ⟨_, rfl, ?_⟩; have n0_ := Aside0.mk (below_step (by repeat (first | (with_reducible first | exact HB.out | apply below_alloc | apply pw_below_drewN | apply below_drew1) | exact HB.out)) hb); clear HB; have HB := n0_; clear n0_; (try clear hb); (try clear hb2); (try clear hk); (try clear hi)))
        (try simp only [Act.put, List.setIfInBounds_toArray, List.set_cons_zero, List.set_cons_succ])
        go_cut [10] (fun v10 wc => ∃ (kq : Nat) (x10_21 : ByteArray), v10 = .string x10_21 ∧ Aside0 (tollhouselaw03_NumTrims.j1 kq t227 x10_21 = some r) ∧ Aside0 (kq ≤ kj2) ∧ Aside0 (Below w.heap.size w wc))
        case first =>
          have H := HC22.out
          clear HC22
          by_cases c26 : t230.toList = ([] : List UInt8)
          · rw [if_pos c26] at H
            have c26b0 : (t230.toList == ([] : List UInt8)) = true := beq_iff_eq.mpr c26
            have c26b1 : (t230.toList != ([] : List UInt8)) = false := bne_eq_false_iff_eq.mpr c26
            clear c26
            (first | rw [c26b0] | rw [show t230.toList.isEmpty = true from List.isEmpty_iff.2 (beq_iff_eq.mp c26b0)] | (simp only [i64_w, i32_w]; rw [c26b0]) | skip)
            have H' := Aside0.mk H
            clear H
            go_wp2
            go_meet
            case rel => exact ⟨_, ((⟨#[48]⟩ : ByteArray)), (by first | rfl | (simp; done) | (simp [*]; done)), H', ⟨by have := HJ2.out; first | omega | exact Nat.le_refl _⟩, ⟨by repeat (first | (with_reducible first | exact HB.out | apply below_alloc | apply pw_below_drewN | apply below_drew1) | exact HB.out)⟩⟩
          · rw [if_neg c26] at H
            have c26b0 : (t230.toList == ([] : List UInt8)) = false := beq_eq_false_iff_ne.mpr c26
            have c26b1 : (t230.toList != ([] : List UInt8)) = true := bne_iff_ne.mpr c26
            (first | rw [c26b0] | rw [show t230.toList.isEmpty = false from Bool.eq_false_iff.2 fun h_ => beq_eq_false_iff_ne.mp c26b0 (List.isEmpty_iff.1 h_)] | (simp only [i64_w, i32_w]; rw [c26b0]) | skip)
            have H' := Aside0.mk H
            clear H
            go_wp2
            go_meet
            case rel => exact ⟨_, (t230), (by first | rfl | (simp; done) | (simp [*]; done)), H', ⟨by have := HJ2.out; first | omega | exact Nat.le_refl _⟩, ⟨by repeat (first | (with_reducible first | exact HB.out | apply below_alloc | apply pw_below_drewN | apply below_drew1) | exact HB.out)⟩⟩
        case rest =>
          clear HC22
          try clear c1
          try clear c2
          try clear p2
          try clear c5
          try clear c5b0
          try clear c5b1
          try clear c7
          try clear c7b0
          try clear c7b1
          try clear c8
          try clear c9
          try clear c9b0
          try clear c9b1
          try clear c10
          try clear c10b0
          try clear c10b1
          try clear c13
          try clear c14
          try clear c14b0
          try clear c14b1
          try clear c15
          try clear c15b0
          try clear c15b1
          try clear c19
          try clear c19b0
          try clear c19b1
          try clear c20
          try clear c26
          try clear c26b0
          try clear c26b1
          try clear p2
          obtain ⟨kq, x10_21, rfl, HA, HJ21, HB⟩ := hcut
          cases kq with
          | zero => exact absurd HA.out (by simp [tollhouselaw03_NumTrims.j1])
          | succ kj21 =>
            have H := HA.out
            clear HA
            simp only [tollhouselaw03_NumTrims.j1] at H
            replace H := Option.bind_eq_some_iff.mp H
            obtain ⟨⟨t231, t232⟩, A270, H⟩ := H
            replace H : (if t232 = 0 then (if t231.toList = x10_21.toList then ((tollhouselaw03_awake.f).bind fun t233 => (some t233)) else (some false)) else (some false)) = some r := H
            have A27 := Aside0.mk A270
            clear A270
            by_cases c28 : t232 = 0
            · rw [if_pos c28] at H
              have c28b0 : (t232 == 0) = true := beq_iff_eq.mpr c28
              have c28b1 : (t232 != 0) = false := bne_eq_false_iff_eq.mpr c28
              clear c28
              by_cases c29 : t231.toList = x10_21.toList
              · rw [if_pos c29] at H
                have c29b0 : (t231.toList == x10_21.toList) = true := beq_iff_eq.mpr c29
                have c29b1 : (t231.toList != x10_21.toList) = false := bne_eq_false_iff_eq.mpr c29
                clear c29
                replace H := Option.bind_eq_some_iff.mp H
                obtain ⟨t233, A300, H⟩ := H
                replace H : (some t233) = some r := H
                have A30 := Aside0.mk A300
                clear A300
                obtain rfl := Option.some.inj H
                go_wp2_with (first | ((with_reducible refine gate_callee (f := 15) rfl ?_); refine goesL_ (some 50) rfl rfl Tryd.func15 (by kernel_rfl) rfl #[.int .u64 t227] rfl (by (try simp only [List.map_toArray, List.map_cons, List.map_nil]); first | done | rfl | (simp only [List.length_drop, List.length_take]; rfl)) ?_; (with_reducible refine (num_HexText.calls t227 t231 t232 _ ?sideT A27.out).mono ?_); (case sideT => repeat (first | exact HT.out | exact (Tab.below HT.out HB.out) | (with_reducible first | refine Tab.alloc ?_ _ | refine Tab.drewN ?_ _ | refine Tab.drew ?_))); rintro e w31 ⟨rfl, hb⟩; refine ⟨_, rfl, ?_⟩; have n0_ := Aside0.mk (below_step (by repeat (first | (with_reducible first | exact HB.out | apply below_alloc | apply pw_below_drewN | apply below_drew1) | exact HB.out)) hb); clear HB; have HB := n0_; clear n0_; (try clear hb); (try clear hb2); (try clear hk); (try clear hi)) | ((with_reducible refine gate_callee (f := 12) rfl ?_); refine goesL_ (some 60) rfl rfl Tryd.func12 (by kernel_rfl) rfl #[] rfl (by (try simp only [List.map_toArray, List.map_cons, List.map_nil]); first | done | rfl | (simp only [List.length_drop, List.length_take]; rfl)) ?_; (with_reducible refine (tollhouselaw03_awake.calls t233 _ ?sideT A30.out).mono ?_); (case sideT => repeat (first | exact HT.out | exact (Tab.below HT.out HB.out) | (with_reducible first | refine Tab.alloc ?_ _ | refine Tab.drewN ?_ _ | refine Tab.drew ?_))); rintro e w32 ⟨rfl, hb⟩; refine ⟨_, rfl, ?_⟩; have n0_ := Aside0.mk (below_step (by repeat (first | (with_reducible first | exact HB.out | apply below_alloc | apply pw_below_drewN | apply below_drew1) | exact HB.out)) hb); clear HB; have HB := n0_; clear n0_; (try clear hb); (try clear hb2); (try clear hk); (try clear hi)))
                go_ret
                exact ⟨by first | rfl | (simp [errW_none, errW_some] <;> rfl) | (simp [*, errW_none, errW_some] <;> rfl), by repeat (first | (with_reducible first | exact HB.out | apply below_alloc | apply pw_below_drewN | apply below_drew1) | exact HB.out)⟩
              · rw [if_neg c29] at H
                have c29b0 : (t231.toList == x10_21.toList) = false := beq_eq_false_iff_ne.mpr c29
                have c29b1 : (t231.toList != x10_21.toList) = true := bne_iff_ne.mpr c29
                exact absurd ((Option.some.inj H).trans hr_) (by decide)
            · rw [if_neg c28] at H
              have c28b0 : (t232 == 0) = false := beq_eq_false_iff_ne.mpr c28
              have c28b1 : (t232 != 0) = true := bne_iff_ne.mpr c28
              exact absurd ((Option.some.inj H).trans hr_) (by decide)
      · rw [if_neg c19] at H
        have c19b0 : (t228 == 0) = false := beq_eq_false_iff_ne.mpr c19
        have c19b1 : (t228 != 0) = true := bne_iff_ne.mpr c19
        replace H := Option.bind_eq_some_iff.mp H
        obtain ⟨t234, A330, H⟩ := H
        replace H : (some t234) = some r := H
        have A33 := Aside0.mk A330
        clear A330
        obtain rfl := Option.some.inj H
        go_wp2_with (first | ((with_reducible refine gate_callee (f := 10) rfl ?_); refine goesL_ (some 38) rfl rfl Tryd.func10 (by kernel_rfl) rfl #[.string a0] rfl (by (try simp only [List.map_toArray, List.map_cons, List.map_nil]); first | done | rfl | (simp only [List.length_drop, List.length_take]; rfl)) ?_; (with_reducible refine (num_Hex.calls a0 t227 t228 _ A18.out).mono ?_); rintro e w34 ⟨rfl, hb⟩; refine ⟨_, rfl, ?_⟩; have n0_ := Aside0.mk (below_step (by repeat (first | (with_reducible first | exact HB.out | apply below_alloc | apply pw_below_drewN | apply below_drew1) | exact HB.out)) hb); clear HB; have HB := n0_; clear n0_; (try clear hb); (try clear hb2); (try clear hk); (try clear hi)) | ((with_reducible refine gate_callee (f := 12) rfl ?_); refine goesL_ (some 60) rfl rfl Tryd.func12 (by kernel_rfl) rfl #[] rfl (by (try simp only [List.map_toArray, List.map_cons, List.map_nil]); first | done | rfl | (simp only [List.length_drop, List.length_take]; rfl)) ?_; (with_reducible refine (tollhouselaw03_awake.calls t234 _ ?sideT A33.out).mono ?_); (case sideT => repeat (first | exact HT.out | exact (Tab.below HT.out HB.out) | (with_reducible first | refine Tab.alloc ?_ _ | refine Tab.drewN ?_ _ | refine Tab.drew ?_))); rintro e w35 ⟨rfl, hb⟩; refine ⟨_, rfl, ?_⟩; have n0_ := Aside0.mk (below_step (by repeat (first | (with_reducible first | exact HB.out | apply below_alloc | apply pw_below_drewN | apply below_drew1) | exact HB.out)) hb); clear HB; have HB := n0_; clear n0_; (try clear hb); (try clear hb2); (try clear hk); (try clear hi)))
        go_ret
        exact ⟨by first | rfl | (simp [errW_none, errW_some] <;> rfl) | (simp [*, errW_none, errW_some] <;> rfl), by repeat (first | (with_reducible first | exact HB.out | apply below_alloc | apply pw_below_drewN | apply below_drew1) | exact HB.out)⟩


end Go.Proofs.YtjiiahiglpcpmaaDoor.P
