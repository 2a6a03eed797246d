/- The walk of the Go function tollhouselaw05 HeadBack, and what it computes. By program. Conditions: none but those that each theorem names. -/
import Derived.Test.YtdofgilfmgdpkaaDoorQ0
import Derived.Test.YtdofgilfmgdpkaaDoorQRef05
import Derived.Test.YtdofgilfmgdpkaaDoorQheadPut
import Derived.Test.YtdofgilfmgdpkaaDoorQtollhouselaw05wakes
import Derived.Test.YtdofgilfmgdpkaaDoorFheadParse
import Derived.Test.YtdofgilfmgdpkaaDoorFheadMay
namespace Go.Proofs.YtdofgilfmgdpkaaDoor.P
open Go.RowKit Go.Proofs.YtdofgilfmgdpkaaDoorW.PrintWords Go.Proofs.YtdofgilfmgdpkaaDoorW.PrintLast Go.Proofs.YtdofgilfmgdpkaaDoorW.PrintMore
attribute [local go_sem] max2_int min2_int max_two min_two max_three min_three max_four min_four
set_option linter.unusedVariables false
set_option linter.unusedSimpArgs false

/-! ### tollhouselaw05_HeadBack: function 5 -/
def tollhouselaw05_HeadBack.j0 : Nat → Int → List Int → Bool → Option (Bool)
  | 0, _, _, _ => none
  | k + 1, x2, x7, x63 => if x63 = true then (some false) else (if (x7.length : Int) = 0 then (none) else (if 0 ≤ (Int.tmod (wrap64 (x2)) (x7.length : Int)) then (if (Int.tmod (wrap64 (x2)) (x7.length : Int)) ≤ (x7.length : Int) then ((head_Parse.f (x7.take ((Int.tmod (wrap64 (x2)) (x7.length : Int)) : Int).toNat)).bind fun bt346 => (if bt346.2.2 = 8 then (if (bt346.1.length : Int) = 0 then (if bt346.2.1 = 0 then ((tollhouselaw05_wakes.f k).bind fun t351 => (some t351)) else (some false)) else (some false)) else (some false))) else (none)) else (none)))
def tollhouselaw05_HeadBack.f (k : Nat) (l0 : List (S45)) (l1 : List Int) (a2 : Int) : Option (Bool) := (head_Put.f k l0).bind fun bt324 => ((head_May.f l0).bind fun t328 => (if ((bt324.2 == 0) != t328) = true then (some false) else (if bt324.2 = 0 then (if ([] : List Int).length + bt324.1.length < 140737488355328 then ((some (([] : List Int) ++ bt324.1 : List Int)).bind fun y330 => (if y330.length + l1.length < 140737488355328 then ((head_Parse.f (y330 ++ l1)).bind fun bt336 => (if bt336.2.2 = 0 then (if bt336.2.1 = (bt324.1.length : Int) then ((tollhouseref05_Same.f k bt336.1 l0).bind fun t341 => (if t341 = true then (tollhouselaw05_HeadBack.j0 k a2 bt324.1 (decide (bt336.2.1 > 2048))) else (tollhouselaw05_HeadBack.j0 k a2 bt324.1 true))) else (tollhouselaw05_HeadBack.j0 k a2 bt324.1 true)) else (tollhouselaw05_HeadBack.j0 k a2 bt324.1 true))) else (none))) else (none)) else (if bt324.2 = 1 then (if (bt324.1.length : Int) = 0 then ((tollhouselaw05_wakes.f k).bind fun t329 => (some t329)) else (some false)) else (some false)))))
theorem tollhouselaw05_HeadBack.mono_l : ∀ k, (∀ y0 y1 y2, LeO (tollhouselaw05_HeadBack.j0 k y0 y1 y2) (tollhouselaw05_HeadBack.j0 (k + 1) y0 y1 y2))
  | 0 => fun _ _ _ r h => by simp [tollhouselaw05_HeadBack.j0] at h
  | k + 1 => by
    have ih0 := tollhouselaw05_HeadBack.mono_l k
    · intro y0 y1 y2
      unfold tollhouselaw05_HeadBack.j0
      repeat' first
      | (with_reducible exact ih0 _ _ _)
      | (with_reducible exact head_Put.mono _ _)
      | (with_reducible exact tollhouselaw05_wakes.mono _)
      | (with_reducible exact tollhouseref05_Same.mono _ _ _)
      | (with_reducible exact LeO.refl _)
      | (with_reducible exact LeO.none _)
      | (with_reducible refine LeO.ite ?_ ?_)
      | (with_reducible refine LeO.bind ?_ (fun _ => ?_))
      | exact ih0 _ _ _
      | exact head_Put.mono _ _
      | exact tollhouselaw05_wakes.mono _
      | exact tollhouseref05_Same.mono _ _ _
      | exact LeO.none _
      | refine LeO.ite ?_ ?_
      | refine LeO.bind ?_ (fun _ => ?_)
theorem tollhouselaw05_HeadBack.mono : ∀ a0 a1 a2 k, LeO (tollhouselaw05_HeadBack.f k a0 a1 a2) (tollhouselaw05_HeadBack.f (k + 1) a0 a1 a2) := by
  intro a0 a1 a2 k
  have ih0 := tollhouselaw05_HeadBack.mono_l k
  unfold tollhouselaw05_HeadBack.f
  repeat' first
      | (with_reducible exact ih0 _ _ _)
      | (with_reducible exact head_Put.mono _ _)
      | (with_reducible exact tollhouselaw05_wakes.mono _)
      | (with_reducible exact tollhouseref05_Same.mono _ _ _)
      | (with_reducible exact LeO.refl _)
      | (with_reducible exact LeO.none _)
      | (with_reducible refine LeO.ite ?_ ?_)
      | (with_reducible refine LeO.bind ?_ (fun _ => ?_))
      | exact ih0 _ _ _
      | exact head_Put.mono _ _
      | exact tollhouselaw05_wakes.mono _
      | exact tollhouseref05_Same.mono _ _ _
      | exact LeO.none _
      | refine LeO.ite ?_ ?_
      | refine LeO.bind ?_ (fun _ => ?_)
set_option maxHeartbeats 8000000 in
set_option maxRecDepth 100000 in
theorem tollhouselaw05_HeadBack.calls (k : Nat) (A0 : Option Addr) (c0 : Nat) (l0 : List (S45)) (A1 : Option Addr) (c1 : Nat) (l1 : List Int) (a2 : Int) (r : Bool) (w : World) (hr0 : Kd.C k45 w A0 l0.length l0) (hc0 : l0.length ≤ c0) (hr1 : Kd.C (Kd.int .u8) w A1 l1.length l1) (hc1 : l1.length ≤ c1) (h : tollhouselaw05_HeadBack.f k l0 l1 a2 = some r) :
    Calls Tryd.prog 5 #[.slice A0 l0.length c0, .slice A1 l1.length c1, .int .u16 a2] w fun e w' => e = .returned (.bool r) ∧ Below w.heap.size w w' := by
  have HR0 := Aside0.mk hr0
  have HC0 := Aside0.mk hc0
  clear hr0 hc0
  have HR1 := Aside0.mk hr1
  have HC1 := Aside0.mk hc1
  clear hr1 hc1
  have HB := Aside0.mk (Below.refl w.heap.size w)
  have H : ((head_Put.f k l0).bind fun bt324 => ((head_May.f l0).bind fun t328 => (if ((bt324.2 == 0) != t328) = true then (some false) else (if bt324.2 = 0 then (if ([] : List Int).length + bt324.1.length < 140737488355328 then ((some (([] : List Int) ++ bt324.1 : List Int)).bind fun y330 => (if y330.length + l1.length < 140737488355328 then ((head_Parse.f (y330 ++ l1)).bind fun bt336 => (if bt336.2.2 = 0 then (if bt336.2.1 = (bt324.1.length : Int) then ((tollhouseref05_Same.f k bt336.1 l0).bind fun t341 => (if t341 = true then (tollhouselaw05_HeadBack.j0 k a2 bt324.1 (decide (bt336.2.1 > 2048))) else (tollhouselaw05_HeadBack.j0 k a2 bt324.1 true))) else (tollhouselaw05_HeadBack.j0 k a2 bt324.1 true)) else (tollhouselaw05_HeadBack.j0 k a2 bt324.1 true))) else (none))) else (none)) else (if bt324.2 = 1 then (if (bt324.1.length : Int) = 0 then ((tollhouselaw05_wakes.f k).bind fun t329 => (some t329)) else (some false)) else (some false)))))) = some r := h
  clear h
  replace H := Option.bind_eq_some_iff.mp H
  obtain ⟨⟨t324, t325⟩, A40, H⟩ := H
  replace H : ((head_May.f l0).bind fun t328 => (if ((t325 == 0) != t328) = true then (some false) else (if t325 = 0 then (if ([] : List Int).length + t324.length < 140737488355328 then ((some (([] : List Int) ++ t324 : List Int)).bind fun y330 => (if y330.length + l1.length < 140737488355328 then ((head_Parse.f (y330 ++ l1)).bind fun bt336 => (if bt336.2.2 = 0 then (if bt336.2.1 = (t324.length : Int) then ((tollhouseref05_Same.f k bt336.1 l0).bind fun t341 => (if t341 = true then (tollhouselaw05_HeadBack.j0 k a2 t324 (decide (bt336.2.1 > 2048))) else (tollhouselaw05_HeadBack.j0 k a2 t324 true))) else (tollhouselaw05_HeadBack.j0 k a2 t324 true)) else (tollhouselaw05_HeadBack.j0 k a2 t324 true))) else (none))) else (none)) else (if t325 = 1 then (if (t324.length : Int) = 0 then ((tollhouselaw05_wakes.f k).bind fun t329 => (some t329)) else (some false)) else (some false))))) = some r := H
  have A4 := Aside0.mk A40
  clear A40
  replace H := Option.bind_eq_some_iff.mp H
  obtain ⟨t328, A50, H⟩ := H
  replace H : (if ((t325 == 0) != t328) = true then (some false) else (if t325 = 0 then (if ([] : List Int).length + t324.length < 140737488355328 then ((some (([] : List Int) ++ t324 : List Int)).bind fun y330 => (if y330.length + l1.length < 140737488355328 then ((head_Parse.f (y330 ++ l1)).bind fun bt336 => (if bt336.2.2 = 0 then (if bt336.2.1 = (t324.length : Int) then ((tollhouseref05_Same.f k bt336.1 l0).bind fun t341 => (if t341 = true then (tollhouselaw05_HeadBack.j0 k a2 t324 (decide (bt336.2.1 > 2048))) else (tollhouselaw05_HeadBack.j0 k a2 t324 true))) else (tollhouselaw05_HeadBack.j0 k a2 t324 true)) else (tollhouselaw05_HeadBack.j0 k a2 t324 true))) else (none))) else (none)) else (if t325 = 1 then (if (t324.length : Int) = 0 then ((tollhouselaw05_wakes.f k).bind fun t329 => (some t329)) else (some false)) else (some false)))) = some r := H
  have A5 := Aside0.mk A50
  clear A50
  by_cases c6 : ((t325 == 0) != t328) = true
  · rw [if_pos c6] at H
    have c6b0 : ((t325 == 0) != t328) = true := c6
    (try (have c6b1 : decide ((t325 == 0) = t328) = false := by simpa using c6))
    (try (have c6b2 : ((t325 == 0) == t328) = false := by simpa using c6))
    (try (have c6b3 : ¬ ((t325 == 0) = t328) := by simpa using c6))
    clear c6
    obtain rfl := Option.some.inj H
    (try have e328 := (bne_eq_false_iff_eq.1 c6b0).symm)
    (try rw [c9b0] at e328)
    (try have e328n : (!t328) = false := congrArg not e328)
    (try have e328m : (!t328) = true := congrArg not e328)
    go_enter Tryd.func5, Tryd.ntmps5
    go_wp2_with (first | ((with_reducible refine gate_callee (f := 14) rfl ?_); refine goesL_ (some 17) rfl rfl Tryd.func14 (by kernel_rfl) rfl #[.slice A0 l0.length c0] rfl (by (try simp only [List.map_toArray, List.map_cons, List.map_nil]); first | done | rfl | (simp only [List.length_drop, List.length_take]; rfl)) ?_; (with_reducible refine (head_Put.calls k _ _ l0 t324 t325 _ ?side1 ?side2 A4.out).mono ?_); (case side1 => repeat (first | exact HR0.out | (with_reducible refine Kd.C_alloc ?_ _) | (with_reducible refine Kd.C_drewN ?_ _) | (with_reducible refine Kd.C_drew ?_))); (case side2 => exact HC0.out); rintro e w7 ⟨v326, rfl, ho0, hb⟩; refine ⟨_, rfl, ?_⟩; have n0_ := Aside0.mk (Kd.R_lower ho0 (below_size (by repeat (first | (with_reducible first | exact HB.out | apply below_alloc | apply pw_below_drewN | apply below_drew1) | exact HB.out)))); have n1_ := Aside0.mk (below_step (by repeat (first | (with_reducible first | exact HB.out | apply below_alloc | apply pw_below_drewN | apply below_drew1) | exact HB.out)) hb); clear HB; have HO327 := n0_; have HB := n1_; clear n0_ n1_; (try clear hb); (try clear hb2); (try clear hk); (try clear hi); (try clear ho0)) | ((with_reducible refine gate_callee (f := 16) rfl ?_); refine goesL_ (some 23) rfl rfl Tryd.func16 (by kernel_rfl) rfl #[.slice A0 l0.length c0] rfl (by (try simp only [List.map_toArray, List.map_cons, List.map_nil]); first | done | rfl | (simp only [List.length_drop, List.length_take]; rfl)) ?_; (with_reducible refine (head_May.calls _ _ l0 t328 _ ?side1 ?side2 A5.out).mono ?_); (case side1 => repeat (first | exact (Kd.C_below HR0.out HB.out) | (with_reducible refine Kd.C_alloc ?_ _) | (with_reducible refine Kd.C_drewN ?_ _) | (with_reducible refine Kd.C_drew ?_))); (case side2 => exact HC0.out); rintro e w8 ⟨rfl, hb⟩; refine ⟨_, rfl, ?_⟩; have n0_ := Aside0.mk (Kd.R_below (by (with_reducible repeat (first | apply Kd.R_alloc | apply Kd.R_drewN | apply Kd.R_drew)); exact HO327.out) hb); have n1_ := Aside0.mk (below_step (by repeat (first | (with_reducible first | exact HB.out | apply below_alloc | apply pw_below_drewN | apply below_drew1) | exact HB.out)) hb); clear HO327; clear HB; have HO327 := n0_; have HB := n1_; clear n0_ n1_; (try clear hb); (try clear hb2); (try clear hk); (try clear hi)))
    go_ret
    exact ⟨by first | rfl | (simp [errW_none, errW_some] <;> rfl) | (simp [*, errW_none, errW_some] <;> rfl), by repeat (first | (with_reducible first | exact HB.out | apply below_alloc | apply pw_below_drewN | apply below_drew1) | exact HB.out)⟩
  · rw [if_neg c6] at H
    have c6b0 : ((t325 == 0) != t328) = false := by simpa using c6
    (try (have c6b1 : decide ((t325 == 0) = t328) = true := by simpa using c6))
    (try (have c6b2 : ((t325 == 0) == t328) = true := by simpa using c6))
    clear c6
    by_cases c9 : t325 = 0
    · rw [if_pos c9] at H
      have c9b0 : (t325 == 0) = true := beq_iff_eq.mpr c9
      have c9b1 : (t325 != 0) = false := bne_eq_false_iff_eq.mpr c9
      clear c9
      by_cases c10 : ([] : List Int).length + t324.length < 140737488355328
      · rw [if_pos c10] at H
        have LMc10 := Aside0.mk c10
        clear c10
        obtain ⟨y330, hy330⟩ : ∃ y_ : List Int, y_ = (([] : List Int) ++ t324) := ⟨_, rfl⟩
        replace H : (if y330.length + l1.length < 140737488355328 then ((head_Parse.f (y330 ++ l1)).bind fun bt336 => (if bt336.2.2 = 0 then (if bt336.2.1 = (t324.length : Int) then ((tollhouseref05_Same.f k bt336.1 l0).bind fun t341 => (if t341 = true then (tollhouselaw05_HeadBack.j0 k a2 t324 (decide (bt336.2.1 > 2048))) else (tollhouselaw05_HeadBack.j0 k a2 t324 true))) else (tollhouselaw05_HeadBack.j0 k a2 t324 true)) else (tollhouselaw05_HeadBack.j0 k a2 t324 true))) else (none)) = some r := by first | (rw [hy330]; with_reducible exact H) | (have H2_ := (Option.bind_some _ _).symm.trans H; rw [hy330]; with_reducible exact H2_) | (have H2_ := (Option.bind_some _ _).symm.trans H; with_reducible exact H2_) | with_reducible exact H | (rw [hy330]; exact H) | exact H
        have Ny330 := Aside0.mk hy330
        clear hy330
        by_cases c11 : y330.length + l1.length < 140737488355328
        · rw [if_pos c11] at H
          have LMc11 := Aside0.mk c11
          clear c11
          obtain ⟨y333, hy333⟩ : ∃ y_ : List Int, y_ = (y330 ++ l1) := ⟨_, rfl⟩
          replace H : ((head_Parse.f y333).bind fun bt336 => (if bt336.2.2 = 0 then (if bt336.2.1 = (t324.length : Int) then ((tollhouseref05_Same.f k bt336.1 l0).bind fun t341 => (if t341 = true then (tollhouselaw05_HeadBack.j0 k a2 t324 (decide (bt336.2.1 > 2048))) else (tollhouselaw05_HeadBack.j0 k a2 t324 true))) else (tollhouselaw05_HeadBack.j0 k a2 t324 true)) else (tollhouselaw05_HeadBack.j0 k a2 t324 true))) = some r := by first | (rw [hy333]; with_reducible exact H) | (have H2_ := (Option.bind_some _ _).symm.trans H; rw [hy333]; with_reducible exact H2_) | (have H2_ := (Option.bind_some _ _).symm.trans H; with_reducible exact H2_) | with_reducible exact H | (rw [hy333]; exact H) | exact H
          have Ny333 := Aside0.mk hy333
          clear hy333
          replace H := Option.bind_eq_some_iff.mp H
          obtain ⟨⟨t336, t337, t338⟩, A120, H⟩ := H
          replace H : (if t338 = 0 then (if t337 = (t324.length : Int) then ((tollhouseref05_Same.f k t336 l0).bind fun t341 => (if t341 = true then (tollhouselaw05_HeadBack.j0 k a2 t324 (decide (t337 > 2048))) else (tollhouselaw05_HeadBack.j0 k a2 t324 true))) else (tollhouselaw05_HeadBack.j0 k a2 t324 true)) else (tollhouselaw05_HeadBack.j0 k a2 t324 true)) = some r := H
          have A12 := Aside0.mk A120
          clear A120
          have HC13 := Aside0.mk H
          clear H
          (try have e328 := (bne_eq_false_iff_eq.1 c6b0).symm)
          (try rw [c9b0] at e328)
          (try have e328n : (!t328) = false := congrArg not e328)
          (try have e328m : (!t328) = true := congrArg not e328)
          go_enter Tryd.func5, Tryd.ntmps5
          go_upto_region 7 with (first | ((with_reducible refine gate_callee (f := 14) rfl ?_); refine goesL_ (some 17) rfl rfl Tryd.func14 (by kernel_rfl) rfl #[.slice A0 l0.length c0] rfl (by (try simp only [List.map_toArray, List.map_cons, List.map_nil]); first | done | rfl | (simp only [List.length_drop, List.length_take]; rfl)) ?_; (with_reducible refine (head_Put.calls k _ _ l0 t324 t325 _ ?side1 ?side2 A4.out).mono ?_); (case side1 => repeat (first | exact HR0.out | (with_reducible refine Kd.C_alloc ?_ _) | (with_reducible refine Kd.C_drewN ?_ _) | (with_reducible refine Kd.C_drew ?_))); (case side2 => exact HC0.out); rintro e w14 ⟨v326, rfl, ho0, hb⟩; refine ⟨_, rfl, ?_⟩; have n0_ := Aside0.mk (Kd.R_lower ho0 (below_size (by repeat (first | (with_reducible first | exact HB.out | apply below_alloc | apply pw_below_drewN | apply below_drew1) | exact HB.out)))); have n1_ := Aside0.mk (below_step (by repeat (first | (with_reducible first | exact HB.out | apply below_alloc | apply pw_below_drewN | apply below_drew1) | exact HB.out)) hb); clear HB; have HO327 := n0_; have HB := n1_; clear n0_ n1_; (try clear hb); (try clear hb2); (try clear hk); (try clear hi); (try clear ho0)) | ((with_reducible refine gate_callee (f := 16) rfl ?_); refine goesL_ (some 23) rfl rfl Tryd.func16 (by kernel_rfl) rfl #[.slice A0 l0.length c0] rfl (by (try simp only [List.map_toArray, List.map_cons, List.map_nil]); first | done | rfl | (simp only [List.length_drop, List.length_take]; rfl)) ?_; (with_reducible refine (head_May.calls _ _ l0 t328 _ ?side1 ?side2 A5.out).mono ?_); (case side1 => repeat (first | exact (Kd.C_below HR0.out HB.out) | (with_reducible refine Kd.C_alloc ?_ _) | (with_reducible refine Kd.C_drewN ?_ _) | (with_reducible refine Kd.C_drew ?_))); (case side2 => exact HC0.out); rintro e w15 ⟨rfl, hb⟩; refine ⟨_, rfl, ?_⟩; have n0_ := Aside0.mk (Kd.R_below (by (with_reducible repeat (first | apply Kd.R_alloc | apply Kd.R_drewN | apply Kd.R_drew)); exact HO327.out) hb); have n1_ := Aside0.mk (below_step (by repeat (first | (with_reducible first | exact HB.out | apply below_alloc | apply pw_below_drewN | apply below_drew1) | exact HB.out)) hb); clear HO327; clear HB; have HO327 := n0_; have HB := n1_; clear n0_ n1_; (try clear hb); (try clear hb2); (try clear hk); (try clear hi); obtain ⟨Ao17, co17, eo17⟩ := Kd.R_slice HO327.out; subst eo17) | ((with_reducible refine gate_builtin (b := .append) (xs := #[.const (.slice none 0 0), .tmp 38]) rfl ?_); (try (refine gate_guard (by rfl) ?_; dsimp only)); at_builtin; refine Kd.R_append_rows (Kd.int .u8) (w0 := w) w.heap.size rfl (.const (.slice none 0 0)) (.tmp 38) 22 5 (.int .u8 0) 1 rfl Tryd.underlying22 info5 rfl (by decide) (by omega) (.slice none 0 0) ([] : List Int) t324 _ _ _ (fun k_ => some k_ ≠ (.slice Ao17 t324.length co17 : Value).ownBlock) (fun _ => False) rfl rfl ?aO ?aR (fun _ _ h => h) (fun _ h => h.elim) ?aF ?aB ?aS ?aL ?_; (case aR => repeat (first | exact (Kd.R_reads' HO327.out).2.2 | (with_reducible refine Kd.C_alloc ?_ _) | (with_reducible refine Kd.C_drewN ?_ _) | (with_reducible refine Kd.C_drew ?_))); (case aB => exact (by repeat (first | (with_reducible first | exact HB.out | apply below_alloc | apply pw_below_drewN | apply below_drew1) | exact HB.out))); (case aF => exact (fun k_ hk => Kd.fresh' (Kd.R_lt (by (with_reducible repeat (first | apply Kd.R_alloc | apply Kd.R_drewN | apply Kd.R_drew)); exact HO327.out)) k_ hk)); (case aO => exact ((Kd.R_nil _ _ _ _ (fun k_ => some k_ ≠ (.slice Ao17 t324.length co17 : Value).ownBlock)))); (case aS => exact (below_size (by repeat (first | (with_reducible first | exact HB.out | apply below_alloc | apply pw_below_drewN | apply below_drew1) | exact HB.out)))); (case aL => have := LMc10.out; omega); intro v331 w16 ho hb hg hat; rw [← Ny330.out] at ho; have n0_ := Aside0.mk (Kd.R_after (Kd.R_apart_nil (by (with_reducible repeat (first | apply Kd.R_alloc | apply Kd.R_drewN | apply Kd.R_drew)); exact HO327.out)) hg hat); have n1_ := Aside0.mk (hb); have n2_ := Aside0.mk (ho); clear HO327; clear HB; have HO327 := n0_; have HB := n1_; have HO332 := n2_; clear n0_ n1_ n2_; clear ho hb hg hat) | ((with_reducible refine gate_builtin (b := .append) (xs := #[.tmp 39, .tmp 40]) rfl ?_); (try (refine gate_guard (by rfl) ?_; dsimp only)); at_builtin; refine Kd.R_append_rows (Kd.int .u8) (w0 := w) w.heap.size rfl (.tmp 39) (.tmp 40) 22 5 (.int .u8 0) 1 rfl Tryd.underlying22 info5 rfl (by decide) (by omega) v331 y330 l1 _ _ _ (fun k_ => some k_ ≠ (.slice Ao17 t324.length co17 : Value).ownBlock) (fun _ => False) rfl rfl ?aO ?aR (fun _ _ h => h) (fun _ h => h.elim) ?aF ?aB ?aS ?aL ?_; (case aR => repeat (first | exact (Kd.C_below HR1.out HB.out) | (with_reducible refine Kd.C_alloc ?_ _) | (with_reducible refine Kd.C_drewN ?_ _) | (with_reducible refine Kd.C_drew ?_))); (case aB => exact (by repeat (first | (with_reducible first | exact HB.out | apply below_alloc | apply pw_below_drewN | apply below_drew1) | exact HB.out))); (case aF => exact (fun k_ hk => Kd.fresh' (Kd.R_lt (by (with_reducible repeat (first | apply Kd.R_alloc | apply Kd.R_drewN | apply Kd.R_drew)); exact HO327.out)) k_ hk)); (case aO => exact (by (with_reducible repeat (first | apply Kd.R_alloc | apply Kd.R_drewN | apply Kd.R_drew)); exact HO332.out)); (case aS => exact (below_size (by repeat (first | (with_reducible first | exact HB.out | apply below_alloc | apply pw_below_drewN | apply below_drew1) | exact HB.out)))); (case aL => have := LMc11.out; omega); intro v334 w18 ho hb hg hat; rw [← Ny333.out] at ho; have n0_ := Aside0.mk (Kd.R_after (ok := (fun _ => True)) (by (with_reducible repeat (first | apply Kd.R_alloc | apply Kd.R_drewN | apply Kd.R_drew)); exact HO327.out) hg hat); have n1_ := Aside0.mk (hb); have n2_ := Aside0.mk (ho); clear HO327; clear HB; clear HO332; have HO327 := n0_; have HB := n1_; have HO335 := n2_; clear n0_ n1_ n2_; clear ho hb hg hat; obtain ⟨Ao19, co19, eo19⟩ := Kd.R_slice HO335.out; subst eo19) | ((with_reducible refine gate_callee (f := 9) rfl ?_); refine goesL_ (some 42) rfl rfl Tryd.func9 (by kernel_rfl) rfl #[.slice Ao19 y333.length co19] rfl (by (try simp only [List.map_toArray, List.map_cons, List.map_nil]); first | done | rfl | (simp only [List.length_drop, List.length_take]; rfl)) ?_; (with_reducible refine (head_Parse.calls _ _ y333 t336 t337 t338 _ ?side1 ?side2 A12.out).mono ?_); (case side1 => repeat (first | exact (Kd.R_reads' HO335.out).2.2 | (with_reducible refine Kd.C_alloc ?_ _) | (with_reducible refine Kd.C_drewN ?_ _) | (with_reducible refine Kd.C_drew ?_))); (case side2 => exact (Kd.R_reads' HO335.out).2.1); rintro e w20 ⟨v339, rfl, ho0, hb⟩; refine ⟨_, rfl, ?_⟩; have n0_ := Aside0.mk (Kd.R_below (by (with_reducible repeat (first | apply Kd.R_alloc | apply Kd.R_drewN | apply Kd.R_drew)); exact HO327.out) hb); have n1_ := Aside0.mk (Kd.R_below (by (with_reducible repeat (first | apply Kd.R_alloc | apply Kd.R_drewN | apply Kd.R_drew)); exact HO335.out) hb); have n2_ := Aside0.mk (Kd.R_lower ho0 (below_size (by repeat (first | (with_reducible first | exact HB.out | apply below_alloc | apply pw_below_drewN | apply below_drew1) | exact HB.out)))); have n3_ := Aside0.mk (below_step (by repeat (first | (with_reducible first | exact HB.out | apply below_alloc | apply pw_below_drewN | apply below_drew1) | exact HB.out)) hb); clear HO327; clear HO335; clear HB; have HO327 := n0_; have HO335 := n1_; have HO340 := n2_; have HB := n3_; clear n0_ n1_ n2_ n3_; (try clear hb); (try clear hb2); (try clear hk); (try clear hi); (try clear ho0)))
          (try simp only [Act.put, List.setIfInBounds_toArray, List.set_cons_zero, List.set_cons_succ])
          go_cut [63] (fun v63 wc => ∃ (kq : Nat) (x63_12 : Bool), v63 = .bool x63_12 ∧ Aside0 (tollhouselaw05_HeadBack.j0 kq a2 t324 x63_12 = some r) ∧ Aside0 (kq ≤ k) ∧ Aside0 (Kd.R (Kd.int .u8) 5 wc w.heap.size (fun _ => True) (.slice Ao17 t324.length co17) t324) ∧ Aside0 (Below w.heap.size w wc))
          case first =>
            have H := HC13.out
            clear HC13
            by_cases c21 : t338 = 0
            · rw [if_pos c21] at H
              have c21b0 : (t338 == 0) = true := beq_iff_eq.mpr c21
              have c21b1 : (t338 != 0) = false := bne_eq_false_iff_eq.mpr c21
              clear c21
              (first | rw [c21b0] | (simp only [i64_w, i32_w]; rw [c21b0]) | skip)
              by_cases c22 : t337 = (t324.length : Int)
              · rw [if_pos c22] at H
                have c22b0 : (t337 == (t324.length : Int)) = true := beq_iff_eq.mpr c22
                have c22b1 : (t337 != (t324.length : Int)) = false := bne_eq_false_iff_eq.mpr c22
                clear c22
                replace H := Option.bind_eq_some_iff.mp H
                obtain ⟨t341, A230, H⟩ := H
                replace H : (if t341 = true then (tollhouselaw05_HeadBack.j0 k a2 t324 (decide (t337 > 2048))) else (tollhouselaw05_HeadBack.j0 k a2 t324 true)) = some r := H
                have A23 := Aside0.mk A230
                clear A230
                by_cases c24 : t341 = true
                · subst c24
                  have H1 : (tollhouselaw05_HeadBack.j0 k a2 t324 (decide (t337 > 2048))) = some r := by rw [if_pos rfl] at H; exact H
                  clear H
                  have H := H1
                  clear H1
                  have H' := Aside0.mk H
                  clear H
                  obtain ⟨Ao25, co25, eo25⟩ := Kd.R_slice HO340.out
                  subst eo25
                  go_wp2_with (first | (go_at_call 11; (with_reducible refine (tollhouseref05_Same.calls k _ _ t336 _ _ l0 true _ ?side1 ?side2 ?side3 ?side4 A23.out).mono ?_); (case side1 => repeat (first | exact (Kd.R_reads' HO340.out).2.2 | (with_reducible refine Kd.C_alloc ?_ _) | (with_reducible refine Kd.C_drewN ?_ _) | (with_reducible refine Kd.C_drew ?_))); (case side2 => exact (Kd.R_reads' HO340.out).2.1); (case side3 => repeat (first | exact (Kd.C_below HR0.out HB.out) | (with_reducible refine Kd.C_alloc ?_ _) | (with_reducible refine Kd.C_drewN ?_ _) | (with_reducible refine Kd.C_drew ?_))); (case side4 => exact HC0.out); rintro e w' ⟨rfl, ⟨nd, rfl⟩⟩))
                  go_meet
                  case rel => exact ⟨_, (decide (t337 > 2048)), (by first | rfl | (simp; done) | (simp [*]; done)), H', ⟨by first | omega | exact Nat.le_refl _⟩, ⟨by (with_reducible repeat (first | apply Kd.R_alloc | apply Kd.R_drewN | apply Kd.R_drew)); exact Kd.R_mono HO327.out (fun _ hk => trivial)⟩, ⟨by repeat (first | (with_reducible first | exact HB.out | apply below_alloc | apply pw_below_drewN | apply below_drew1) | exact HB.out)⟩⟩
                · replace c24 := Bool.eq_false_iff.mpr c24
                  subst c24
                  have H1 : (tollhouselaw05_HeadBack.j0 k a2 t324 true) = some r := by rw [if_neg (show ¬ (false = true) by decide)] at H; exact H
                  clear H
                  have H := H1
                  clear H1
                  have H' := Aside0.mk H
                  clear H
                  obtain ⟨Ao26, co26, eo26⟩ := Kd.R_slice HO340.out
                  subst eo26
                  go_wp2_with (first | (go_at_call 11; (with_reducible refine (tollhouseref05_Same.calls k _ _ t336 _ _ l0 false _ ?side1 ?side2 ?side3 ?side4 A23.out).mono ?_); (case side1 => repeat (first | exact (Kd.R_reads' HO340.out).2.2 | (with_reducible refine Kd.C_alloc ?_ _) | (with_reducible refine Kd.C_drewN ?_ _) | (with_reducible refine Kd.C_drew ?_))); (case side2 => exact (Kd.R_reads' HO340.out).2.1); (case side3 => repeat (first | exact (Kd.C_below HR0.out HB.out) | (with_reducible refine Kd.C_alloc ?_ _) | (with_reducible refine Kd.C_drewN ?_ _) | (with_reducible refine Kd.C_drew ?_))); (case side4 => exact HC0.out); rintro e w' ⟨rfl, ⟨nd, rfl⟩⟩))
                  go_meet
                  case rel => exact ⟨_, (true), (by first | rfl | (simp; done) | (simp [*]; done)), H', ⟨by first | omega | exact Nat.le_refl _⟩, ⟨by (with_reducible repeat (first | apply Kd.R_alloc | apply Kd.R_drewN | apply Kd.R_drew)); exact Kd.R_mono HO327.out (fun _ hk => trivial)⟩, ⟨by repeat (first | (with_reducible first | exact HB.out | apply below_alloc | apply pw_below_drewN | apply below_drew1) | exact HB.out)⟩⟩
              · rw [if_neg c22] at H
                have c22b0 : (t337 == (t324.length : Int)) = false := beq_eq_false_iff_ne.mpr c22
                have c22b1 : (t337 != (t324.length : Int)) = true := bne_iff_ne.mpr c22
                have H' := Aside0.mk H
                clear H
                go_wp2
                go_meet
                case rel => exact ⟨_, (true), (by first | rfl | (simp; done) | (simp [*]; done)), H', ⟨by first | omega | exact Nat.le_refl _⟩, ⟨by (with_reducible repeat (first | apply Kd.R_alloc | apply Kd.R_drewN | apply Kd.R_drew)); exact Kd.R_mono HO327.out (fun _ hk => trivial)⟩, ⟨by repeat (first | (with_reducible first | exact HB.out | apply below_alloc | apply pw_below_drewN | apply below_drew1) | exact HB.out)⟩⟩
            · rw [if_neg c21] at H
              have c21b0 : (t338 == 0) = false := beq_eq_false_iff_ne.mpr c21
              have c21b1 : (t338 != 0) = true := bne_iff_ne.mpr c21
              (first | rw [c21b0] | (simp only [i64_w, i32_w]; rw [c21b0]) | skip)
              have H' := Aside0.mk H
              clear H
              go_wp2
              go_meet
              case rel => exact ⟨_, (true), (by first | rfl | (simp; done) | (simp [*]; done)), H', ⟨by first | omega | exact Nat.le_refl _⟩, ⟨by (with_reducible repeat (first | apply Kd.R_alloc | apply Kd.R_drewN | apply Kd.R_drew)); exact Kd.R_mono HO327.out (fun _ hk => trivial)⟩, ⟨by repeat (first | (with_reducible first | exact HB.out | apply below_alloc | apply pw_below_drewN | apply below_drew1) | exact HB.out)⟩⟩
          case rest =>
            clear HC13
            try clear c1
            try clear c2
            try clear p2
            try clear c5
            try clear c6
            try clear c6b0
            try clear c6b1
            try clear c6b2
            try clear c9
            try clear c9b0
            try clear c9b1
            try clear c10
            try clear c11
            try clear c14
            try clear c16
            try clear c21
            try clear c21b0
            try clear c21b1
            try clear c22
            try clear c22b0
            try clear c22b1
            try clear c24
            obtain ⟨kq, x63_12, rfl, HA, HJ12, HO_7, HB⟩ := hcut
            cases kq with
            | zero => exact absurd HA.out (by simp [tollhouselaw05_HeadBack.j0])
            | succ kj12 =>
              have H := HA.out
              clear HA
              simp only [tollhouselaw05_HeadBack.j0] at H
              by_cases c27 : x63_12 = true
              · subst c27
                have H1 : (some false) = some r := by rw [if_pos rfl] at H; exact H
                clear H
                have H := H1
                clear H1
                obtain rfl := Option.some.inj H
                go_wp2
                go_ret
                exact ⟨by first | rfl | (simp [errW_none, errW_some] <;> rfl) | (simp [*, errW_none, errW_some] <;> rfl), by repeat (first | (with_reducible first | exact HB.out | apply below_alloc | apply pw_below_drewN | apply below_drew1) | exact HB.out)⟩
              · replace c27 := Bool.eq_false_iff.mpr c27
                subst c27
                have H1 : (if (t324.length : Int) = 0 then (none) else (if 0 ≤ (Int.tmod (wrap64 (a2)) (t324.length : Int)) then (if (Int.tmod (wrap64 (a2)) (t324.length : Int)) ≤ (t324.length : Int) then ((head_Parse.f (t324.take ((Int.tmod (wrap64 (a2)) (t324.length : Int)) : Int).toNat)).bind fun bt346 => (if bt346.2.2 = 8 then (if (bt346.1.length : Int) = 0 then (if bt346.2.1 = 0 then ((tollhouselaw05_wakes.f kj12).bind fun t351 => (some t351)) else (some false)) else (some false)) else (some false))) else (none)) else (none))) = some r := by rw [if_neg (show ¬ (false = true) by decide)] at H; exact H
                clear H
                have H := H1
                clear H1
                by_cases c28 : (t324.length : Int) = 0
                · rw [if_pos c28] at H
                  exact absurd H (by simp)
                · rw [if_neg c28] at H
                  have c28b0 : ((t324.length : Int) == 0) = false := beq_eq_false_iff_ne.mpr c28
                  have c28b1 : ((t324.length : Int) != 0) = true := bne_iff_ne.mpr c28
                  have c28b2 : ¬ (t324 = []) := fun h_ => c28 (by rw [h_]; rfl)
                  obtain ⟨ji29, hji29⟩ : ∃ j_ : Int, (Int.tmod (wrap64 (a2)) (t324.length : Int)) = j_ := ⟨_, rfl⟩
                  replace H : (if 0 ≤ (ji29) then (if (ji29) ≤ (t324.length : Int) then ((head_Parse.f (t324.take ((ji29) : Int).toNat)).bind fun bt346 => (if bt346.2.2 = 8 then (if (bt346.1.length : Int) = 0 then (if bt346.2.1 = 0 then ((tollhouselaw05_wakes.f kj12).bind fun t351 => (some t351)) else (some false)) else (some false)) else (some false))) else (none)) else (none)) = some r := by first | (rw [hji29] at H; exact H) | (simp only [hji29] at H ⊢; exact H)
                  by_cases c30 : 0 ≤ (ji29)
                  · rw [if_pos c30] at H
                    have c30b0 := eq_true c30
                    have c30b1 : decide (0 ≤ (ji29)) = true := decide_eq_true c30
                    clear c30
                    by_cases c31 : (ji29) ≤ (t324.length : Int)
                    · rw [if_pos c31] at H
                      have c31b0 := eq_true c31
                      have c31b1 : decide ((ji29) ≤ (t324.length : Int)) = true := decide_eq_true c31
                      clear c31
                      obtain ⟨y342, hy342⟩ : ∃ y_ : List Int, y_ = (t324.take ((ji29) : Int).toNat) := ⟨_, rfl⟩
                      replace H : ((head_Parse.f y342).bind fun bt346 => (if bt346.2.2 = 8 then (if (bt346.1.length : Int) = 0 then (if bt346.2.1 = 0 then ((tollhouselaw05_wakes.f kj12).bind fun t351 => (some t351)) else (some false)) else (some false)) else (some false))) = some r := by first | (rw [hy342]; with_reducible exact H) | (have H2_ := (Option.bind_some _ _).symm.trans H; rw [hy342]; with_reducible exact H2_) | (have H2_ := (Option.bind_some _ _).symm.trans H; with_reducible exact H2_) | with_reducible exact H | (rw [hy342]; exact H) | exact H
                      have Ny342 := Aside0.mk hy342
                      clear hy342
                      replace H := Option.bind_eq_some_iff.mp H
                      obtain ⟨⟨t346, t347, t348⟩, A320, H⟩ := H
                      replace H : (if t348 = 8 then (if (t346.length : Int) = 0 then (if t347 = 0 then ((tollhouselaw05_wakes.f kj12).bind fun t351 => (some t351)) else (some false)) else (some false)) else (some false)) = some r := H
                      have A32 := Aside0.mk A320
                      clear A320
                      by_cases c33 : t348 = 8
                      · rw [if_pos c33] at H
                        have c33b0 : (t348 == 8) = true := beq_iff_eq.mpr c33
                        have c33b1 : (t348 != 8) = false := bne_eq_false_iff_eq.mpr c33
                        clear c33
                        by_cases c34 : (t346.length : Int) = 0
                        · rw [if_pos c34] at H
                          have c34b0 : ((t346.length : Int) == 0) = true := beq_iff_eq.mpr c34
                          have c34b1 : ((t346.length : Int) != 0) = false := bne_eq_false_iff_eq.mpr c34
                          clear c34
                          by_cases c35 : t347 = 0
                          · rw [if_pos c35] at H
                            have c35b0 : (t347 == 0) = true := beq_iff_eq.mpr c35
                            have c35b1 : (t347 != 0) = false := bne_eq_false_iff_eq.mpr c35
                            clear c35
                            replace H := Option.bind_eq_some_iff.mp H
                            obtain ⟨t351, A360, H⟩ := H
                            replace H : (some t351) = some r := H
                            have A36 := Aside0.mk A360
                            clear A360
                            obtain rfl := Option.some.inj H
                            have q37 : ((ji29) : Int) ≤ ((t324.length : Int) : Int) := of_decide_eq_true (by first | (with_reducible assumption) | assumption)
                            obtain ⟨i037, hi037, _, hsz37, _⟩ := info_parts info5
                            have hroom37 : t324.length ≤ co17 := (Kd.R_reads' HO_7.out).2.1
                            have hC37 : Kd.C (Kd.int .u8) _ Ao17 t324.length t324 := (Kd.R_reads' HO_7.out).2.2
                            have hcut37 := cut_to (P := Tryd.prog) 22 5 .i64 Tryd.underlying22 hi037 Ao17 t324.length co17 (ji29) (of_decide_eq_true (by first | (with_reducible assumption) | assumption)) q37 hroom37
                            have hr37 := Kd.C_take (m := ((ji29) : Int).toNat) hC37 (by omega)
                            have hy37 : y342.length = ((ji29) : Int).toNat := (by rw [Ny342.out, List.length_take]; omega)
                            rw [← Ny342.out] at hr37
                            rw [← hy37] at hcut37
                            have HR345 := Aside0.mk hr37
                            have HC345 := Aside0.mk (show y342.length ≤ co17 from by omega)
                            clear hr37 hC37 hroom37 hi037 hsz37
                            have KY37 := Aside0.mk hy37
                            clear hy37
                            have KL37 := Aside0.mk (show ((ji29) : Int).toNat ≤ t324.length from by omega)
                            replace q37 := eq_true q37
                            go_wp2_with (first | ((with_reducible refine gate_callee (f := 9) rfl ?_); refine goesL_ (some 72) rfl rfl Tryd.func9 (by kernel_rfl) rfl #[.slice Ao17 y342.length co17] rfl (by (try simp only [List.map_toArray, List.map_cons, List.map_nil]); first | done | rfl | (simp only [List.length_drop, List.length_take]; rfl)) ?_; (with_reducible refine (head_Parse.calls _ _ y342 t346 t347 t348 _ ?side1 ?side2 A32.out).mono ?_); (case side1 => repeat (first | exact (by repeat (first | (with_reducible exact HR345.out) | (with_reducible refine Kd.C_alloc ?_ _) | (with_reducible refine Kd.C_drewN ?_ _) | (with_reducible refine Kd.C_drew ?_) | exact HR345.out)) | (with_reducible refine Kd.C_alloc ?_ _) | (with_reducible refine Kd.C_drewN ?_ _) | (with_reducible refine Kd.C_drew ?_))); (case side2 => exact HC345.out); rintro e w38 ⟨v349, rfl, ho0, hb⟩; refine ⟨_, rfl, ?_⟩; have n0_ := Aside0.mk (Kd.R_below (by (with_reducible repeat (first | apply Kd.R_alloc | apply Kd.R_drewN | apply Kd.R_drew)); exact HO_7.out) hb); have n1_ := Aside0.mk (Kd.R_lower ho0 (below_size (by repeat (first | (with_reducible first | exact HB.out | apply below_alloc | apply pw_below_drewN | apply below_drew1) | exact HB.out)))); have n2_ := Aside0.mk (Kd.C_below (by repeat (first | (with_reducible exact HR345.out) | (with_reducible refine Kd.C_alloc ?_ _) | (with_reducible refine Kd.C_drewN ?_ _) | (with_reducible refine Kd.C_drew ?_) | exact HR345.out)) hb); have n3_ := Aside0.mk (below_step (by repeat (first | (with_reducible first | exact HB.out | apply below_alloc | apply pw_below_drewN | apply below_drew1) | exact HB.out)) hb); clear HO_7; clear HR345; clear HB; have HO_7 := n0_; have HO350 := n1_; have HR345 := n2_; have HB := n3_; clear n0_ n1_ n2_ n3_; (try clear hb); (try clear hb2); (try clear hk); (try clear hi); (try clear ho0); obtain ⟨Ao39, co39, eo39⟩ := Kd.R_slice HO350.out; subst eo39) | (go_at_call 12; (with_reducible refine (tollhouselaw05_wakes.calls kj12  t351 _ A36.out).mono ?_); rintro e w40 ⟨rfl, hb⟩; have n0_ := Aside0.mk (Kd.R_below (by (with_reducible repeat (first | apply Kd.R_alloc | apply Kd.R_drewN | apply Kd.R_drew)); exact HO_7.out) hb); have n1_ := Aside0.mk (Kd.R_below (by (with_reducible repeat (first | apply Kd.R_alloc | apply Kd.R_drewN | apply Kd.R_drew)); exact HO350.out) hb); have n2_ := Aside0.mk (Kd.C_below (by repeat (first | (with_reducible exact HR345.out) | (with_reducible refine Kd.C_alloc ?_ _) | (with_reducible refine Kd.C_drewN ?_ _) | (with_reducible refine Kd.C_drew ?_) | exact HR345.out)) hb); have n3_ := Aside0.mk (below_step (by repeat (first | (with_reducible first | exact HB.out | apply below_alloc | apply pw_below_drewN | apply below_drew1) | exact HB.out)) hb); clear HO_7; clear HO350; clear HR345; clear HB; have HO_7 := n0_; have HO350 := n1_; have HR345 := n2_; have HB := n3_; clear n0_ n1_ n2_ n3_; (try clear hb); (try clear hb2); (try clear hk); (try clear hi)))
                            go_ret
                            exact ⟨by first | rfl | (simp [errW_none, errW_some] <;> rfl) | (simp only [← hji29]; first | rfl | (simp [errW_none, errW_some] <;> rfl)) | (simp [*, errW_none, errW_some] <;> rfl), by repeat (first | (with_reducible first | exact HB.out | apply below_alloc | apply pw_below_drewN | apply below_drew1) | exact HB.out)⟩
                          · rw [if_neg c35] at H
                            have c35b0 : (t347 == 0) = false := beq_eq_false_iff_ne.mpr c35
                            have c35b1 : (t347 != 0) = true := bne_iff_ne.mpr c35
                            obtain rfl := Option.some.inj H
                            have q41 : ((ji29) : Int) ≤ ((t324.length : Int) : Int) := of_decide_eq_true (by first | (with_reducible assumption) | assumption)
                            obtain ⟨i041, hi041, _, hsz41, _⟩ := info_parts info5
                            have hroom41 : t324.length ≤ co17 := (Kd.R_reads' HO_7.out).2.1
                            have hC41 : Kd.C (Kd.int .u8) _ Ao17 t324.length t324 := (Kd.R_reads' HO_7.out).2.2
                            have hcut41 := cut_to (P := Tryd.prog) 22 5 .i64 Tryd.underlying22 hi041 Ao17 t324.length co17 (ji29) (of_decide_eq_true (by first | (with_reducible assumption) | assumption)) q41 hroom41
                            have hr41 := Kd.C_take (m := ((ji29) : Int).toNat) hC41 (by omega)
                            have hy41 : y342.length = ((ji29) : Int).toNat := (by rw [Ny342.out, List.length_take]; omega)
                            rw [← Ny342.out] at hr41
                            rw [← hy41] at hcut41
                            have HR345 := Aside0.mk hr41
                            have HC345 := Aside0.mk (show y342.length ≤ co17 from by omega)
                            clear hr41 hC41 hroom41 hi041 hsz41
                            have KY41 := Aside0.mk hy41
                            clear hy41
                            have KL41 := Aside0.mk (show ((ji29) : Int).toNat ≤ t324.length from by omega)
                            replace q41 := eq_true q41
                            go_wp2_with (first | ((with_reducible refine gate_callee (f := 9) rfl ?_); refine goesL_ (some 72) rfl rfl Tryd.func9 (by kernel_rfl) rfl #[.slice Ao17 y342.length co17] rfl (by (try simp only [List.map_toArray, List.map_cons, List.map_nil]); first | done | rfl | (simp only [List.length_drop, List.length_take]; rfl)) ?_; (with_reducible refine (head_Parse.calls _ _ y342 t346 t347 t348 _ ?side1 ?side2 A32.out).mono ?_); (case side1 => repeat (first | exact (by repeat (first | (with_reducible exact HR345.out) | (with_reducible refine Kd.C_alloc ?_ _) | (with_reducible refine Kd.C_drewN ?_ _) | (with_reducible refine Kd.C_drew ?_) | exact HR345.out)) | (with_reducible refine Kd.C_alloc ?_ _) | (with_reducible refine Kd.C_drewN ?_ _) | (with_reducible refine Kd.C_drew ?_))); (case side2 => exact HC345.out); rintro e w42 ⟨v349, rfl, ho0, hb⟩; refine ⟨_, rfl, ?_⟩; have n0_ := Aside0.mk (Kd.R_below (by (with_reducible repeat (first | apply Kd.R_alloc | apply Kd.R_drewN | apply Kd.R_drew)); exact HO_7.out) hb); have n1_ := Aside0.mk (Kd.R_lower ho0 (below_size (by repeat (first | (with_reducible first | exact HB.out | apply below_alloc | apply pw_below_drewN | apply below_drew1) | exact HB.out)))); have n2_ := Aside0.mk (Kd.C_below (by repeat (first | (with_reducible exact HR345.out) | (with_reducible refine Kd.C_alloc ?_ _) | (with_reducible refine Kd.C_drewN ?_ _) | (with_reducible refine Kd.C_drew ?_) | exact HR345.out)) hb); have n3_ := Aside0.mk (below_step (by repeat (first | (with_reducible first | exact HB.out | apply below_alloc | apply pw_below_drewN | apply below_drew1) | exact HB.out)) hb); clear HO_7; clear HR345; clear HB; have HO_7 := n0_; have HO350 := n1_; have HR345 := n2_; have HB := n3_; clear n0_ n1_ n2_ n3_; (try clear hb); (try clear hb2); (try clear hk); (try clear hi); (try clear ho0); obtain ⟨Ao43, co43, eo43⟩ := Kd.R_slice HO350.out; subst eo43))
                            go_ret
                            exact ⟨by first | rfl | (simp [errW_none, errW_some] <;> rfl) | (simp only [← hji29]; first | rfl | (simp [errW_none, errW_some] <;> rfl)) | (simp [*, errW_none, errW_some] <;> rfl), by repeat (first | (with_reducible first | exact HB.out | apply below_alloc | apply pw_below_drewN | apply below_drew1) | exact HB.out)⟩
                        · rw [if_neg c34] at H
                          have c34b0 : ((t346.length : Int) == 0) = false := beq_eq_false_iff_ne.mpr c34
                          have c34b1 : ((t346.length : Int) != 0) = true := bne_iff_ne.mpr c34
                          have c34b2 : ¬ (t346 = []) := fun h_ => c34 (by rw [h_]; rfl)
                          obtain rfl := Option.some.inj H
                          have q44 : ((ji29) : Int) ≤ ((t324.length : Int) : Int) := of_decide_eq_true (by first | (with_reducible assumption) | assumption)
                          obtain ⟨i044, hi044, _, hsz44, _⟩ := info_parts info5
                          have hroom44 : t324.length ≤ co17 := (Kd.R_reads' HO_7.out).2.1
                          have hC44 : Kd.C (Kd.int .u8) _ Ao17 t324.length t324 := (Kd.R_reads' HO_7.out).2.2
                          have hcut44 := cut_to (P := Tryd.prog) 22 5 .i64 Tryd.underlying22 hi044 Ao17 t324.length co17 (ji29) (of_decide_eq_true (by first | (with_reducible assumption) | assumption)) q44 hroom44
                          have hr44 := Kd.C_take (m := ((ji29) : Int).toNat) hC44 (by omega)
                          have hy44 : y342.length = ((ji29) : Int).toNat := (by rw [Ny342.out, List.length_take]; omega)
                          rw [← Ny342.out] at hr44
                          rw [← hy44] at hcut44
                          have HR345 := Aside0.mk hr44
                          have HC345 := Aside0.mk (show y342.length ≤ co17 from by omega)
                          clear hr44 hC44 hroom44 hi044 hsz44
                          have KY44 := Aside0.mk hy44
                          clear hy44
                          have KL44 := Aside0.mk (show ((ji29) : Int).toNat ≤ t324.length from by omega)
                          replace q44 := eq_true q44
                          go_wp2_with (first | ((with_reducible refine gate_callee (f := 9) rfl ?_); refine goesL_ (some 72) rfl rfl Tryd.func9 (by kernel_rfl) rfl #[.slice Ao17 y342.length co17] rfl (by (try simp only [List.map_toArray, List.map_cons, List.map_nil]); first | done | rfl | (simp only [List.length_drop, List.length_take]; rfl)) ?_; (with_reducible refine (head_Parse.calls _ _ y342 t346 t347 t348 _ ?side1 ?side2 A32.out).mono ?_); (case side1 => repeat (first | exact (by repeat (first | (with_reducible exact HR345.out) | (with_reducible refine Kd.C_alloc ?_ _) | (with_reducible refine Kd.C_drewN ?_ _) | (with_reducible refine Kd.C_drew ?_) | exact HR345.out)) | (with_reducible refine Kd.C_alloc ?_ _) | (with_reducible refine Kd.C_drewN ?_ _) | (with_reducible refine Kd.C_drew ?_))); (case side2 => exact HC345.out); rintro e w45 ⟨v349, rfl, ho0, hb⟩; refine ⟨_, rfl, ?_⟩; have n0_ := Aside0.mk (Kd.R_below (by (with_reducible repeat (first | apply Kd.R_alloc | apply Kd.R_drewN | apply Kd.R_drew)); exact HO_7.out) hb); have n1_ := Aside0.mk (Kd.R_lower ho0 (below_size (by repeat (first | (with_reducible first | exact HB.out | apply below_alloc | apply pw_below_drewN | apply below_drew1) | exact HB.out)))); have n2_ := Aside0.mk (Kd.C_below (by repeat (first | (with_reducible exact HR345.out) | (with_reducible refine Kd.C_alloc ?_ _) | (with_reducible refine Kd.C_drewN ?_ _) | (with_reducible refine Kd.C_drew ?_) | exact HR345.out)) hb); have n3_ := Aside0.mk (below_step (by repeat (first | (with_reducible first | exact HB.out | apply below_alloc | apply pw_below_drewN | apply below_drew1) | exact HB.out)) hb); clear HO_7; clear HR345; clear HB; have HO_7 := n0_; have HO350 := n1_; have HR345 := n2_; have HB := n3_; clear n0_ n1_ n2_ n3_; (try clear hb); (try clear hb2); (try clear hk); (try clear hi); (try clear ho0); obtain ⟨Ao46, co46, eo46⟩ := Kd.R_slice HO350.out; subst eo46))
                          go_ret
                          exact ⟨by first | rfl | (simp [errW_none, errW_some] <;> rfl) | (simp only [← hji29]; first | rfl | (simp [errW_none, errW_some] <;> rfl)) | (simp [*, errW_none, errW_some] <;> rfl), by repeat (first | (with_reducible first | exact HB.out | apply below_alloc | apply pw_below_drewN | apply below_drew1) | exact HB.out)⟩
                      · rw [if_neg c33] at H
                        have c33b0 : (t348 == 8) = false := beq_eq_false_iff_ne.mpr c33
                        have c33b1 : (t348 != 8) = true := bne_iff_ne.mpr c33
                        obtain rfl := Option.some.inj H
                        have q47 : ((ji29) : Int) ≤ ((t324.length : Int) : Int) := of_decide_eq_true (by first | (with_reducible assumption) | assumption)
                        obtain ⟨i047, hi047, _, hsz47, _⟩ := info_parts info5
                        have hroom47 : t324.length ≤ co17 := (Kd.R_reads' HO_7.out).2.1
                        have hC47 : Kd.C (Kd.int .u8) _ Ao17 t324.length t324 := (Kd.R_reads' HO_7.out).2.2
                        have hcut47 := cut_to (P := Tryd.prog) 22 5 .i64 Tryd.underlying22 hi047 Ao17 t324.length co17 (ji29) (of_decide_eq_true (by first | (with_reducible assumption) | assumption)) q47 hroom47
                        have hr47 := Kd.C_take (m := ((ji29) : Int).toNat) hC47 (by omega)
                        have hy47 : y342.length = ((ji29) : Int).toNat := (by rw [Ny342.out, List.length_take]; omega)
                        rw [← Ny342.out] at hr47
                        rw [← hy47] at hcut47
                        have HR345 := Aside0.mk hr47
                        have HC345 := Aside0.mk (show y342.length ≤ co17 from by omega)
                        clear hr47 hC47 hroom47 hi047 hsz47
                        have KY47 := Aside0.mk hy47
                        clear hy47
                        have KL47 := Aside0.mk (show ((ji29) : Int).toNat ≤ t324.length from by omega)
                        replace q47 := eq_true q47
                        go_wp2_with (first | ((with_reducible refine gate_callee (f := 9) rfl ?_); refine goesL_ (some 72) rfl rfl Tryd.func9 (by kernel_rfl) rfl #[.slice Ao17 y342.length co17] rfl (by (try simp only [List.map_toArray, List.map_cons, List.map_nil]); first | done | rfl | (simp only [List.length_drop, List.length_take]; rfl)) ?_; (with_reducible refine (head_Parse.calls _ _ y342 t346 t347 t348 _ ?side1 ?side2 A32.out).mono ?_); (case side1 => repeat (first | exact (by repeat (first | (with_reducible exact HR345.out) | (with_reducible refine Kd.C_alloc ?_ _) | (with_reducible refine Kd.C_drewN ?_ _) | (with_reducible refine Kd.C_drew ?_) | exact HR345.out)) | (with_reducible refine Kd.C_alloc ?_ _) | (with_reducible refine Kd.C_drewN ?_ _) | (with_reducible refine Kd.C_drew ?_))); (case side2 => exact HC345.out); rintro e w48 ⟨v349, rfl, ho0, hb⟩; refine ⟨_, rfl, ?_⟩; have n0_ := Aside0.mk (Kd.R_below (by (with_reducible repeat (first | apply Kd.R_alloc | apply Kd.R_drewN | apply Kd.R_drew)); exact HO_7.out) hb); have n1_ := Aside0.mk (Kd.R_lower ho0 (below_size (by repeat (first | (with_reducible first | exact HB.out | apply below_alloc | apply pw_below_drewN | apply below_drew1) | exact HB.out)))); have n2_ := Aside0.mk (Kd.C_below (by repeat (first | (with_reducible exact HR345.out) | (with_reducible refine Kd.C_alloc ?_ _) | (with_reducible refine Kd.C_drewN ?_ _) | (with_reducible refine Kd.C_drew ?_) | exact HR345.out)) hb); have n3_ := Aside0.mk (below_step (by repeat (first | (with_reducible first | exact HB.out | apply below_alloc | apply pw_below_drewN | apply below_drew1) | exact HB.out)) hb); clear HO_7; clear HR345; clear HB; have HO_7 := n0_; have HO350 := n1_; have HR345 := n2_; have HB := n3_; clear n0_ n1_ n2_ n3_; (try clear hb); (try clear hb2); (try clear hk); (try clear hi); (try clear ho0)))
                        go_ret
                        exact ⟨by first | rfl | (simp [errW_none, errW_some] <;> rfl) | (simp only [← hji29]; first | rfl | (simp [errW_none, errW_some] <;> rfl)) | (simp [*, errW_none, errW_some] <;> rfl), by repeat (first | (with_reducible first | exact HB.out | apply below_alloc | apply pw_below_drewN | apply below_drew1) | exact HB.out)⟩
                    · rw [if_neg c31] at H
                      exact absurd H (by simp)
                  · rw [if_neg c30] at H
                    exact absurd H (by simp)
        · rw [if_neg c11] at H
          exact absurd H (by simp)
      · rw [if_neg c10] at H
        exact absurd H (by simp)
    · rw [if_neg c9] at H
      have c9b0 : (t325 == 0) = false := beq_eq_false_iff_ne.mpr c9
      have c9b1 : (t325 != 0) = true := bne_iff_ne.mpr c9
      by_cases c49 : t325 = 1
      · rw [if_pos c49] at H
        have c49b0 : (t325 == 1) = true := beq_iff_eq.mpr c49
        have c49b1 : (t325 != 1) = false := bne_eq_false_iff_eq.mpr c49
        clear c49
        by_cases c50 : (t324.length : Int) = 0
        · rw [if_pos c50] at H
          have c50b0 : ((t324.length : Int) == 0) = true := beq_iff_eq.mpr c50
          have c50b1 : ((t324.length : Int) != 0) = false := bne_eq_false_iff_eq.mpr c50
          clear c50
          replace H := Option.bind_eq_some_iff.mp H
          obtain ⟨t329, A510, H⟩ := H
          replace H : (some t329) = some r := H
          have A51 := Aside0.mk A510
          clear A510
          obtain rfl := Option.some.inj H
          (try have e328 := (bne_eq_false_iff_eq.1 c6b0).symm)
          (try rw [c9b0] at e328)
          (try have e328n : (!t328) = false := congrArg not e328)
          (try have e328m : (!t328) = true := congrArg not e328)
          go_enter Tryd.func5, Tryd.ntmps5
          go_wp2_with (first | ((with_reducible refine gate_callee (f := 14) rfl ?_); refine goesL_ (some 17) rfl rfl Tryd.func14 (by kernel_rfl) rfl #[.slice A0 l0.length c0] rfl (by (try simp only [List.map_toArray, List.map_cons, List.map_nil]); first | done | rfl | (simp only [List.length_drop, List.length_take]; rfl)) ?_; (with_reducible refine (head_Put.calls k _ _ l0 t324 t325 _ ?side1 ?side2 A4.out).mono ?_); (case side1 => repeat (first | exact HR0.out | (with_reducible refine Kd.C_alloc ?_ _) | (with_reducible refine Kd.C_drewN ?_ _) | (with_reducible refine Kd.C_drew ?_))); (case side2 => exact HC0.out); rintro e w52 ⟨v326, rfl, ho0, hb⟩; refine ⟨_, rfl, ?_⟩; have n0_ := Aside0.mk (Kd.R_lower ho0 (below_size (by repeat (first | (with_reducible first | exact HB.out | apply below_alloc | apply pw_below_drewN | apply below_drew1) | exact HB.out)))); have n1_ := Aside0.mk (below_step (by repeat (first | (with_reducible first | exact HB.out | apply below_alloc | apply pw_below_drewN | apply below_drew1) | exact HB.out)) hb); clear HB; have HO327 := n0_; have HB := n1_; clear n0_ n1_; (try clear hb); (try clear hb2); (try clear hk); (try clear hi); (try clear ho0)) | ((with_reducible refine gate_callee (f := 16) rfl ?_); refine goesL_ (some 23) rfl rfl Tryd.func16 (by kernel_rfl) rfl #[.slice A0 l0.length c0] rfl (by (try simp only [List.map_toArray, List.map_cons, List.map_nil]); first | done | rfl | (simp only [List.length_drop, List.length_take]; rfl)) ?_; (with_reducible refine (head_May.calls _ _ l0 t328 _ ?side1 ?side2 A5.out).mono ?_); (case side1 => repeat (first | exact (Kd.C_below HR0.out HB.out) | (with_reducible refine Kd.C_alloc ?_ _) | (with_reducible refine Kd.C_drewN ?_ _) | (with_reducible refine Kd.C_drew ?_))); (case side2 => exact HC0.out); rintro e w53 ⟨rfl, hb⟩; refine ⟨_, rfl, ?_⟩; have n0_ := Aside0.mk (Kd.R_below (by (with_reducible repeat (first | apply Kd.R_alloc | apply Kd.R_drewN | apply Kd.R_drew)); exact HO327.out) hb); have n1_ := Aside0.mk (below_step (by repeat (first | (with_reducible first | exact HB.out | apply below_alloc | apply pw_below_drewN | apply below_drew1) | exact HB.out)) hb); clear HO327; clear HB; have HO327 := n0_; have HB := n1_; clear n0_ n1_; (try clear hb); (try clear hb2); (try clear hk); (try clear hi); obtain ⟨Ao54, co54, eo54⟩ := Kd.R_slice HO327.out; subst eo54) | (go_at_call 12; (with_reducible refine (tollhouselaw05_wakes.calls k  t329 _ A51.out).mono ?_); rintro e w55 ⟨rfl, hb⟩; have n0_ := Aside0.mk (Kd.R_below (by (with_reducible repeat (first | apply Kd.R_alloc | apply Kd.R_drewN | apply Kd.R_drew)); exact HO327.out) hb); have n1_ := Aside0.mk (below_step (by repeat (first | (with_reducible first | exact HB.out | apply below_alloc | apply pw_below_drewN | apply below_drew1) | exact HB.out)) hb); clear HO327; clear HB; have HO327 := n0_; have HB := n1_; clear n0_ n1_; (try clear hb); (try clear hb2); (try clear hk); (try clear hi)))
          go_ret
          exact ⟨by first | rfl | (simp [errW_none, errW_some] <;> rfl) | (simp [*, errW_none, errW_some] <;> rfl), by repeat (first | (with_reducible first | exact HB.out | apply below_alloc | apply pw_below_drewN | apply below_drew1) | exact HB.out)⟩
        · rw [if_neg c50] at H
          have c50b0 : ((t324.length : Int) == 0) = false := beq_eq_false_iff_ne.mpr c50
          have c50b1 : ((t324.length : Int) != 0) = true := bne_iff_ne.mpr c50
          have c50b2 : ¬ (t324 = []) := fun h_ => c50 (by rw [h_]; rfl)
          obtain rfl := Option.some.inj H
          (try have e328 := (bne_eq_false_iff_eq.1 c6b0).symm)
          (try rw [c9b0] at e328)
          (try have e328n : (!t328) = false := congrArg not e328)
          (try have e328m : (!t328) = true := congrArg not e328)
          go_enter Tryd.func5, Tryd.ntmps5
          go_wp2_with (first | ((with_reducible refine gate_callee (f := 14) rfl ?_); refine goesL_ (some 17) rfl rfl Tryd.func14 (by kernel_rfl) rfl #[.slice A0 l0.length c0] rfl (by (try simp only [List.map_toArray, List.map_cons, List.map_nil]); first | done | rfl | (simp only [List.length_drop, List.length_take]; rfl)) ?_; (with_reducible refine (head_Put.calls k _ _ l0 t324 t325 _ ?side1 ?side2 A4.out).mono ?_); (case side1 => repeat (first | exact HR0.out | (with_reducible refine Kd.C_alloc ?_ _) | (with_reducible refine Kd.C_drewN ?_ _) | (with_reducible refine Kd.C_drew ?_))); (case side2 => exact HC0.out); rintro e w56 ⟨v326, rfl, ho0, hb⟩; refine ⟨_, rfl, ?_⟩; have n0_ := Aside0.mk (Kd.R_lower ho0 (below_size (by repeat (first | (with_reducible first | exact HB.out | apply below_alloc | apply pw_below_drewN | apply below_drew1) | exact HB.out)))); have n1_ := Aside0.mk (below_step (by repeat (first | (with_reducible first | exact HB.out | apply below_alloc | apply pw_below_drewN | apply below_drew1) | exact HB.out)) hb); clear HB; have HO327 := n0_; have HB := n1_; clear n0_ n1_; (try clear hb); (try clear hb2); (try clear hk); (try clear hi); (try clear ho0)) | ((with_reducible refine gate_callee (f := 16) rfl ?_); refine goesL_ (some 23) rfl rfl Tryd.func16 (by kernel_rfl) rfl #[.slice A0 l0.length c0] rfl (by (try simp only [List.map_toArray, List.map_cons, List.map_nil]); first | done | rfl | (simp only [List.length_drop, List.length_take]; rfl)) ?_; (with_reducible refine (head_May.calls _ _ l0 t328 _ ?side1 ?side2 A5.out).mono ?_); (case side1 => repeat (first | exact (Kd.C_below HR0.out HB.out) | (with_reducible refine Kd.C_alloc ?_ _) | (with_reducible refine Kd.C_drewN ?_ _) | (with_reducible refine Kd.C_drew ?_))); (case side2 => exact HC0.out); rintro e w57 ⟨rfl, hb⟩; refine ⟨_, rfl, ?_⟩; have n0_ := Aside0.mk (Kd.R_below (by (with_reducible repeat (first | apply Kd.R_alloc | apply Kd.R_drewN | apply Kd.R_drew)); exact HO327.out) hb); have n1_ := Aside0.mk (below_step (by repeat (first | (with_reducible first | exact HB.out | apply below_alloc | apply pw_below_drewN | apply below_drew1) | exact HB.out)) hb); clear HO327; clear HB; have HO327 := n0_; have HB := n1_; clear n0_ n1_; (try clear hb); (try clear hb2); (try clear hk); (try clear hi); obtain ⟨Ao58, co58, eo58⟩ := Kd.R_slice HO327.out; subst eo58))
          go_ret
          exact ⟨by first | rfl | (simp [errW_none, errW_some] <;> rfl) | (simp [*, errW_none, errW_some] <;> rfl), by repeat (first | (with_reducible first | exact HB.out | apply below_alloc | apply pw_below_drewN | apply below_drew1) | exact HB.out)⟩
      · rw [if_neg c49] at H
        have c49b0 : (t325 == 1) = false := beq_eq_false_iff_ne.mpr c49
        have c49b1 : (t325 != 1) = true := bne_iff_ne.mpr c49
        obtain rfl := Option.some.inj H
        (try have e328 := (bne_eq_false_iff_eq.1 c6b0).symm)
        (try rw [c9b0] at e328)
        (try have e328n : (!t328) = false := congrArg not e328)
        (try have e328m : (!t328) = true := congrArg not e328)
        go_enter Tryd.func5, Tryd.ntmps5
        go_wp2_with (first | ((with_reducible refine gate_callee (f := 14) rfl ?_); refine goesL_ (some 17) rfl rfl Tryd.func14 (by kernel_rfl) rfl #[.slice A0 l0.length c0] rfl (by (try simp only [List.map_toArray, List.map_cons, List.map_nil]); first | done | rfl | (simp only [List.length_drop, List.length_take]; rfl)) ?_; (with_reducible refine (head_Put.calls k _ _ l0 t324 t325 _ ?side1 ?side2 A4.out).mono ?_); (case side1 => repeat (first | exact HR0.out | (with_reducible refine Kd.C_alloc ?_ _) | (with_reducible refine Kd.C_drewN ?_ _) | (with_reducible refine Kd.C_drew ?_))); (case side2 => exact HC0.out); rintro e w59 ⟨v326, rfl, ho0, hb⟩; refine ⟨_, rfl, ?_⟩; have n0_ := Aside0.mk (Kd.R_lower ho0 (below_size (by repeat (first | (with_reducible first | exact HB.out | apply below_alloc | apply pw_below_drewN | apply below_drew1) | exact HB.out)))); have n1_ := Aside0.mk (below_step (by repeat (first | (with_reducible first | exact HB.out | apply below_alloc | apply pw_below_drewN | apply below_drew1) | exact HB.out)) hb); clear HB; have HO327 := n0_; have HB := n1_; clear n0_ n1_; (try clear hb); (try clear hb2); (try clear hk); (try clear hi); (try clear ho0)) | ((with_reducible refine gate_callee (f := 16) rfl ?_); refine goesL_ (some 23) rfl rfl Tryd.func16 (by kernel_rfl) rfl #[.slice A0 l0.length c0] rfl (by (try simp only [List.map_toArray, List.map_cons, List.map_nil]); first | done | rfl | (simp only [List.length_drop, List.length_take]; rfl)) ?_; (with_reducible refine (head_May.calls _ _ l0 t328 _ ?side1 ?side2 A5.out).mono ?_); (case side1 => repeat (first | exact (Kd.C_below HR0.out HB.out) | (with_reducible refine Kd.C_alloc ?_ _) | (with_reducible refine Kd.C_drewN ?_ _) | (with_reducible refine Kd.C_drew ?_))); (case side2 => exact HC0.out); rintro e w60 ⟨rfl, hb⟩; refine ⟨_, rfl, ?_⟩; have n0_ := Aside0.mk (Kd.R_below (by (with_reducible repeat (first | apply Kd.R_alloc | apply Kd.R_drewN | apply Kd.R_drew)); exact HO327.out) hb); have n1_ := Aside0.mk (below_step (by repeat (first | (with_reducible first | exact HB.out | apply below_alloc | apply pw_below_drewN | apply below_drew1) | exact HB.out)) hb); clear HO327; clear HB; have HO327 := n0_; have HB := n1_; clear n0_ n1_; (try clear hb); (try clear hb2); (try clear hk); (try clear hi)))
        go_ret
        exact ⟨by first | rfl | (simp [errW_none, errW_some] <;> rfl) | (simp [*, errW_none, errW_some] <;> rfl), by repeat (first | (with_reducible first | exact HB.out | apply below_alloc | apply pw_below_drewN | apply below_drew1) | exact HB.out)⟩

end Go.Proofs.YtdofgilfmgdpkaaDoor.P
