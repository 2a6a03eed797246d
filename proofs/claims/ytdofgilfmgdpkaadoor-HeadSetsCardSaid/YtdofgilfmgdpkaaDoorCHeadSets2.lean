/- tollhouse, the law 'HeadSets': part 2 of 4 of its proof: walks of functions that it reaches, and plain laws of what they compute. Conditions: none but those that each theorem names. -/
import Derived.Test.YtdofgilfmgdpkaaDoorCHeadSets1
import Derived.StillTailTactics
import Derived.ScopeJumps
import Derived.WalkMore
import Derived.Lib.SlBytesConst
set_option linter.unusedVariables false
set_option linter.unusedSimpArgs false

namespace Go.Proofs.YtdofgilfmgdpkaaDoor.P
open Go.RowKit Go.Proofs.YtdofgilfmgdpkaaDoorW.PrintWords Go.Proofs.YtdofgilfmgdpkaaDoorW.PrintLast Go.Proofs.YtdofgilfmgdpkaaDoorW.PrintMore
attribute [local go_sem] max2_int min2_int max_two min_two max_three min_three max_four min_four
set_option linter.unusedVariables false
set_option linter.unusedSimpArgs false

/-! ### head_May_1: function 36 -/
def head_May_1.f (a0_0 : ByteArray) (a0_1 : ByteArray) : Option (Bool) := (text_Token.f a0_0).bind fun t417 => (if t417 = true then ((text_Visible.f a0_1).bind fun t418 => (if t418 = true then ((text_Trim.f a0_1).bind fun t419 => (if t419.toList = a0_1.toList then (some (decide ((wrap64 ((wrap64 ((a0_0.size : Int) + 2)) + (a0_1.size : Int))) > 512))) else (some true))) else (some true))) else (some true))
def head_May_1.T1 : Bool × List (List Nat × List Nat) := (true, [([], []), ([0], [0]), ([1], [1]), ([2], [2]), ([3, 2], [3]), ([4], [4]), ([5, 4], [4, 5]), ([6, 4, 4], [4, 6]), ([7, 4], [4, 7]), ([4, 8], [4, 8]), ([9, 7], [9]), ([10], [10]), ([11, 10], [10, 11]), ([12, 10, 10], [10, 12]), ([10], [10]), ([14, 10], [10, 14]), ([13, 15, 10], [10, 13, 15]), ([10, 16], [10, 16]), ([17, 13], [17]), ([18], [18]), ([19, 18], [18, 19]), ([20, 18], [18, 20]), ([21, 18], [18, 21]), ([18], [18]), ([23, 18], [18, 23]), ([24, 18], [18, 24]), ([22, 25, 18], [18, 22, 25]), ([26, 18], [18, 26]), ([18, 27], [18, 27]), ([28, 18, 0, 1, 2, 3, 4, 5, 6, 7, 8, 9, 10, 11, 12, 13, 14, 15, 16, 17, 18, 19, 20, 21, 22, 23, 24, 25, 26, 27, 28], [28])])
def head_May_1.B1 : List Nat := [0, 1, 3, 7, 15, 31, 63, 127, 255, 511, 1023, 2047, 4095, 8191, 2047, 18431, 65535, 131071, 262143, 524287, 1048575, 2097151, 4194303, 524287, 8912895, 25690111, 67108863, 134217727, 268435455, 536870911]
theorem head_May_1.tab1 : rtab .any (opsOf Tryd.f36 1) = head_May_1.T1 := by kernel_rfl
theorem head_May_1.bits1 : waitsOk head_May_1.T1.2 head_May_1.B1 = true := by kernel_rfl
set_option maxHeartbeats 8000000 in
set_option maxRecDepth 100000 in
theorem head_May_1.calls (a0_0 : ByteArray) (a0_1 : ByteArray) (r : Bool) (w : World) (h : head_May_1.f a0_0 a0_1 = some r) :
    Calls Tryd.prog 36 #[.agg #[.string a0_0, .string a0_1]] w fun e w' => e = .returned (.bool r) ∧ Below w.heap.size w w' := by
  have hu45 := Tryd.underlying45
  have HB := Aside0.mk (Below.refl w.heap.size w)
  have H : ((text_Token.f a0_0).bind fun t417 => (if t417 = true then ((text_Visible.f a0_1).bind fun t418 => (if t418 = true then ((text_Trim.f a0_1).bind fun t419 => (if t419.toList = a0_1.toList then (some (decide ((wrap64 ((wrap64 ((a0_0.size : Int) + 2)) + (a0_1.size : Int))) > 512))) else (some true))) else (some true))) else (some true))) = some r := h
  clear h
  replace H := Option.bind_eq_some_iff.mp H
  obtain ⟨t417, A20, H⟩ := H
  replace H : (if t417 = true then ((text_Visible.f a0_1).bind fun t418 => (if t418 = true then ((text_Trim.f a0_1).bind fun t419 => (if t419.toList = a0_1.toList then (some (decide ((wrap64 ((wrap64 ((a0_0.size : Int) + 2)) + (a0_1.size : Int))) > 512))) else (some true))) else (some true))) else (some true)) = some r := H
  have A2 := Aside0.mk A20
  clear A20
  by_cases c3 : t417 = true
  · subst c3
    have H1 : ((text_Visible.f a0_1).bind fun t418 => (if t418 = true then ((text_Trim.f a0_1).bind fun t419 => (if t419.toList = a0_1.toList then (some (decide ((wrap64 ((wrap64 ((a0_0.size : Int) + 2)) + (a0_1.size : Int))) > 512))) else (some true))) else (some true))) = some r := by rw [if_pos rfl] at H; exact H
    clear H
    have H := H1
    clear H1
    replace H := Option.bind_eq_some_iff.mp H
    obtain ⟨t418, A40, H⟩ := H
    replace H : (if t418 = true then ((text_Trim.f a0_1).bind fun t419 => (if t419.toList = a0_1.toList then (some (decide ((wrap64 ((wrap64 ((a0_0.size : Int) + 2)) + (a0_1.size : Int))) > 512))) else (some true))) else (some true)) = some r := H
    have A4 := Aside0.mk A40
    clear A40
    by_cases c5 : t418 = true
    · subst c5
      have H1 : ((text_Trim.f a0_1).bind fun t419 => (if t419.toList = a0_1.toList then (some (decide ((wrap64 ((wrap64 ((a0_0.size : Int) + 2)) + (a0_1.size : Int))) > 512))) else (some true))) = some r := by rw [if_pos rfl] at H; exact H
      clear H
      have H := H1
      clear H1
      replace H := Option.bind_eq_some_iff.mp H
      obtain ⟨t419, A60, H⟩ := H
      replace H : (if t419.toList = a0_1.toList then (some (decide ((wrap64 ((wrap64 ((a0_0.size : Int) + 2)) + (a0_1.size : Int))) > 512))) else (some true)) = some r := H
      have A6 := Aside0.mk A60
      clear A60
      by_cases c7 : t419.toList = a0_1.toList
      · rw [if_pos c7] at H
        have c7b0 : (t419.toList == a0_1.toList) = true := beq_iff_eq.mpr c7
        have c7b1 : (t419.toList != a0_1.toList) = false := bne_eq_false_iff_eq.mpr c7
        clear c7
        obtain rfl := Option.some.inj H
        go_enter Tryd.func36, Tryd.ntmps36
        try go_wp2_with (first | ((with_reducible refine gate_dst (N := 1) rfl ?_); (try (refine gate_guard (by rfl) ?_; dsimp only)); refine box_event ?hg (N := 1) ?hd (cs := #[.string a0_0, .string a0_1]) (t := 45) ?hr ?_; (case hd => rfl); (case hg => rfl); (case hr => first | (go_simp; done) | (go_simp; rfl)); intro gb416 hg w8 hbox hb; have n0_ := Aside0.mk (below_step (by repeat (first | (with_reducible first | exact HB.out | apply below_alloc | apply pw_below_drewN | apply below_drew1) | exact HB.out)) hb); have n1_ := Aside0.mk (hbox); have n2_ := Aside0.mk ((by rw [hg]; exact (below_size (by repeat (first | (with_reducible first | exact HB.out | apply below_alloc | apply pw_below_drewN | apply below_drew1) | exact HB.out))) : w.heap.size ≤ gb416)); have n3_ := Aside0.mk ((by rw [hg]; exact (below_size (by repeat (first | (with_reducible first | exact HB.out | apply below_alloc | apply pw_below_drewN | apply below_drew1) | exact HB.out))) : w.heap.size ≤ gb416)); clear HB; have HB := n0_; have BK416 := n1_; have GW416 := n2_; have GE416 := n3_; clear n0_ n1_ n2_ n3_; clear hb hbox hg))
        have n0_ := Aside0.mk (blk_drew BK416.out)
        have n1_ := Aside0.mk (below_drew1 HB.out)
        clear BK416
        clear HB
        have BK416 := n0_
        have HB := n1_
        clear n0_ n1_
        refine start_ (n := 30) (S := fun w' => w'.cell? ⟨gb416, 0, none⟩ = some (.string a0_0) ∧ w'.cell? ⟨gb416, 1, none⟩ = some (.string a0_1)) (ds := []) #[false, false, false, false, false, false, false, false, false, false, false, false, false, false, false, false, false, false, false, false, false, false, false, false, false, false, false, false, false, false] (by kernel_rfl) rfl rfl ⟨(blk_cell BK416.out 0).trans rfl, (blk_cell BK416.out 1).trans rfl⟩ (fun hHeld => ?_); refine with_tabW head_May_1.tab1 head_May_1.bits1 (fun HT_ HW_ => ?_)
        generalize w8.drew = w9 at BK416 HB hHeld ⊢
        refine pure_ (i := 0) (N := some 3) (v := ?_) (a' := ?_) #[true, false, false, false, false, false, false, false, false, false, false, false, false, false, false, false, false, false, false, false, false, false, false, false, false, false, false, false, false, false] rfl rfl (any_of HT_.out (by kernel_rfl)) (fun _ _ _ h => h) (Or.inl ⟨by rfl, ?_⟩) ?_ ?_
        rotate_left
        · intro w'
          go_simp
          with_reducible rfl
        rotate_left
        · simp only [Act.put, List.setIfInBounds_toArray, List.set_cons_zero, List.set_cons_succ, i64_w, i32_w]
          rfl
        refine take_ (i := 1) (N := some 4) (v := ?_) (a' := ?_) #[true, true, false, false, false, false, false, false, false, false, false, false, false, false, false, false, false, false, false, false, false, false, false, false, false, false, false, false, false, false] rfl rfl (take_ofW HT_.out HW_.out (by kernel_rfl)) (fun _ _ _ h => h) (Or.inl ⟨by rfl, ?_⟩) hHeld ?_ ?_
        rotate_left
        · rintro w' ⟨s0, s1⟩
          go_simp
          with_reducible rfl
        rotate_left
        · simp only [Act.put, List.setIfInBounds_toArray, List.set_cons_zero, List.set_cons_succ, i64_w, i32_w]
          rfl
        refine one_ (i := 2) (N := some 5) #[true, true, true, false, false, false, false, false, false, false, false, false, false, false, false, false, false, false, false, false, false, false, false, false, false, false, false, false, false, false] rfl rfl (one_of HT_.out (by kernel_rfl)) (by decide) (fun K hK => ?_)
        refine goes_ Tryd.func25 (by kernel_rfl) rfl #[.string a0_0] (by rfl) rfl rfl (by (try simp only [List.map_toArray, List.map_cons, List.map_nil]); first | done | rfl | (simp only [List.length_drop, List.length_take]; rfl)) ?_
        with_reducible refine (text_Token.calls a0_0 true _ A2.out).mono ?_
        rintro e w10 ⟨rfl, hb⟩
        refine ⟨_, rfl, ?_⟩
        have n0_ := Aside0.mk (blk_below (g := gb416) (o := .cells #[.string a0_0, .string a0_1] 45 (0, 0)) (by (with_reducible repeat (first | refine blk_drewN ?_ _ | refine blk_drew ?_ | refine blk_alloc ?_ _)); exact BK416.out) hb)
        have n1_ := Aside0.mk (below_step (by repeat (first | (with_reducible first | exact HB.out | apply below_alloc | apply pw_below_drewN | apply below_drew1 | refine below_set ?_ GE416.out) | exact HB.out)) hb)
        clear BK416
        clear HB
        have BK416 := n0_
        have HB := n1_
        clear n0_ n1_
        (try clear hb)
        (try clear hb2)
        (try clear hk)
        (try clear hi)
        refine hK.out _ _ ⟨(blk_cell BK416.out 0).trans rfl, (blk_cell BK416.out 1).trans rfl⟩ (fun hHeld => ?_)
        clear hK K
        refine norm_ (a' := ?_) ?_ ?_
        rotate_left
        · show Act.put _ (some 5) _ = _
          simp only [Act.put, List.setIfInBounds_toArray, List.set_cons_zero, List.set_cons_succ, i64_w, i32_w]
          rfl
        refine pure_ (i := 3) (N := some 6) (v := ?_) (a' := ?_) #[true, true, true, true, false, false, false, false, false, false, false, false, false, false, false, false, false, false, false, false, false, false, false, false, false, false, false, false, false, false] rfl rfl (any_of HT_.out (by kernel_rfl)) (fun _ _ _ h => h) (Or.inl ⟨by rfl, ?_⟩) ?_ ?_
        rotate_left
        · intro w'
          go_simp
          with_reducible rfl
        rotate_left
        · simp only [Act.put, List.setIfInBounds_toArray, List.set_cons_zero, List.set_cons_succ, i64_w, i32_w]
          rfl
        refine pure_ (i := 4) (N := some 7) (v := ?_) (a' := ?_) #[true, true, true, true, true, false, false, false, false, false, false, false, false, false, false, false, false, false, false, false, false, false, false, false, false, false, false, false, false, false] rfl rfl (any_of HT_.out (by kernel_rfl)) (fun _ _ _ h => h) (Or.inl ⟨by rfl, ?_⟩) ?_ ?_
        rotate_left
        · intro w'
          go_simp
          with_reducible rfl
        rotate_left
        · simp only [Act.put, List.setIfInBounds_toArray, List.set_cons_zero, List.set_cons_succ, i64_w, i32_w]
          rfl
        refine pure_ (i := 5) (N := some 8) (v := ?_) (a' := ?_) #[true, true, true, true, true, true, false, false, false, false, false, false, false, false, false, false, false, false, false, false, false, false, false, false, false, false, false, false, false, false] rfl rfl (any_of HT_.out (by kernel_rfl)) (fun _ _ _ h => h) (Or.inl ⟨by rfl, ?_⟩) ?_ ?_
        rotate_left
        · intro w'
          go_simp
          with_reducible rfl
        rotate_left
        · simp only [Act.put, List.setIfInBounds_toArray, List.set_cons_zero, List.set_cons_succ, i64_w, i32_w]
          rfl
        refine take_ (i := 6) (N := some 9) (v := ?_) (a' := ?_) #[true, true, true, true, true, true, true, false, false, false, false, false, false, false, false, false, false, false, false, false, false, false, false, false, false, false, false, false, false, false] rfl rfl (take_ofW HT_.out HW_.out (by kernel_rfl)) (fun _ _ _ h => h) (Or.inl ⟨by rfl, ?_⟩) hHeld ?_ ?_
        rotate_left
        · rintro w' ⟨s0, s1⟩
          go_simp
          with_reducible rfl
        rotate_left
        · simp only [Act.put, List.setIfInBounds_toArray, List.set_cons_zero, List.set_cons_succ, i64_w, i32_w]
          rfl
        refine one_ (i := 7) (N := some 10) #[true, true, true, true, true, true, true, true, false, false, false, false, false, false, false, false, false, false, false, false, false, false, false, false, false, false, false, false, false, false] rfl rfl (one_of HT_.out (by kernel_rfl)) (by decide) (fun K hK => ?_)
        refine goes_ Tryd.func26 (by kernel_rfl) rfl #[.string a0_1] (by rfl) rfl rfl (by (try simp only [List.map_toArray, List.map_cons, List.map_nil]); first | done | rfl | (simp only [List.length_drop, List.length_take]; rfl)) ?_
        with_reducible refine (text_Visible.calls a0_1 true _ A4.out).mono ?_
        rintro e w11 ⟨rfl, hb⟩
        refine ⟨_, rfl, ?_⟩
        have n0_ := Aside0.mk (blk_below (g := gb416) (o := .cells #[.string a0_0, .string a0_1] 45 (0, 0)) (by (with_reducible repeat (first | refine blk_drewN ?_ _ | refine blk_drew ?_ | refine blk_alloc ?_ _)); exact BK416.out) hb)
        have n1_ := Aside0.mk (below_step (by repeat (first | (with_reducible first | exact HB.out | apply below_alloc | apply pw_below_drewN | apply below_drew1 | refine below_set ?_ GE416.out) | exact HB.out)) hb)
        clear BK416
        clear HB
        have BK416 := n0_
        have HB := n1_
        clear n0_ n1_
        (try clear hb)
        (try clear hb2)
        (try clear hk)
        (try clear hi)
        refine hK.out _ _ ⟨(blk_cell BK416.out 0).trans rfl, (blk_cell BK416.out 1).trans rfl⟩ (fun hHeld => ?_)
        clear hK K
        refine norm_ (a' := ?_) ?_ ?_
        rotate_left
        · show Act.put _ (some 10) _ = _
          simp only [Act.put, List.setIfInBounds_toArray, List.set_cons_zero, List.set_cons_succ, i64_w, i32_w]
          rfl
        refine pure_ (i := 8) (N := some 11) (v := ?_) (a' := ?_) #[true, true, true, true, true, true, true, true, true, false, false, false, false, false, false, false, false, false, false, false, false, false, false, false, false, false, false, false, false, false] rfl rfl (any_of HT_.out (by kernel_rfl)) (fun _ _ _ h => h) (Or.inl ⟨by rfl, ?_⟩) ?_ ?_
        rotate_left
        · intro w'
          go_simp
          with_reducible rfl
        rotate_left
        · simp only [Act.put, List.setIfInBounds_toArray, List.set_cons_zero, List.set_cons_succ, i64_w, i32_w]
          rfl
        refine pure_ (i := 9) (N := some 12) (v := ?_) (a' := ?_) #[true, true, true, true, true, true, true, true, true, true, false, false, false, false, false, false, false, false, false, false, false, false, false, false, false, false, false, false, false, false] rfl rfl (any_of HT_.out (by kernel_rfl)) (fun _ _ _ h => h) (Or.inl ⟨by rfl, ?_⟩) ?_ ?_
        rotate_left
        · intro w'
          go_simp
          with_reducible rfl
        rotate_left
        · simp only [Act.put, List.setIfInBounds_toArray, List.set_cons_zero, List.set_cons_succ, i64_w, i32_w]
          rfl
        refine pure_ (i := 10) (N := some 13) (v := ?_) (a' := ?_) #[true, true, true, true, true, true, true, true, true, true, true, false, false, false, false, false, false, false, false, false, false, false, false, false, false, false, false, false, false, false] rfl rfl (any_of HT_.out (by kernel_rfl)) (fun _ _ _ h => h) (Or.inl ⟨by rfl, ?_⟩) ?_ ?_
        rotate_left
        · intro w'
          go_simp
          with_reducible rfl
        rotate_left
        · simp only [Act.put, List.setIfInBounds_toArray, List.set_cons_zero, List.set_cons_succ, i64_w, i32_w]
          rfl
        refine pure_ (i := 11) (N := some 14) (v := ?_) (a' := ?_) #[true, true, true, true, true, true, true, true, true, true, true, true, false, false, false, false, false, false, false, false, false, false, false, false, false, false, false, false, false, false] rfl rfl (any_of HT_.out (by kernel_rfl)) (fun _ _ _ h => h) (Or.inl ⟨by rfl, ?_⟩) ?_ ?_
        rotate_left
        · intro w'
          go_simp
          with_reducible rfl
        rotate_left
        · simp only [Act.put, List.setIfInBounds_toArray, List.set_cons_zero, List.set_cons_succ, i64_w, i32_w]
          rfl
        refine pure_ (i := 14) (N := some 17) (v := ?_) (a' := ?_) #[true, true, true, true, true, true, true, true, true, true, true, true, false, false, true, false, false, false, false, false, false, false, false, false, false, false, false, false, false, false] rfl rfl (any_of HT_.out (by kernel_rfl)) (fun _ _ _ h => h) (Or.inl ⟨by rfl, ?_⟩) ?_ ?_
        rotate_left
        · intro w'
          go_simp
          with_reducible rfl
        rotate_left
        · simp only [Act.put, List.setIfInBounds_toArray, List.set_cons_zero, List.set_cons_succ, i64_w, i32_w]
          rfl
        refine take_ (i := 12) (N := some 15) (v := ?_) (a' := ?_) #[true, true, true, true, true, true, true, true, true, true, true, true, true, false, true, false, false, false, false, false, false, false, false, false, false, false, false, false, false, false] rfl rfl (take_ofW HT_.out HW_.out (by kernel_rfl)) (fun _ _ _ h => h) (Or.inl ⟨by rfl, ?_⟩) hHeld ?_ ?_
        rotate_left
        · rintro w' ⟨s0, s1⟩
          go_simp
          with_reducible rfl
        rotate_left
        · simp only [Act.put, List.setIfInBounds_toArray, List.set_cons_zero, List.set_cons_succ, i64_w, i32_w]
          rfl
        refine take_ (i := 15) (N := some 18) (v := ?_) (a' := ?_) #[true, true, true, true, true, true, true, true, true, true, true, true, true, false, true, true, false, false, false, false, false, false, false, false, false, false, false, false, false, false] rfl rfl (take_ofW HT_.out HW_.out (by kernel_rfl)) (fun _ _ _ h => h) (Or.inl ⟨by rfl, ?_⟩) hHeld ?_ ?_
        rotate_left
        · rintro w' ⟨s0, s1⟩
          go_simp
          with_reducible rfl
        rotate_left
        · simp only [Act.put, List.setIfInBounds_toArray, List.set_cons_zero, List.set_cons_succ, i64_w, i32_w]
          rfl
        refine one_ (i := 13) (N := some 16) #[true, true, true, true, true, true, true, true, true, true, true, true, true, true, true, true, false, false, false, false, false, false, false, false, false, false, false, false, false, false] rfl rfl (one_of HT_.out (by kernel_rfl)) (by decide) (fun K hK => ?_)
        refine goes_ Tryd.func27 (by kernel_rfl) rfl #[.string a0_1] (by rfl) rfl rfl (by (try simp only [List.map_toArray, List.map_cons, List.map_nil]); first | done | rfl | (simp only [List.length_drop, List.length_take]; rfl)) ?_
        with_reducible refine (text_Trim.calls a0_1 t419 _ A6.out).mono ?_
        rintro e w12 ⟨rfl, hb⟩
        refine ⟨_, rfl, ?_⟩
        have n0_ := Aside0.mk (blk_below (g := gb416) (o := .cells #[.string a0_0, .string a0_1] 45 (0, 0)) (by (with_reducible repeat (first | refine blk_drewN ?_ _ | refine blk_drew ?_ | refine blk_alloc ?_ _)); exact BK416.out) hb)
        have n1_ := Aside0.mk (below_step (by repeat (first | (with_reducible first | exact HB.out | apply below_alloc | apply pw_below_drewN | apply below_drew1 | refine below_set ?_ GE416.out) | exact HB.out)) hb)
        clear BK416
        clear HB
        have BK416 := n0_
        have HB := n1_
        clear n0_ n1_
        (try clear hb)
        (try clear hb2)
        (try clear hk)
        (try clear hi)
        refine hK.out _ _ ⟨(blk_cell BK416.out 0).trans rfl, (blk_cell BK416.out 1).trans rfl⟩ (fun hHeld => ?_)
        clear hK K
        refine norm_ (a' := ?_) ?_ ?_
        rotate_left
        · show Act.put _ (some 16) _ = _
          simp only [Act.put, List.setIfInBounds_toArray, List.set_cons_zero, List.set_cons_succ, i64_w, i32_w]
          rfl
        refine pure_ (i := 16) (N := some 19) (v := ?_) (a' := ?_) #[true, true, true, true, true, true, true, true, true, true, true, true, true, true, true, true, true, false, false, false, false, false, false, false, false, false, false, false, false, false] rfl rfl (any_of HT_.out (by kernel_rfl)) (fun _ _ _ h => h) (Or.inl ⟨by rfl, ?_⟩) ?_ ?_
        rotate_left
        · intro w'
          go_simp
          with_reducible rfl
        rotate_left
        · simp only [Act.put, List.setIfInBounds_toArray, List.set_cons_zero, List.set_cons_succ, i64_w, i32_w]
          rfl
        refine pure_ (i := 17) (N := some 20) (v := ?_) (a' := ?_) #[true, true, true, true, true, true, true, true, true, true, true, true, true, true, true, true, true, true, false, false, false, false, false, false, false, false, false, false, false, false] rfl rfl (any_of HT_.out (by kernel_rfl)) (fun _ _ _ h => h) (Or.inl ⟨by rfl, ?_⟩) ?_ ?_
        rotate_left
        · intro w'
          go_simp
          with_reducible rfl
        rotate_left
        · simp only [Act.put, List.setIfInBounds_toArray, List.set_cons_zero, List.set_cons_succ, i64_w, i32_w]
          rfl
        refine pure_ (i := 18) (N := some 21) (v := ?_) (a' := ?_) #[true, true, true, true, true, true, true, true, true, true, true, true, true, true, true, true, true, true, true, false, false, false, false, false, false, false, false, false, false, false] rfl rfl (any_of HT_.out (by kernel_rfl)) (fun _ _ _ h => h) (Or.inl ⟨by rfl, ?_⟩) ?_ ?_
        rotate_left
        · intro w'
          go_simp
          with_reducible rfl
        rotate_left
        · simp only [Act.put, List.setIfInBounds_toArray, List.set_cons_zero, List.set_cons_succ, i64_w, i32_w]
          rfl
        refine pure_ (i := 19) (N := some 22) (v := ?_) (a' := ?_) #[true, true, true, true, true, true, true, true, true, true, true, true, true, true, true, true, true, true, true, true, false, false, false, false, false, false, false, false, false, false] rfl rfl (any_of HT_.out (by kernel_rfl)) (fun _ _ _ h => h) (Or.inl ⟨by rfl, ?_⟩) ?_ ?_
        rotate_left
        · intro w'
          go_simp
          with_reducible rfl
        rotate_left
        · simp only [Act.put, List.setIfInBounds_toArray, List.set_cons_zero, List.set_cons_succ, i64_w, i32_w]
          rfl
        refine pure_ (i := 23) (N := some 26) (v := ?_) (a' := ?_) #[true, true, true, true, true, true, true, true, true, true, true, true, true, true, true, true, true, true, true, true, false, false, false, true, false, false, false, false, false, false] rfl rfl (any_of HT_.out (by kernel_rfl)) (fun _ _ _ h => h) (Or.inl ⟨by rfl, ?_⟩) ?_ ?_
        rotate_left
        · intro w'
          go_simp
          with_reducible rfl
        rotate_left
        · simp only [Act.put, List.setIfInBounds_toArray, List.set_cons_zero, List.set_cons_succ, i64_w, i32_w]
          rfl
        refine take_ (i := 20) (N := some 23) (v := ?_) (a' := ?_) #[true, true, true, true, true, true, true, true, true, true, true, true, true, true, true, true, true, true, true, true, true, false, false, true, false, false, false, false, false, false] rfl rfl (take_ofW HT_.out HW_.out (by kernel_rfl)) (fun _ _ _ h => h) (Or.inl ⟨by rfl, ?_⟩) hHeld ?_ ?_
        rotate_left
        · rintro w' ⟨s0, s1⟩
          go_simp
          with_reducible rfl
        rotate_left
        · simp only [Act.put, List.setIfInBounds_toArray, List.set_cons_zero, List.set_cons_succ, i64_w, i32_w]
          rfl
        refine pure_ (i := 21) (N := some 24) (v := ?_) (a' := ?_) #[true, true, true, true, true, true, true, true, true, true, true, true, true, true, true, true, true, true, true, true, true, true, false, true, false, false, false, false, false, false] rfl rfl (any_of HT_.out (by kernel_rfl)) (fun _ _ _ h => h) (Or.inl ⟨by rfl, ?_⟩) ?_ ?_
        rotate_left
        · intro w'
          go_simp
          with_reducible rfl
        rotate_left
        · simp only [Act.put, List.setIfInBounds_toArray, List.set_cons_zero, List.set_cons_succ, i64_w, i32_w]
          rfl
        refine pure_ (i := 22) (N := some 25) (v := ?_) (a' := ?_) #[true, true, true, true, true, true, true, true, true, true, true, true, true, true, true, true, true, true, true, true, true, true, true, true, false, false, false, false, false, false] rfl rfl (any_of HT_.out (by kernel_rfl)) (fun _ _ _ h => h) (Or.inl ⟨by rfl, ?_⟩) ?_ ?_
        rotate_left
        · intro w'
          go_simp
          with_reducible rfl
        rotate_left
        · simp only [Act.put, List.setIfInBounds_toArray, List.set_cons_zero, List.set_cons_succ, i64_w, i32_w]
          rfl
        refine take_ (i := 24) (N := some 27) (v := ?_) (a' := ?_) #[true, true, true, true, true, true, true, true, true, true, true, true, true, true, true, true, true, true, true, true, true, true, true, true, true, false, false, false, false, false] rfl rfl (take_ofW HT_.out HW_.out (by kernel_rfl)) (fun _ _ _ h => h) (Or.inl ⟨by rfl, ?_⟩) hHeld ?_ ?_
        rotate_left
        · rintro w' ⟨s0, s1⟩
          go_simp
          with_reducible rfl
        rotate_left
        · simp only [Act.put, List.setIfInBounds_toArray, List.set_cons_zero, List.set_cons_succ, i64_w, i32_w]
          rfl
        refine pure_ (i := 25) (N := some 28) (v := ?_) (a' := ?_) #[true, true, true, true, true, true, true, true, true, true, true, true, true, true, true, true, true, true, true, true, true, true, true, true, true, true, false, false, false, false] rfl rfl (any_of HT_.out (by kernel_rfl)) (fun _ _ _ h => h) (Or.inl ⟨by rfl, ?_⟩) ?_ ?_
        rotate_left
        · intro w'
          go_simp
          with_reducible rfl
        rotate_left
        · simp only [Act.put, List.setIfInBounds_toArray, List.set_cons_zero, List.set_cons_succ, i64_w, i32_w]
          rfl
        refine pure_ (i := 26) (N := some 29) (v := ?_) (a' := ?_) #[true, true, true, true, true, true, true, true, true, true, true, true, true, true, true, true, true, true, true, true, true, true, true, true, true, true, true, false, false, false] rfl rfl (any_of HT_.out (by kernel_rfl)) (fun _ _ _ h => h) (Or.inl ⟨by rfl, ?_⟩) ?_ ?_
        rotate_left
        · intro w'
          go_simp
          with_reducible rfl
        rotate_left
        · simp only [Act.put, List.setIfInBounds_toArray, List.set_cons_zero, List.set_cons_succ, i64_w, i32_w]
          rfl
        refine pure_ (i := 27) (N := some 30) (v := ?_) (a' := ?_) #[true, true, true, true, true, true, true, true, true, true, true, true, true, true, true, true, true, true, true, true, true, true, true, true, true, true, true, true, false, false] rfl rfl (any_of HT_.out (by kernel_rfl)) (fun _ _ _ h => h) (Or.inl ⟨by rfl, ?_⟩) ?_ ?_
        rotate_left
        · intro w'
          go_simp
          with_reducible rfl
        rotate_left
        · simp only [Act.put, List.setIfInBounds_toArray, List.set_cons_zero, List.set_cons_succ, i64_w, i32_w]
          rfl
        refine pure_ (i := 28) (N := some 31) (v := ?_) (a' := ?_) #[true, true, true, true, true, true, true, true, true, true, true, true, true, true, true, true, true, true, true, true, true, true, true, true, true, true, true, true, true, false] rfl rfl (any_of HT_.out (by kernel_rfl)) (fun _ _ _ h => h) (Or.inl ⟨by rfl, ?_⟩) ?_ ?_
        rotate_left
        · intro w'
          go_simp
          with_reducible rfl
        rotate_left
        · simp only [Act.put, List.setIfInBounds_toArray, List.set_cons_zero, List.set_cons_succ, i64_w, i32_w]
          rfl
        refine pure_ (i := 29) (N := some 2) (v := ?_) (a' := ?_) #[true, true, true, true, true, true, true, true, true, true, true, true, true, true, true, true, true, true, true, true, true, true, true, true, true, true, true, true, true, true] rfl rfl (any_of HT_.out (by kernel_rfl)) (fun _ _ _ h => h) (Or.inl ⟨by rfl, ?_⟩) ?_ ?_
        rotate_left
        · intro w'
          go_simp
          with_reducible rfl
        rotate_left
        · simp only [Act.put, List.setIfInBounds_toArray, List.set_cons_zero, List.set_cons_succ, i64_w, i32_w]
          rfl
        refine done_ (done_of HT_.out (by kernel_rfl)) ?_
        try go_wp2
        go_ret
        exact ⟨by first | rfl | (simp [errW_none, errW_some] <;> rfl) | (simp [*, errW_none, errW_some] <;> rfl), by repeat (first | (with_reducible first | exact HB.out | apply below_alloc | apply pw_below_drewN | apply below_drew1 | refine below_set ?_ GE416.out) | exact HB.out)⟩
      · rw [if_neg c7] at H
        have c7b0 : (t419.toList == a0_1.toList) = false := beq_eq_false_iff_ne.mpr c7
        have c7b1 : (t419.toList != a0_1.toList) = true := bne_iff_ne.mpr c7
        obtain rfl := Option.some.inj H
        go_enter Tryd.func36, Tryd.ntmps36
        try go_wp2_with (first | ((with_reducible refine gate_dst (N := 1) rfl ?_); (try (refine gate_guard (by rfl) ?_; dsimp only)); refine box_event ?hg (N := 1) ?hd (cs := #[.string a0_0, .string a0_1]) (t := 45) ?hr ?_; (case hd => rfl); (case hg => rfl); (case hr => first | (go_simp; done) | (go_simp; rfl)); intro gb416 hg w13 hbox hb; have n0_ := Aside0.mk (below_step (by repeat (first | (with_reducible first | exact HB.out | apply below_alloc | apply pw_below_drewN | apply below_drew1) | exact HB.out)) hb); have n1_ := Aside0.mk (hbox); have n2_ := Aside0.mk ((by rw [hg]; exact (below_size (by repeat (first | (with_reducible first | exact HB.out | apply below_alloc | apply pw_below_drewN | apply below_drew1) | exact HB.out))) : w.heap.size ≤ gb416)); have n3_ := Aside0.mk ((by rw [hg]; exact (below_size (by repeat (first | (with_reducible first | exact HB.out | apply below_alloc | apply pw_below_drewN | apply below_drew1) | exact HB.out))) : w.heap.size ≤ gb416)); clear HB; have HB := n0_; have BK416 := n1_; have GW416 := n2_; have GE416 := n3_; clear n0_ n1_ n2_ n3_; clear hb hbox hg))
        have n0_ := Aside0.mk (blk_drew BK416.out)
        have n1_ := Aside0.mk (below_drew1 HB.out)
        clear BK416
        clear HB
        have BK416 := n0_
        have HB := n1_
        clear n0_ n1_
        refine start_ (n := 30) (S := fun w' => w'.cell? ⟨gb416, 0, none⟩ = some (.string a0_0) ∧ w'.cell? ⟨gb416, 1, none⟩ = some (.string a0_1)) (ds := []) #[false, false, false, false, false, false, false, false, false, false, false, false, false, false, false, false, false, false, false, false, false, false, false, false, false, false, false, false, false, false] (by kernel_rfl) rfl rfl ⟨(blk_cell BK416.out 0).trans rfl, (blk_cell BK416.out 1).trans rfl⟩ (fun hHeld => ?_); refine with_tabW head_May_1.tab1 head_May_1.bits1 (fun HT_ HW_ => ?_)
        generalize w13.drew = w14 at BK416 HB hHeld ⊢
        refine pure_ (i := 0) (N := some 3) (v := ?_) (a' := ?_) #[true, false, false, false, false, false, false, false, false, false, false, false, false, false, false, false, false, false, false, false, false, false, false, false, false, false, false, false, false, false] rfl rfl (any_of HT_.out (by kernel_rfl)) (fun _ _ _ h => h) (Or.inl ⟨by rfl, ?_⟩) ?_ ?_
        rotate_left
        · intro w'
          go_simp
          with_reducible rfl
        rotate_left
        · simp only [Act.put, List.setIfInBounds_toArray, List.set_cons_zero, List.set_cons_succ, i64_w, i32_w]
          rfl
        refine take_ (i := 1) (N := some 4) (v := ?_) (a' := ?_) #[true, true, false, false, false, false, false, false, false, false, false, false, false, false, false, false, false, false, false, false, false, false, false, false, false, false, false, false, false, false] rfl rfl (take_ofW HT_.out HW_.out (by kernel_rfl)) (fun _ _ _ h => h) (Or.inl ⟨by rfl, ?_⟩) hHeld ?_ ?_
        rotate_left
        · rintro w' ⟨s0, s1⟩
          go_simp
          with_reducible rfl
        rotate_left
        · simp only [Act.put, List.setIfInBounds_toArray, List.set_cons_zero, List.set_cons_succ, i64_w, i32_w]
          rfl
        refine one_ (i := 2) (N := some 5) #[true, true, true, false, false, false, false, false, false, false, false, false, false, false, false, false, false, false, false, false, false, false, false, false, false, false, false, false, false, false] rfl rfl (one_of HT_.out (by kernel_rfl)) (by decide) (fun K hK => ?_)
        refine goes_ Tryd.func25 (by kernel_rfl) rfl #[.string a0_0] (by rfl) rfl rfl (by (try simp only [List.map_toArray, List.map_cons, List.map_nil]); first | done | rfl | (simp only [List.length_drop, List.length_take]; rfl)) ?_
        with_reducible refine (text_Token.calls a0_0 true _ A2.out).mono ?_
        rintro e w15 ⟨rfl, hb⟩
        refine ⟨_, rfl, ?_⟩
        have n0_ := Aside0.mk (blk_below (g := gb416) (o := .cells #[.string a0_0, .string a0_1] 45 (0, 0)) (by (with_reducible repeat (first | refine blk_drewN ?_ _ | refine blk_drew ?_ | refine blk_alloc ?_ _)); exact BK416.out) hb)
        have n1_ := Aside0.mk (below_step (by repeat (first | (with_reducible first | exact HB.out | apply below_alloc | apply pw_below_drewN | apply below_drew1 | refine below_set ?_ GE416.out) | exact HB.out)) hb)
        clear BK416
        clear HB
        have BK416 := n0_
        have HB := n1_
        clear n0_ n1_
        (try clear hb)
        (try clear hb2)
        (try clear hk)
        (try clear hi)
        refine hK.out _ _ ⟨(blk_cell BK416.out 0).trans rfl, (blk_cell BK416.out 1).trans rfl⟩ (fun hHeld => ?_)
        clear hK K
        refine norm_ (a' := ?_) ?_ ?_
        rotate_left
        · show Act.put _ (some 5) _ = _
          simp only [Act.put, List.setIfInBounds_toArray, List.set_cons_zero, List.set_cons_succ, i64_w, i32_w]
          rfl
        refine pure_ (i := 3) (N := some 6) (v := ?_) (a' := ?_) #[true, true, true, true, false, false, false, false, false, false, false, false, false, false, false, false, false, false, false, false, false, false, false, false, false, false, false, false, false, false] rfl rfl (any_of HT_.out (by kernel_rfl)) (fun _ _ _ h => h) (Or.inl ⟨by rfl, ?_⟩) ?_ ?_
        rotate_left
        · intro w'
          go_simp
          with_reducible rfl
        rotate_left
        · simp only [Act.put, List.setIfInBounds_toArray, List.set_cons_zero, List.set_cons_succ, i64_w, i32_w]
          rfl
        refine pure_ (i := 4) (N := some 7) (v := ?_) (a' := ?_) #[true, true, true, true, true, false, false, false, false, false, false, false, false, false, false, false, false, false, false, false, false, false, false, false, false, false, false, false, false, false] rfl rfl (any_of HT_.out (by kernel_rfl)) (fun _ _ _ h => h) (Or.inl ⟨by rfl, ?_⟩) ?_ ?_
        rotate_left
        · intro w'
          go_simp
          with_reducible rfl
        rotate_left
        · simp only [Act.put, List.setIfInBounds_toArray, List.set_cons_zero, List.set_cons_succ, i64_w, i32_w]
          rfl
        refine pure_ (i := 5) (N := some 8) (v := ?_) (a' := ?_) #[true, true, true, true, true, true, false, false, false, false, false, false, false, false, false, false, false, false, false, false, false, false, false, false, false, false, false, false, false, false] rfl rfl (any_of HT_.out (by kernel_rfl)) (fun _ _ _ h => h) (Or.inl ⟨by rfl, ?_⟩) ?_ ?_
        rotate_left
        · intro w'
          go_simp
          with_reducible rfl
        rotate_left
        · simp only [Act.put, List.setIfInBounds_toArray, List.set_cons_zero, List.set_cons_succ, i64_w, i32_w]
          rfl
        refine take_ (i := 6) (N := some 9) (v := ?_) (a' := ?_) #[true, true, true, true, true, true, true, false, false, false, false, false, false, false, false, false, false, false, false, false, false, false, false, false, false, false, false, false, false, false] rfl rfl (take_ofW HT_.out HW_.out (by kernel_rfl)) (fun _ _ _ h => h) (Or.inl ⟨by rfl, ?_⟩) hHeld ?_ ?_
        rotate_left
        · rintro w' ⟨s0, s1⟩
          go_simp
          with_reducible rfl
        rotate_left
        · simp only [Act.put, List.setIfInBounds_toArray, List.set_cons_zero, List.set_cons_succ, i64_w, i32_w]
          rfl
        refine one_ (i := 7) (N := some 10) #[true, true, true, true, true, true, true, true, false, false, false, false, false, false, false, false, false, false, false, false, false, false, false, false, false, false, false, false, false, false] rfl rfl (one_of HT_.out (by kernel_rfl)) (by decide) (fun K hK => ?_)
        refine goes_ Tryd.func26 (by kernel_rfl) rfl #[.string a0_1] (by rfl) rfl rfl (by (try simp only [List.map_toArray, List.map_cons, List.map_nil]); first | done | rfl | (simp only [List.length_drop, List.length_take]; rfl)) ?_
        with_reducible refine (text_Visible.calls a0_1 true _ A4.out).mono ?_
        rintro e w16 ⟨rfl, hb⟩
        refine ⟨_, rfl, ?_⟩
        have n0_ := Aside0.mk (blk_below (g := gb416) (o := .cells #[.string a0_0, .string a0_1] 45 (0, 0)) (by (with_reducible repeat (first | refine blk_drewN ?_ _ | refine blk_drew ?_ | refine blk_alloc ?_ _)); exact BK416.out) hb)
        have n1_ := Aside0.mk (below_step (by repeat (first | (with_reducible first | exact HB.out | apply below_alloc | apply pw_below_drewN | apply below_drew1 | refine below_set ?_ GE416.out) | exact HB.out)) hb)
        clear BK416
        clear HB
        have BK416 := n0_
        have HB := n1_
        clear n0_ n1_
        (try clear hb)
        (try clear hb2)
        (try clear hk)
        (try clear hi)
        refine hK.out _ _ ⟨(blk_cell BK416.out 0).trans rfl, (blk_cell BK416.out 1).trans rfl⟩ (fun hHeld => ?_)
        clear hK K
        refine norm_ (a' := ?_) ?_ ?_
        rotate_left
        · show Act.put _ (some 10) _ = _
          simp only [Act.put, List.setIfInBounds_toArray, List.set_cons_zero, List.set_cons_succ, i64_w, i32_w]
          rfl
        refine pure_ (i := 8) (N := some 11) (v := ?_) (a' := ?_) #[true, true, true, true, true, true, true, true, true, false, false, false, false, false, false, false, false, false, false, false, false, false, false, false, false, false, false, false, false, false] rfl rfl (any_of HT_.out (by kernel_rfl)) (fun _ _ _ h => h) (Or.inl ⟨by rfl, ?_⟩) ?_ ?_
        rotate_left
        · intro w'
          go_simp
          with_reducible rfl
        rotate_left
        · simp only [Act.put, List.setIfInBounds_toArray, List.set_cons_zero, List.set_cons_succ, i64_w, i32_w]
          rfl
        refine pure_ (i := 9) (N := some 12) (v := ?_) (a' := ?_) #[true, true, true, true, true, true, true, true, true, true, false, false, false, false, false, false, false, false, false, false, false, false, false, false, false, false, false, false, false, false] rfl rfl (any_of HT_.out (by kernel_rfl)) (fun _ _ _ h => h) (Or.inl ⟨by rfl, ?_⟩) ?_ ?_
        rotate_left
        · intro w'
          go_simp
          with_reducible rfl
        rotate_left
        · simp only [Act.put, List.setIfInBounds_toArray, List.set_cons_zero, List.set_cons_succ, i64_w, i32_w]
          rfl
        refine pure_ (i := 10) (N := some 13) (v := ?_) (a' := ?_) #[true, true, true, true, true, true, true, true, true, true, true, false, false, false, false, false, false, false, false, false, false, false, false, false, false, false, false, false, false, false] rfl rfl (any_of HT_.out (by kernel_rfl)) (fun _ _ _ h => h) (Or.inl ⟨by rfl, ?_⟩) ?_ ?_
        rotate_left
        · intro w'
          go_simp
          with_reducible rfl
        rotate_left
        · simp only [Act.put, List.setIfInBounds_toArray, List.set_cons_zero, List.set_cons_succ, i64_w, i32_w]
          rfl
        refine pure_ (i := 11) (N := some 14) (v := ?_) (a' := ?_) #[true, true, true, true, true, true, true, true, true, true, true, true, false, false, false, false, false, false, false, false, false, false, false, false, false, false, false, false, false, false] rfl rfl (any_of HT_.out (by kernel_rfl)) (fun _ _ _ h => h) (Or.inl ⟨by rfl, ?_⟩) ?_ ?_
        rotate_left
        · intro w'
          go_simp
          with_reducible rfl
        rotate_left
        · simp only [Act.put, List.setIfInBounds_toArray, List.set_cons_zero, List.set_cons_succ, i64_w, i32_w]
          rfl
        refine pure_ (i := 14) (N := some 17) (v := ?_) (a' := ?_) #[true, true, true, true, true, true, true, true, true, true, true, true, false, false, true, false, false, false, false, false, false, false, false, false, false, false, false, false, false, false] rfl rfl (any_of HT_.out (by kernel_rfl)) (fun _ _ _ h => h) (Or.inl ⟨by rfl, ?_⟩) ?_ ?_
        rotate_left
        · intro w'
          go_simp
          with_reducible rfl
        rotate_left
        · simp only [Act.put, List.setIfInBounds_toArray, List.set_cons_zero, List.set_cons_succ, i64_w, i32_w]
          rfl
        refine take_ (i := 12) (N := some 15) (v := ?_) (a' := ?_) #[true, true, true, true, true, true, true, true, true, true, true, true, true, false, true, false, false, false, false, false, false, false, false, false, false, false, false, false, false, false] rfl rfl (take_ofW HT_.out HW_.out (by kernel_rfl)) (fun _ _ _ h => h) (Or.inl ⟨by rfl, ?_⟩) hHeld ?_ ?_
        rotate_left
        · rintro w' ⟨s0, s1⟩
          go_simp
          with_reducible rfl
        rotate_left
        · simp only [Act.put, List.setIfInBounds_toArray, List.set_cons_zero, List.set_cons_succ, i64_w, i32_w]
          rfl
        refine take_ (i := 15) (N := some 18) (v := ?_) (a' := ?_) #[true, true, true, true, true, true, true, true, true, true, true, true, true, false, true, true, false, false, false, false, false, false, false, false, false, false, false, false, false, false] rfl rfl (take_ofW HT_.out HW_.out (by kernel_rfl)) (fun _ _ _ h => h) (Or.inl ⟨by rfl, ?_⟩) hHeld ?_ ?_
        rotate_left
        · rintro w' ⟨s0, s1⟩
          go_simp
          with_reducible rfl
        rotate_left
        · simp only [Act.put, List.setIfInBounds_toArray, List.set_cons_zero, List.set_cons_succ, i64_w, i32_w]
          rfl
        refine one_ (i := 13) (N := some 16) #[true, true, true, true, true, true, true, true, true, true, true, true, true, true, true, true, false, false, false, false, false, false, false, false, false, false, false, false, false, false] rfl rfl (one_of HT_.out (by kernel_rfl)) (by decide) (fun K hK => ?_)
        refine goes_ Tryd.func27 (by kernel_rfl) rfl #[.string a0_1] (by rfl) rfl rfl (by (try simp only [List.map_toArray, List.map_cons, List.map_nil]); first | done | rfl | (simp only [List.length_drop, List.length_take]; rfl)) ?_
        with_reducible refine (text_Trim.calls a0_1 t419 _ A6.out).mono ?_
        rintro e w17 ⟨rfl, hb⟩
        refine ⟨_, rfl, ?_⟩
        have n0_ := Aside0.mk (blk_below (g := gb416) (o := .cells #[.string a0_0, .string a0_1] 45 (0, 0)) (by (with_reducible repeat (first | refine blk_drewN ?_ _ | refine blk_drew ?_ | refine blk_alloc ?_ _)); exact BK416.out) hb)
        have n1_ := Aside0.mk (below_step (by repeat (first | (with_reducible first | exact HB.out | apply below_alloc | apply pw_below_drewN | apply below_drew1 | refine below_set ?_ GE416.out) | exact HB.out)) hb)
        clear BK416
        clear HB
        have BK416 := n0_
        have HB := n1_
        clear n0_ n1_
        (try clear hb)
        (try clear hb2)
        (try clear hk)
        (try clear hi)
        refine hK.out _ _ ⟨(blk_cell BK416.out 0).trans rfl, (blk_cell BK416.out 1).trans rfl⟩ (fun hHeld => ?_)
        clear hK K
        refine norm_ (a' := ?_) ?_ ?_
        rotate_left
        · show Act.put _ (some 16) _ = _
          simp only [Act.put, List.setIfInBounds_toArray, List.set_cons_zero, List.set_cons_succ, i64_w, i32_w]
          rfl
        refine pure_ (i := 16) (N := some 19) (v := ?_) (a' := ?_) #[true, true, true, true, true, true, true, true, true, true, true, true, true, true, true, true, true, false, false, false, false, false, false, false, false, false, false, false, false, false] rfl rfl (any_of HT_.out (by kernel_rfl)) (fun _ _ _ h => h) (Or.inl ⟨by rfl, ?_⟩) ?_ ?_
        rotate_left
        · intro w'
          go_simp
          with_reducible rfl
        rotate_left
        · simp only [Act.put, List.setIfInBounds_toArray, List.set_cons_zero, List.set_cons_succ, i64_w, i32_w]
          rfl
        refine pure_ (i := 17) (N := some 20) (v := ?_) (a' := ?_) #[true, true, true, true, true, true, true, true, true, true, true, true, true, true, true, true, true, true, false, false, false, false, false, false, false, false, false, false, false, false] rfl rfl (any_of HT_.out (by kernel_rfl)) (fun _ _ _ h => h) (Or.inl ⟨by rfl, ?_⟩) ?_ ?_
        rotate_left
        · intro w'
          go_simp
          with_reducible rfl
        rotate_left
        · simp only [Act.put, List.setIfInBounds_toArray, List.set_cons_zero, List.set_cons_succ, i64_w, i32_w]
          rfl
        refine pure_ (i := 18) (N := some 21) (v := ?_) (a' := ?_) #[true, true, true, true, true, true, true, true, true, true, true, true, true, true, true, true, true, true, true, false, false, false, false, false, false, false, false, false, false, false] rfl rfl (any_of HT_.out (by kernel_rfl)) (fun _ _ _ h => h) (Or.inl ⟨by rfl, ?_⟩) ?_ ?_
        rotate_left
        · intro w'
          go_simp
          with_reducible rfl
        rotate_left
        · simp only [Act.put, List.setIfInBounds_toArray, List.set_cons_zero, List.set_cons_succ, i64_w, i32_w]
          rfl
        refine pure_ (i := 19) (N := some 22) (v := undef) (a' := ?_) #[true, true, true, true, true, true, true, true, true, true, true, true, true, true, true, true, true, true, true, true, false, false, false, false, false, false, false, false, false, false] rfl rfl (any_of HT_.out (by kernel_rfl)) (fun _ _ _ h => h) (Or.inr ⟨by rfl, rfl⟩) ?_ ?_
        rotate_left
        · simp only [Act.put, List.setIfInBounds_toArray, List.set_cons_zero, List.set_cons_succ, i64_w, i32_w]
          rfl
        refine pure_ (i := 20) (N := some 23) (v := undef) (a' := ?_) #[true, true, true, true, true, true, true, true, true, true, true, true, true, true, true, true, true, true, true, true, true, false, false, false, false, false, false, false, false, false] rfl rfl (any_of HT_.out (by kernel_rfl)) (fun _ _ _ h => h) (Or.inr ⟨by rfl, rfl⟩) ?_ ?_
        rotate_left
        · simp only [Act.put, List.setIfInBounds_toArray, List.set_cons_zero, List.set_cons_succ, i64_w, i32_w]
          rfl
        refine pure_ (i := 21) (N := some 24) (v := undef) (a' := ?_) #[true, true, true, true, true, true, true, true, true, true, true, true, true, true, true, true, true, true, true, true, true, true, false, false, false, false, false, false, false, false] rfl rfl (any_of HT_.out (by kernel_rfl)) (fun _ _ _ h => h) (Or.inr ⟨by rfl, rfl⟩) ?_ ?_
        rotate_left
        · simp only [Act.put, List.setIfInBounds_toArray, List.set_cons_zero, List.set_cons_succ, i64_w, i32_w]
          rfl
        refine pure_ (i := 22) (N := some 25) (v := undef) (a' := ?_) #[true, true, true, true, true, true, true, true, true, true, true, true, true, true, true, true, true, true, true, true, true, true, true, false, false, false, false, false, false, false] rfl rfl (any_of HT_.out (by kernel_rfl)) (fun _ _ _ h => h) (Or.inr ⟨by rfl, rfl⟩) ?_ ?_
        rotate_left
        · simp only [Act.put, List.setIfInBounds_toArray, List.set_cons_zero, List.set_cons_succ, i64_w, i32_w]
          rfl
        refine pure_ (i := 23) (N := some 26) (v := undef) (a' := ?_) #[true, true, true, true, true, true, true, true, true, true, true, true, true, true, true, true, true, true, true, true, true, true, true, true, false, false, false, false, false, false] rfl rfl (any_of HT_.out (by kernel_rfl)) (fun _ _ _ h => h) (Or.inr ⟨by rfl, rfl⟩) ?_ ?_
        rotate_left
        · simp only [Act.put, List.setIfInBounds_toArray, List.set_cons_zero, List.set_cons_succ, i64_w, i32_w]
          rfl
        refine pure_ (i := 24) (N := some 27) (v := undef) (a' := ?_) #[true, true, true, true, true, true, true, true, true, true, true, true, true, true, true, true, true, true, true, true, true, true, true, true, true, false, false, false, false, false] rfl rfl (any_of HT_.out (by kernel_rfl)) (fun _ _ _ h => h) (Or.inr ⟨by rfl, rfl⟩) ?_ ?_
        rotate_left
        · simp only [Act.put, List.setIfInBounds_toArray, List.set_cons_zero, List.set_cons_succ, i64_w, i32_w]
          rfl
        refine pure_ (i := 25) (N := some 28) (v := undef) (a' := ?_) #[true, true, true, true, true, true, true, true, true, true, true, true, true, true, true, true, true, true, true, true, true, true, true, true, true, true, false, false, false, false] rfl rfl (any_of HT_.out (by kernel_rfl)) (fun _ _ _ h => h) (Or.inr ⟨by rfl, rfl⟩) ?_ ?_
        rotate_left
        · simp only [Act.put, List.setIfInBounds_toArray, List.set_cons_zero, List.set_cons_succ, i64_w, i32_w]
          rfl
        refine pure_ (i := 26) (N := some 29) (v := undef) (a' := ?_) #[true, true, true, true, true, true, true, true, true, true, true, true, true, true, true, true, true, true, true, true, true, true, true, true, true, true, true, false, false, false] rfl rfl (any_of HT_.out (by kernel_rfl)) (fun _ _ _ h => h) (Or.inr ⟨by rfl, rfl⟩) ?_ ?_
        rotate_left
        · simp only [Act.put, List.setIfInBounds_toArray, List.set_cons_zero, List.set_cons_succ, i64_w, i32_w]
          rfl
        refine pure_ (i := 27) (N := some 30) (v := undef) (a' := ?_) #[true, true, true, true, true, true, true, true, true, true, true, true, true, true, true, true, true, true, true, true, true, true, true, true, true, true, true, true, false, false] rfl rfl (any_of HT_.out (by kernel_rfl)) (fun _ _ _ h => h) (Or.inr ⟨by rfl, rfl⟩) ?_ ?_
        rotate_left
        · simp only [Act.put, List.setIfInBounds_toArray, List.set_cons_zero, List.set_cons_succ, i64_w, i32_w]
          rfl
        refine pure_ (i := 28) (N := some 31) (v := ?_) (a' := ?_) #[true, true, true, true, true, true, true, true, true, true, true, true, true, true, true, true, true, true, true, true, true, true, true, true, true, true, true, true, true, false] rfl rfl (any_of HT_.out (by kernel_rfl)) (fun _ _ _ h => h) (Or.inl ⟨by rfl, ?_⟩) ?_ ?_
        rotate_left
        · intro w'
          go_simp
          with_reducible rfl
        rotate_left
        · simp only [Act.put, List.setIfInBounds_toArray, List.set_cons_zero, List.set_cons_succ, i64_w, i32_w]
          rfl
        refine pure_ (i := 29) (N := some 2) (v := ?_) (a' := ?_) #[true, true, true, true, true, true, true, true, true, true, true, true, true, true, true, true, true, true, true, true, true, true, true, true, true, true, true, true, true, true] rfl rfl (any_of HT_.out (by kernel_rfl)) (fun _ _ _ h => h) (Or.inl ⟨by rfl, ?_⟩) ?_ ?_
        rotate_left
        · intro w'
          go_simp
          with_reducible rfl
        rotate_left
        · simp only [Act.put, List.setIfInBounds_toArray, List.set_cons_zero, List.set_cons_succ, i64_w, i32_w]
          rfl
        refine done_ (done_of HT_.out (by kernel_rfl)) ?_
        try go_wp2
        go_ret
        exact ⟨by first | rfl | (simp [errW_none, errW_some] <;> rfl) | (simp [*, errW_none, errW_some] <;> rfl), by repeat (first | (with_reducible first | exact HB.out | apply below_alloc | apply pw_below_drewN | apply below_drew1 | refine below_set ?_ GE416.out) | exact HB.out)⟩
    · replace c5 := Bool.eq_false_iff.mpr c5
      subst c5
      have H1 : (some true) = some r := by rw [if_neg (show ¬ (false = true) by decide)] at H; exact H
      clear H
      have H := H1
      clear H1
      obtain rfl := Option.some.inj H
      go_enter Tryd.func36, Tryd.ntmps36
      try go_wp2_with (first | ((with_reducible refine gate_dst (N := 1) rfl ?_); (try (refine gate_guard (by rfl) ?_; dsimp only)); refine box_event ?hg (N := 1) ?hd (cs := #[.string a0_0, .string a0_1]) (t := 45) ?hr ?_; (case hd => rfl); (case hg => rfl); (case hr => first | (go_simp; done) | (go_simp; rfl)); intro gb416 hg w18 hbox hb; have n0_ := Aside0.mk (below_step (by repeat (first | (with_reducible first | exact HB.out | apply below_alloc | apply pw_below_drewN | apply below_drew1) | exact HB.out)) hb); have n1_ := Aside0.mk (hbox); have n2_ := Aside0.mk ((by rw [hg]; exact (below_size (by repeat (first | (with_reducible first | exact HB.out | apply below_alloc | apply pw_below_drewN | apply below_drew1) | exact HB.out))) : w.heap.size ≤ gb416)); have n3_ := Aside0.mk ((by rw [hg]; exact (below_size (by repeat (first | (with_reducible first | exact HB.out | apply below_alloc | apply pw_below_drewN | apply below_drew1) | exact HB.out))) : w.heap.size ≤ gb416)); clear HB; have HB := n0_; have BK416 := n1_; have GW416 := n2_; have GE416 := n3_; clear n0_ n1_ n2_ n3_; clear hb hbox hg))
      have n0_ := Aside0.mk (blk_drew BK416.out)
      have n1_ := Aside0.mk (below_drew1 HB.out)
      clear BK416
      clear HB
      have BK416 := n0_
      have HB := n1_
      clear n0_ n1_
      refine start_ (n := 30) (S := fun w' => w'.cell? ⟨gb416, 0, none⟩ = some (.string a0_0) ∧ w'.cell? ⟨gb416, 1, none⟩ = some (.string a0_1)) (ds := []) #[false, false, false, false, false, false, false, false, false, false, false, false, false, false, false, false, false, false, false, false, false, false, false, false, false, false, false, false, false, false] (by kernel_rfl) rfl rfl ⟨(blk_cell BK416.out 0).trans rfl, (blk_cell BK416.out 1).trans rfl⟩ (fun hHeld => ?_); refine with_tabW head_May_1.tab1 head_May_1.bits1 (fun HT_ HW_ => ?_)
      generalize w18.drew = w19 at BK416 HB hHeld ⊢
      refine pure_ (i := 0) (N := some 3) (v := ?_) (a' := ?_) #[true, false, false, false, false, false, false, false, false, false, false, false, false, false, false, false, false, false, false, false, false, false, false, false, false, false, false, false, false, false] rfl rfl (any_of HT_.out (by kernel_rfl)) (fun _ _ _ h => h) (Or.inl ⟨by rfl, ?_⟩) ?_ ?_
      rotate_left
      · intro w'
        go_simp
        with_reducible rfl
      rotate_left
      · simp only [Act.put, List.setIfInBounds_toArray, List.set_cons_zero, List.set_cons_succ, i64_w, i32_w]
        rfl
      refine take_ (i := 1) (N := some 4) (v := ?_) (a' := ?_) #[true, true, false, false, false, false, false, false, false, false, false, false, false, false, false, false, false, false, false, false, false, false, false, false, false, false, false, false, false, false] rfl rfl (take_ofW HT_.out HW_.out (by kernel_rfl)) (fun _ _ _ h => h) (Or.inl ⟨by rfl, ?_⟩) hHeld ?_ ?_
      rotate_left
      · rintro w' ⟨s0, s1⟩
        go_simp
        with_reducible rfl
      rotate_left
      · simp only [Act.put, List.setIfInBounds_toArray, List.set_cons_zero, List.set_cons_succ, i64_w, i32_w]
        rfl
      refine one_ (i := 2) (N := some 5) #[true, true, true, false, false, false, false, false, false, false, false, false, false, false, false, false, false, false, false, false, false, false, false, false, false, false, false, false, false, false] rfl rfl (one_of HT_.out (by kernel_rfl)) (by decide) (fun K hK => ?_)
      refine goes_ Tryd.func25 (by kernel_rfl) rfl #[.string a0_0] (by rfl) rfl rfl (by (try simp only [List.map_toArray, List.map_cons, List.map_nil]); first | done | rfl | (simp only [List.length_drop, List.length_take]; rfl)) ?_
      with_reducible refine (text_Token.calls a0_0 true _ A2.out).mono ?_
      rintro e w20 ⟨rfl, hb⟩
      refine ⟨_, rfl, ?_⟩
      have n0_ := Aside0.mk (blk_below (g := gb416) (o := .cells #[.string a0_0, .string a0_1] 45 (0, 0)) (by (with_reducible repeat (first | refine blk_drewN ?_ _ | refine blk_drew ?_ | refine blk_alloc ?_ _)); exact BK416.out) hb)
      have n1_ := Aside0.mk (below_step (by repeat (first | (with_reducible first | exact HB.out | apply below_alloc | apply pw_below_drewN | apply below_drew1 | refine below_set ?_ GE416.out) | exact HB.out)) hb)
      clear BK416
      clear HB
      have BK416 := n0_
      have HB := n1_
      clear n0_ n1_
      (try clear hb)
      (try clear hb2)
      (try clear hk)
      (try clear hi)
      refine hK.out _ _ ⟨(blk_cell BK416.out 0).trans rfl, (blk_cell BK416.out 1).trans rfl⟩ (fun hHeld => ?_)
      clear hK K
      refine norm_ (a' := ?_) ?_ ?_
      rotate_left
      · show Act.put _ (some 5) _ = _
        simp only [Act.put, List.setIfInBounds_toArray, List.set_cons_zero, List.set_cons_succ, i64_w, i32_w]
        rfl
      refine pure_ (i := 3) (N := some 6) (v := ?_) (a' := ?_) #[true, true, true, true, false, false, false, false, false, false, false, false, false, false, false, false, false, false, false, false, false, false, false, false, false, false, false, false, false, false] rfl rfl (any_of HT_.out (by kernel_rfl)) (fun _ _ _ h => h) (Or.inl ⟨by rfl, ?_⟩) ?_ ?_
      rotate_left
      · intro w'
        go_simp
        with_reducible rfl
      rotate_left
      · simp only [Act.put, List.setIfInBounds_toArray, List.set_cons_zero, List.set_cons_succ, i64_w, i32_w]
        rfl
      refine pure_ (i := 4) (N := some 7) (v := ?_) (a' := ?_) #[true, true, true, true, true, false, false, false, false, false, false, false, false, false, false, false, false, false, false, false, false, false, false, false, false, false, false, false, false, false] rfl rfl (any_of HT_.out (by kernel_rfl)) (fun _ _ _ h => h) (Or.inl ⟨by rfl, ?_⟩) ?_ ?_
      rotate_left
      · intro w'
        go_simp
        with_reducible rfl
      rotate_left
      · simp only [Act.put, List.setIfInBounds_toArray, List.set_cons_zero, List.set_cons_succ, i64_w, i32_w]
        rfl
      refine pure_ (i := 5) (N := some 8) (v := ?_) (a' := ?_) #[true, true, true, true, true, true, false, false, false, false, false, false, false, false, false, false, false, false, false, false, false, false, false, false, false, false, false, false, false, false] rfl rfl (any_of HT_.out (by kernel_rfl)) (fun _ _ _ h => h) (Or.inl ⟨by rfl, ?_⟩) ?_ ?_
      rotate_left
      · intro w'
        go_simp
        with_reducible rfl
      rotate_left
      · simp only [Act.put, List.setIfInBounds_toArray, List.set_cons_zero, List.set_cons_succ, i64_w, i32_w]
        rfl
      refine take_ (i := 6) (N := some 9) (v := ?_) (a' := ?_) #[true, true, true, true, true, true, true, false, false, false, false, false, false, false, false, false, false, false, false, false, false, false, false, false, false, false, false, false, false, false] rfl rfl (take_ofW HT_.out HW_.out (by kernel_rfl)) (fun _ _ _ h => h) (Or.inl ⟨by rfl, ?_⟩) hHeld ?_ ?_
      rotate_left
      · rintro w' ⟨s0, s1⟩
        go_simp
        with_reducible rfl
      rotate_left
      · simp only [Act.put, List.setIfInBounds_toArray, List.set_cons_zero, List.set_cons_succ, i64_w, i32_w]
        rfl
      refine one_ (i := 7) (N := some 10) #[true, true, true, true, true, true, true, true, false, false, false, false, false, false, false, false, false, false, false, false, false, false, false, false, false, false, false, false, false, false] rfl rfl (one_of HT_.out (by kernel_rfl)) (by decide) (fun K hK => ?_)
      refine goes_ Tryd.func26 (by kernel_rfl) rfl #[.string a0_1] (by rfl) rfl rfl (by (try simp only [List.map_toArray, List.map_cons, List.map_nil]); first | done | rfl | (simp only [List.length_drop, List.length_take]; rfl)) ?_
      with_reducible refine (text_Visible.calls a0_1 false _ A4.out).mono ?_
      rintro e w21 ⟨rfl, hb⟩
      refine ⟨_, rfl, ?_⟩
      have n0_ := Aside0.mk (blk_below (g := gb416) (o := .cells #[.string a0_0, .string a0_1] 45 (0, 0)) (by (with_reducible repeat (first | refine blk_drewN ?_ _ | refine blk_drew ?_ | refine blk_alloc ?_ _)); exact BK416.out) hb)
      have n1_ := Aside0.mk (below_step (by repeat (first | (with_reducible first | exact HB.out | apply below_alloc | apply pw_below_drewN | apply below_drew1 | refine below_set ?_ GE416.out) | exact HB.out)) hb)
      clear BK416
      clear HB
      have BK416 := n0_
      have HB := n1_
      clear n0_ n1_
      (try clear hb)
      (try clear hb2)
      (try clear hk)
      (try clear hi)
      refine hK.out _ _ ⟨(blk_cell BK416.out 0).trans rfl, (blk_cell BK416.out 1).trans rfl⟩ (fun hHeld => ?_)
      clear hK K
      refine norm_ (a' := ?_) ?_ ?_
      rotate_left
      · show Act.put _ (some 10) _ = _
        simp only [Act.put, List.setIfInBounds_toArray, List.set_cons_zero, List.set_cons_succ, i64_w, i32_w]
        rfl
      refine pure_ (i := 8) (N := some 11) (v := ?_) (a' := ?_) #[true, true, true, true, true, true, true, true, true, false, false, false, false, false, false, false, false, false, false, false, false, false, false, false, false, false, false, false, false, false] rfl rfl (any_of HT_.out (by kernel_rfl)) (fun _ _ _ h => h) (Or.inl ⟨by rfl, ?_⟩) ?_ ?_
      rotate_left
      · intro w'
        go_simp
        with_reducible rfl
      rotate_left
      · simp only [Act.put, List.setIfInBounds_toArray, List.set_cons_zero, List.set_cons_succ, i64_w, i32_w]
        rfl
      refine pure_ (i := 9) (N := some 12) (v := ?_) (a' := ?_) #[true, true, true, true, true, true, true, true, true, true, false, false, false, false, false, false, false, false, false, false, false, false, false, false, false, false, false, false, false, false] rfl rfl (any_of HT_.out (by kernel_rfl)) (fun _ _ _ h => h) (Or.inl ⟨by rfl, ?_⟩) ?_ ?_
      rotate_left
      · intro w'
        go_simp
        with_reducible rfl
      rotate_left
      · simp only [Act.put, List.setIfInBounds_toArray, List.set_cons_zero, List.set_cons_succ, i64_w, i32_w]
        rfl
      refine pure_ (i := 10) (N := some 13) (v := ?_) (a' := ?_) #[true, true, true, true, true, true, true, true, true, true, true, false, false, false, false, false, false, false, false, false, false, false, false, false, false, false, false, false, false, false] rfl rfl (any_of HT_.out (by kernel_rfl)) (fun _ _ _ h => h) (Or.inl ⟨by rfl, ?_⟩) ?_ ?_
      rotate_left
      · intro w'
        go_simp
        with_reducible rfl
      rotate_left
      · simp only [Act.put, List.setIfInBounds_toArray, List.set_cons_zero, List.set_cons_succ, i64_w, i32_w]
        rfl
      refine pure_ (i := 11) (N := some 14) (v := undef) (a' := ?_) #[true, true, true, true, true, true, true, true, true, true, true, true, false, false, false, false, false, false, false, false, false, false, false, false, false, false, false, false, false, false] rfl rfl (any_of HT_.out (by kernel_rfl)) (fun _ _ _ h => h) (Or.inr ⟨by rfl, rfl⟩) ?_ ?_
      rotate_left
      · simp only [Act.put, List.setIfInBounds_toArray, List.set_cons_zero, List.set_cons_succ, i64_w, i32_w]
        rfl
      refine pure_ (i := 12) (N := some 15) (v := undef) (a' := ?_) #[true, true, true, true, true, true, true, true, true, true, true, true, true, false, false, false, false, false, false, false, false, false, false, false, false, false, false, false, false, false] rfl rfl (any_of HT_.out (by kernel_rfl)) (fun _ _ _ h => h) (Or.inr ⟨by rfl, rfl⟩) ?_ ?_
      rotate_left
      · simp only [Act.put, List.setIfInBounds_toArray, List.set_cons_zero, List.set_cons_succ, i64_w, i32_w]
        rfl
      refine pure_ (i := 13) (N := some 16) (v := undef) (a' := ?_) #[true, true, true, true, true, true, true, true, true, true, true, true, true, true, false, false, false, false, false, false, false, false, false, false, false, false, false, false, false, false] rfl rfl (any_of HT_.out (by kernel_rfl)) (fun _ _ _ h => h) (Or.inr ⟨by rfl, rfl⟩) ?_ ?_
      rotate_left
      · simp only [Act.put, List.setIfInBounds_toArray, List.set_cons_zero, List.set_cons_succ, i64_w, i32_w]
        rfl
      refine pure_ (i := 14) (N := some 17) (v := undef) (a' := ?_) #[true, true, true, true, true, true, true, true, true, true, true, true, true, true, true, false, false, false, false, false, false, false, false, false, false, false, false, false, false, false] rfl rfl (any_of HT_.out (by kernel_rfl)) (fun _ _ _ h => h) (Or.inr ⟨by rfl, rfl⟩) ?_ ?_
      rotate_left
      · simp only [Act.put, List.setIfInBounds_toArray, List.set_cons_zero, List.set_cons_succ, i64_w, i32_w]
        rfl
      refine pure_ (i := 15) (N := some 18) (v := undef) (a' := ?_) #[true, true, true, true, true, true, true, true, true, true, true, true, true, true, true, true, false, false, false, false, false, false, false, false, false, false, false, false, false, false] rfl rfl (any_of HT_.out (by kernel_rfl)) (fun _ _ _ h => h) (Or.inr ⟨by rfl, rfl⟩) ?_ ?_
      rotate_left
      · simp only [Act.put, List.setIfInBounds_toArray, List.set_cons_zero, List.set_cons_succ, i64_w, i32_w]
        rfl
      refine pure_ (i := 16) (N := some 19) (v := undef) (a' := ?_) #[true, true, true, true, true, true, true, true, true, true, true, true, true, true, true, true, true, false, false, false, false, false, false, false, false, false, false, false, false, false] rfl rfl (any_of HT_.out (by kernel_rfl)) (fun _ _ _ h => h) (Or.inr ⟨by rfl, rfl⟩) ?_ ?_
      rotate_left
      · simp only [Act.put, List.setIfInBounds_toArray, List.set_cons_zero, List.set_cons_succ, i64_w, i32_w]
        rfl
      refine pure_ (i := 17) (N := some 20) (v := ?_) (a' := ?_) #[true, true, true, true, true, true, true, true, true, true, true, true, true, true, true, true, true, true, false, false, false, false, false, false, false, false, false, false, false, false] rfl rfl (any_of HT_.out (by kernel_rfl)) (fun _ _ _ h => h) (Or.inl ⟨by rfl, ?_⟩) ?_ ?_
      rotate_left
      · intro w'
        go_simp
        with_reducible rfl
      rotate_left
      · simp only [Act.put, List.setIfInBounds_toArray, List.set_cons_zero, List.set_cons_succ, i64_w, i32_w]
        rfl
      refine pure_ (i := 18) (N := some 21) (v := ?_) (a' := ?_) #[true, true, true, true, true, true, true, true, true, true, true, true, true, true, true, true, true, true, true, false, false, false, false, false, false, false, false, false, false, false] rfl rfl (any_of HT_.out (by kernel_rfl)) (fun _ _ _ h => h) (Or.inl ⟨by rfl, ?_⟩) ?_ ?_
      rotate_left
      · intro w'
        go_simp
        with_reducible rfl
      rotate_left
      · simp only [Act.put, List.setIfInBounds_toArray, List.set_cons_zero, List.set_cons_succ, i64_w, i32_w]
        rfl
      refine pure_ (i := 19) (N := some 22) (v := undef) (a' := ?_) #[true, true, true, true, true, true, true, true, true, true, true, true, true, true, true, true, true, true, true, true, false, false, false, false, false, false, false, false, false, false] rfl rfl (any_of HT_.out (by kernel_rfl)) (fun _ _ _ h => h) (Or.inr ⟨by rfl, rfl⟩) ?_ ?_
      rotate_left
      · simp only [Act.put, List.setIfInBounds_toArray, List.set_cons_zero, List.set_cons_succ, i64_w, i32_w]
        rfl
      refine pure_ (i := 20) (N := some 23) (v := undef) (a' := ?_) #[true, true, true, true, true, true, true, true, true, true, true, true, true, true, true, true, true, true, true, true, true, false, false, false, false, false, false, false, false, false] rfl rfl (any_of HT_.out (by kernel_rfl)) (fun _ _ _ h => h) (Or.inr ⟨by rfl, rfl⟩) ?_ ?_
      rotate_left
      · simp only [Act.put, List.setIfInBounds_toArray, List.set_cons_zero, List.set_cons_succ, i64_w, i32_w]
        rfl
      refine pure_ (i := 21) (N := some 24) (v := undef) (a' := ?_) #[true, true, true, true, true, true, true, true, true, true, true, true, true, true, true, true, true, true, true, true, true, true, false, false, false, false, false, false, false, false] rfl rfl (any_of HT_.out (by kernel_rfl)) (fun _ _ _ h => h) (Or.inr ⟨by rfl, rfl⟩) ?_ ?_
      rotate_left
      · simp only [Act.put, List.setIfInBounds_toArray, List.set_cons_zero, List.set_cons_succ, i64_w, i32_w]
        rfl
      refine pure_ (i := 22) (N := some 25) (v := undef) (a' := ?_) #[true, true, true, true, true, true, true, true, true, true, true, true, true, true, true, true, true, true, true, true, true, true, true, false, false, false, false, false, false, false] rfl rfl (any_of HT_.out (by kernel_rfl)) (fun _ _ _ h => h) (Or.inr ⟨by rfl, rfl⟩) ?_ ?_
      rotate_left
      · simp only [Act.put, List.setIfInBounds_toArray, List.set_cons_zero, List.set_cons_succ, i64_w, i32_w]
        rfl
      refine pure_ (i := 23) (N := some 26) (v := undef) (a' := ?_) #[true, true, true, true, true, true, true, true, true, true, true, true, true, true, true, true, true, true, true, true, true, true, true, true, false, false, false, false, false, false] rfl rfl (any_of HT_.out (by kernel_rfl)) (fun _ _ _ h => h) (Or.inr ⟨by rfl, rfl⟩) ?_ ?_
      rotate_left
      · simp only [Act.put, List.setIfInBounds_toArray, List.set_cons_zero, List.set_cons_succ, i64_w, i32_w]
        rfl
      refine pure_ (i := 24) (N := some 27) (v := undef) (a' := ?_) #[true, true, true, true, true, true, true, true, true, true, true, true, true, true, true, true, true, true, true, true, true, true, true, true, true, false, false, false, false, false] rfl rfl (any_of HT_.out (by kernel_rfl)) (fun _ _ _ h => h) (Or.inr ⟨by rfl, rfl⟩) ?_ ?_
      rotate_left
      · simp only [Act.put, List.setIfInBounds_toArray, List.set_cons_zero, List.set_cons_succ, i64_w, i32_w]
        rfl
      refine pure_ (i := 25) (N := some 28) (v := undef) (a' := ?_) #[true, true, true, true, true, true, true, true, true, true, true, true, true, true, true, true, true, true, true, true, true, true, true, true, true, true, false, false, false, false] rfl rfl (any_of HT_.out (by kernel_rfl)) (fun _ _ _ h => h) (Or.inr ⟨by rfl, rfl⟩) ?_ ?_
      rotate_left
      · simp only [Act.put, List.setIfInBounds_toArray, List.set_cons_zero, List.set_cons_succ, i64_w, i32_w]
        rfl
      refine pure_ (i := 26) (N := some 29) (v := undef) (a' := ?_) #[true, true, true, true, true, true, true, true, true, true, true, true, true, true, true, true, true, true, true, true, true, true, true, true, true, true, true, false, false, false] rfl rfl (any_of HT_.out (by kernel_rfl)) (fun _ _ _ h => h) (Or.inr ⟨by rfl, rfl⟩) ?_ ?_
      rotate_left
      · simp only [Act.put, List.setIfInBounds_toArray, List.set_cons_zero, List.set_cons_succ, i64_w, i32_w]
        rfl
      refine pure_ (i := 27) (N := some 30) (v := undef) (a' := ?_) #[true, true, true, true, true, true, true, true, true, true, true, true, true, true, true, true, true, true, true, true, true, true, true, true, true, true, true, true, false, false] rfl rfl (any_of HT_.out (by kernel_rfl)) (fun _ _ _ h => h) (Or.inr ⟨by rfl, rfl⟩) ?_ ?_
      rotate_left
      · simp only [Act.put, List.setIfInBounds_toArray, List.set_cons_zero, List.set_cons_succ, i64_w, i32_w]
        rfl
      refine pure_ (i := 28) (N := some 31) (v := ?_) (a' := ?_) #[true, true, true, true, true, true, true, true, true, true, true, true, true, true, true, true, true, true, true, true, true, true, true, true, true, true, true, true, true, false] rfl rfl (any_of HT_.out (by kernel_rfl)) (fun _ _ _ h => h) (Or.inl ⟨by rfl, ?_⟩) ?_ ?_
      rotate_left
      · intro w'
        go_simp
        with_reducible rfl
      rotate_left
      · simp only [Act.put, List.setIfInBounds_toArray, List.set_cons_zero, List.set_cons_succ, i64_w, i32_w]
        rfl
      refine pure_ (i := 29) (N := some 2) (v := ?_) (a' := ?_) #[true, true, true, true, true, true, true, true, true, true, true, true, true, true, true, true, true, true, true, true, true, true, true, true, true, true, true, true, true, true] rfl rfl (any_of HT_.out (by kernel_rfl)) (fun _ _ _ h => h) (Or.inl ⟨by rfl, ?_⟩) ?_ ?_
      rotate_left
      · intro w'
        go_simp
        with_reducible rfl
      rotate_left
      · simp only [Act.put, List.setIfInBounds_toArray, List.set_cons_zero, List.set_cons_succ, i64_w, i32_w]
        rfl
      refine done_ (done_of HT_.out (by kernel_rfl)) ?_
      try go_wp2
      go_ret
      exact ⟨by first | rfl | (simp [errW_none, errW_some] <;> rfl) | (simp [*, errW_none, errW_some] <;> rfl), by repeat (first | (with_reducible first | exact HB.out | apply below_alloc | apply pw_below_drewN | apply below_drew1 | refine below_set ?_ GE416.out) | exact HB.out)⟩
  · replace c3 := Bool.eq_false_iff.mpr c3
    subst c3
    have H1 : (some true) = some r := by rw [if_neg (show ¬ (false = true) by decide)] at H; exact H
    clear H
    have H := H1
    clear H1
    obtain rfl := Option.some.inj H
    go_enter Tryd.func36, Tryd.ntmps36
    try go_wp2_with (first | ((with_reducible refine gate_dst (N := 1) rfl ?_); (try (refine gate_guard (by rfl) ?_; dsimp only)); refine box_event ?hg (N := 1) ?hd (cs := #[.string a0_0, .string a0_1]) (t := 45) ?hr ?_; (case hd => rfl); (case hg => rfl); (case hr => first | (go_simp; done) | (go_simp; rfl)); intro gb416 hg w22 hbox hb; have n0_ := Aside0.mk (below_step (by repeat (first | (with_reducible first | exact HB.out | apply below_alloc | apply pw_below_drewN | apply below_drew1) | exact HB.out)) hb); have n1_ := Aside0.mk (hbox); have n2_ := Aside0.mk ((by rw [hg]; exact (below_size (by repeat (first | (with_reducible first | exact HB.out | apply below_alloc | apply pw_below_drewN | apply below_drew1) | exact HB.out))) : w.heap.size ≤ gb416)); have n3_ := Aside0.mk ((by rw [hg]; exact (below_size (by repeat (first | (with_reducible first | exact HB.out | apply below_alloc | apply pw_below_drewN | apply below_drew1) | exact HB.out))) : w.heap.size ≤ gb416)); clear HB; have HB := n0_; have BK416 := n1_; have GW416 := n2_; have GE416 := n3_; clear n0_ n1_ n2_ n3_; clear hb hbox hg))
    have n0_ := Aside0.mk (blk_drew BK416.out)
    have n1_ := Aside0.mk (below_drew1 HB.out)
    clear BK416
    clear HB
    have BK416 := n0_
    have HB := n1_
    clear n0_ n1_
    refine start_ (n := 30) (S := fun w' => w'.cell? ⟨gb416, 0, none⟩ = some (.string a0_0) ∧ w'.cell? ⟨gb416, 1, none⟩ = some (.string a0_1)) (ds := []) #[false, false, false, false, false, false, false, false, false, false, false, false, false, false, false, false, false, false, false, false, false, false, false, false, false, false, false, false, false, false] (by kernel_rfl) rfl rfl ⟨(blk_cell BK416.out 0).trans rfl, (blk_cell BK416.out 1).trans rfl⟩ (fun hHeld => ?_); refine with_tabW head_May_1.tab1 head_May_1.bits1 (fun HT_ HW_ => ?_)
    generalize w22.drew = w23 at BK416 HB hHeld ⊢
    refine pure_ (i := 0) (N := some 3) (v := ?_) (a' := ?_) #[true, false, false, false, false, false, false, false, false, false, false, false, false, false, false, false, false, false, false, false, false, false, false, false, false, false, false, false, false, false] rfl rfl (any_of HT_.out (by kernel_rfl)) (fun _ _ _ h => h) (Or.inl ⟨by rfl, ?_⟩) ?_ ?_
    rotate_left
    · intro w'
      go_simp
      with_reducible rfl
    rotate_left
    · simp only [Act.put, List.setIfInBounds_toArray, List.set_cons_zero, List.set_cons_succ, i64_w, i32_w]
      rfl
    refine take_ (i := 1) (N := some 4) (v := ?_) (a' := ?_) #[true, true, false, false, false, false, false, false, false, false, false, false, false, false, false, false, false, false, false, false, false, false, false, false, false, false, false, false, false, false] rfl rfl (take_ofW HT_.out HW_.out (by kernel_rfl)) (fun _ _ _ h => h) (Or.inl ⟨by rfl, ?_⟩) hHeld ?_ ?_
    rotate_left
    · rintro w' ⟨s0, s1⟩
      go_simp
      with_reducible rfl
    rotate_left
    · simp only [Act.put, List.setIfInBounds_toArray, List.set_cons_zero, List.set_cons_succ, i64_w, i32_w]
      rfl
    refine one_ (i := 2) (N := some 5) #[true, true, true, false, false, false, false, false, false, false, false, false, false, false, false, false, false, false, false, false, false, false, false, false, false, false, false, false, false, false] rfl rfl (one_of HT_.out (by kernel_rfl)) (by decide) (fun K hK => ?_)
    refine goes_ Tryd.func25 (by kernel_rfl) rfl #[.string a0_0] (by rfl) rfl rfl (by (try simp only [List.map_toArray, List.map_cons, List.map_nil]); first | done | rfl | (simp only [List.length_drop, List.length_take]; rfl)) ?_
    with_reducible refine (text_Token.calls a0_0 false _ A2.out).mono ?_
    rintro e w24 ⟨rfl, hb⟩
    refine ⟨_, rfl, ?_⟩
    have n0_ := Aside0.mk (blk_below (g := gb416) (o := .cells #[.string a0_0, .string a0_1] 45 (0, 0)) (by (with_reducible repeat (first | refine blk_drewN ?_ _ | refine blk_drew ?_ | refine blk_alloc ?_ _)); exact BK416.out) hb)
    have n1_ := Aside0.mk (below_step (by repeat (first | (with_reducible first | exact HB.out | apply below_alloc | apply pw_below_drewN | apply below_drew1 | refine below_set ?_ GE416.out) | exact HB.out)) hb)
    clear BK416
    clear HB
    have BK416 := n0_
    have HB := n1_
    clear n0_ n1_
    (try clear hb)
    (try clear hb2)
    (try clear hk)
    (try clear hi)
    refine hK.out _ _ ⟨(blk_cell BK416.out 0).trans rfl, (blk_cell BK416.out 1).trans rfl⟩ (fun hHeld => ?_)
    clear hK K
    refine norm_ (a' := ?_) ?_ ?_
    rotate_left
    · show Act.put _ (some 5) _ = _
      simp only [Act.put, List.setIfInBounds_toArray, List.set_cons_zero, List.set_cons_succ, i64_w, i32_w]
      rfl
    refine pure_ (i := 3) (N := some 6) (v := ?_) (a' := ?_) #[true, true, true, true, false, false, false, false, false, false, false, false, false, false, false, false, false, false, false, false, false, false, false, false, false, false, false, false, false, false] rfl rfl (any_of HT_.out (by kernel_rfl)) (fun _ _ _ h => h) (Or.inl ⟨by rfl, ?_⟩) ?_ ?_
    rotate_left
    · intro w'
      go_simp
      with_reducible rfl
    rotate_left
    · simp only [Act.put, List.setIfInBounds_toArray, List.set_cons_zero, List.set_cons_succ, i64_w, i32_w]
      rfl
    refine pure_ (i := 4) (N := some 7) (v := ?_) (a' := ?_) #[true, true, true, true, true, false, false, false, false, false, false, false, false, false, false, false, false, false, false, false, false, false, false, false, false, false, false, false, false, false] rfl rfl (any_of HT_.out (by kernel_rfl)) (fun _ _ _ h => h) (Or.inl ⟨by rfl, ?_⟩) ?_ ?_
    rotate_left
    · intro w'
      go_simp
      with_reducible rfl
    rotate_left
    · simp only [Act.put, List.setIfInBounds_toArray, List.set_cons_zero, List.set_cons_succ, i64_w, i32_w]
      rfl
    refine pure_ (i := 5) (N := some 8) (v := undef) (a' := ?_) #[true, true, true, true, true, true, false, false, false, false, false, false, false, false, false, false, false, false, false, false, false, false, false, false, false, false, false, false, false, false] rfl rfl (any_of HT_.out (by kernel_rfl)) (fun _ _ _ h => h) (Or.inr ⟨by rfl, rfl⟩) ?_ ?_
    rotate_left
    · simp only [Act.put, List.setIfInBounds_toArray, List.set_cons_zero, List.set_cons_succ, i64_w, i32_w]
      rfl
    refine pure_ (i := 6) (N := some 9) (v := undef) (a' := ?_) #[true, true, true, true, true, true, true, false, false, false, false, false, false, false, false, false, false, false, false, false, false, false, false, false, false, false, false, false, false, false] rfl rfl (any_of HT_.out (by kernel_rfl)) (fun _ _ _ h => h) (Or.inr ⟨by rfl, rfl⟩) ?_ ?_
    rotate_left
    · simp only [Act.put, List.setIfInBounds_toArray, List.set_cons_zero, List.set_cons_succ, i64_w, i32_w]
      rfl
    refine pure_ (i := 7) (N := some 10) (v := undef) (a' := ?_) #[true, true, true, true, true, true, true, true, false, false, false, false, false, false, false, false, false, false, false, false, false, false, false, false, false, false, false, false, false, false] rfl rfl (any_of HT_.out (by kernel_rfl)) (fun _ _ _ h => h) (Or.inr ⟨by rfl, rfl⟩) ?_ ?_
    rotate_left
    · simp only [Act.put, List.setIfInBounds_toArray, List.set_cons_zero, List.set_cons_succ, i64_w, i32_w]
      rfl
    refine pure_ (i := 8) (N := some 11) (v := undef) (a' := ?_) #[true, true, true, true, true, true, true, true, true, false, false, false, false, false, false, false, false, false, false, false, false, false, false, false, false, false, false, false, false, false] rfl rfl (any_of HT_.out (by kernel_rfl)) (fun _ _ _ h => h) (Or.inr ⟨by rfl, rfl⟩) ?_ ?_
    rotate_left
    · simp only [Act.put, List.setIfInBounds_toArray, List.set_cons_zero, List.set_cons_succ, i64_w, i32_w]
      rfl
    refine pure_ (i := 9) (N := some 12) (v := ?_) (a' := ?_) #[true, true, true, true, true, true, true, true, true, true, false, false, false, false, false, false, false, false, false, false, false, false, false, false, false, false, false, false, false, false] rfl rfl (any_of HT_.out (by kernel_rfl)) (fun _ _ _ h => h) (Or.inl ⟨by rfl, ?_⟩) ?_ ?_
    rotate_left
    · intro w'
      go_simp
      with_reducible rfl
    rotate_left
    · simp only [Act.put, List.setIfInBounds_toArray, List.set_cons_zero, List.set_cons_succ, i64_w, i32_w]
      rfl
    refine pure_ (i := 10) (N := some 13) (v := ?_) (a' := ?_) #[true, true, true, true, true, true, true, true, true, true, true, false, false, false, false, false, false, false, false, false, false, false, false, false, false, false, false, false, false, false] rfl rfl (any_of HT_.out (by kernel_rfl)) (fun _ _ _ h => h) (Or.inl ⟨by rfl, ?_⟩) ?_ ?_
    rotate_left
    · intro w'
      go_simp
      with_reducible rfl
    rotate_left
    · simp only [Act.put, List.setIfInBounds_toArray, List.set_cons_zero, List.set_cons_succ, i64_w, i32_w]
      rfl
    refine pure_ (i := 11) (N := some 14) (v := undef) (a' := ?_) #[true, true, true, true, true, true, true, true, true, true, true, true, false, false, false, false, false, false, false, false, false, false, false, false, false, false, false, false, false, false] rfl rfl (any_of HT_.out (by kernel_rfl)) (fun _ _ _ h => h) (Or.inr ⟨by rfl, rfl⟩) ?_ ?_
    rotate_left
    · simp only [Act.put, List.setIfInBounds_toArray, List.set_cons_zero, List.set_cons_succ, i64_w, i32_w]
      rfl
    refine pure_ (i := 12) (N := some 15) (v := undef) (a' := ?_) #[true, true, true, true, true, true, true, true, true, true, true, true, true, false, false, false, false, false, false, false, false, false, false, false, false, false, false, false, false, false] rfl rfl (any_of HT_.out (by kernel_rfl)) (fun _ _ _ h => h) (Or.inr ⟨by rfl, rfl⟩) ?_ ?_
    rotate_left
    · simp only [Act.put, List.setIfInBounds_toArray, List.set_cons_zero, List.set_cons_succ, i64_w, i32_w]
      rfl
    refine pure_ (i := 13) (N := some 16) (v := undef) (a' := ?_) #[true, true, true, true, true, true, true, true, true, true, true, true, true, true, false, false, false, false, false, false, false, false, false, false, false, false, false, false, false, false] rfl rfl (any_of HT_.out (by kernel_rfl)) (fun _ _ _ h => h) (Or.inr ⟨by rfl, rfl⟩) ?_ ?_
    rotate_left
    · simp only [Act.put, List.setIfInBounds_toArray, List.set_cons_zero, List.set_cons_succ, i64_w, i32_w]
      rfl
    refine pure_ (i := 14) (N := some 17) (v := undef) (a' := ?_) #[true, true, true, true, true, true, true, true, true, true, true, true, true, true, true, false, false, false, false, false, false, false, false, false, false, false, false, false, false, false] rfl rfl (any_of HT_.out (by kernel_rfl)) (fun _ _ _ h => h) (Or.inr ⟨by rfl, rfl⟩) ?_ ?_
    rotate_left
    · simp only [Act.put, List.setIfInBounds_toArray, List.set_cons_zero, List.set_cons_succ, i64_w, i32_w]
      rfl
    refine pure_ (i := 15) (N := some 18) (v := undef) (a' := ?_) #[true, true, true, true, true, true, true, true, true, true, true, true, true, true, true, true, false, false, false, false, false, false, false, false, false, false, false, false, false, false] rfl rfl (any_of HT_.out (by kernel_rfl)) (fun _ _ _ h => h) (Or.inr ⟨by rfl, rfl⟩) ?_ ?_
    rotate_left
    · simp only [Act.put, List.setIfInBounds_toArray, List.set_cons_zero, List.set_cons_succ, i64_w, i32_w]
      rfl
    refine pure_ (i := 16) (N := some 19) (v := undef) (a' := ?_) #[true, true, true, true, true, true, true, true, true, true, true, true, true, true, true, true, true, false, false, false, false, false, false, false, false, false, false, false, false, false] rfl rfl (any_of HT_.out (by kernel_rfl)) (fun _ _ _ h => h) (Or.inr ⟨by rfl, rfl⟩) ?_ ?_
    rotate_left
    · simp only [Act.put, List.setIfInBounds_toArray, List.set_cons_zero, List.set_cons_succ, i64_w, i32_w]
      rfl
    refine pure_ (i := 17) (N := some 20) (v := ?_) (a' := ?_) #[true, true, true, true, true, true, true, true, true, true, true, true, true, true, true, true, true, true, false, false, false, false, false, false, false, false, false, false, false, false] rfl rfl (any_of HT_.out (by kernel_rfl)) (fun _ _ _ h => h) (Or.inl ⟨by rfl, ?_⟩) ?_ ?_
    rotate_left
    · intro w'
      go_simp
      with_reducible rfl
    rotate_left
    · simp only [Act.put, List.setIfInBounds_toArray, List.set_cons_zero, List.set_cons_succ, i64_w, i32_w]
      rfl
    refine pure_ (i := 18) (N := some 21) (v := ?_) (a' := ?_) #[true, true, true, true, true, true, true, true, true, true, true, true, true, true, true, true, true, true, true, false, false, false, false, false, false, false, false, false, false, false] rfl rfl (any_of HT_.out (by kernel_rfl)) (fun _ _ _ h => h) (Or.inl ⟨by rfl, ?_⟩) ?_ ?_
    rotate_left
    · intro w'
      go_simp
      with_reducible rfl
    rotate_left
    · simp only [Act.put, List.setIfInBounds_toArray, List.set_cons_zero, List.set_cons_succ, i64_w, i32_w]
      rfl
    refine pure_ (i := 19) (N := some 22) (v := undef) (a' := ?_) #[true, true, true, true, true, true, true, true, true, true, true, true, true, true, true, true, true, true, true, true, false, false, false, false, false, false, false, false, false, false] rfl rfl (any_of HT_.out (by kernel_rfl)) (fun _ _ _ h => h) (Or.inr ⟨by rfl, rfl⟩) ?_ ?_
    rotate_left
    · simp only [Act.put, List.setIfInBounds_toArray, List.set_cons_zero, List.set_cons_succ, i64_w, i32_w]
      rfl
    refine pure_ (i := 20) (N := some 23) (v := undef) (a' := ?_) #[true, true, true, true, true, true, true, true, true, true, true, true, true, true, true, true, true, true, true, true, true, false, false, false, false, false, false, false, false, false] rfl rfl (any_of HT_.out (by kernel_rfl)) (fun _ _ _ h => h) (Or.inr ⟨by rfl, rfl⟩) ?_ ?_
    rotate_left
    · simp only [Act.put, List.setIfInBounds_toArray, List.set_cons_zero, List.set_cons_succ, i64_w, i32_w]
      rfl
    refine pure_ (i := 21) (N := some 24) (v := undef) (a' := ?_) #[true, true, true, true, true, true, true, true, true, true, true, true, true, true, true, true, true, true, true, true, true, true, false, false, false, false, false, false, false, false] rfl rfl (any_of HT_.out (by kernel_rfl)) (fun _ _ _ h => h) (Or.inr ⟨by rfl, rfl⟩) ?_ ?_
    rotate_left
    · simp only [Act.put, List.setIfInBounds_toArray, List.set_cons_zero, List.set_cons_succ, i64_w, i32_w]
      rfl
    refine pure_ (i := 22) (N := some 25) (v := undef) (a' := ?_) #[true, true, true, true, true, true, true, true, true, true, true, true, true, true, true, true, true, true, true, true, true, true, true, false, false, false, false, false, false, false] rfl rfl (any_of HT_.out (by kernel_rfl)) (fun _ _ _ h => h) (Or.inr ⟨by rfl, rfl⟩) ?_ ?_
    rotate_left
    · simp only [Act.put, List.setIfInBounds_toArray, List.set_cons_zero, List.set_cons_succ, i64_w, i32_w]
      rfl
    refine pure_ (i := 23) (N := some 26) (v := undef) (a' := ?_) #[true, true, true, true, true, true, true, true, true, true, true, true, true, true, true, true, true, true, true, true, true, true, true, true, false, false, false, false, false, false] rfl rfl (any_of HT_.out (by kernel_rfl)) (fun _ _ _ h => h) (Or.inr ⟨by rfl, rfl⟩) ?_ ?_
    rotate_left
    · simp only [Act.put, List.setIfInBounds_toArray, List.set_cons_zero, List.set_cons_succ, i64_w, i32_w]
      rfl
    refine pure_ (i := 24) (N := some 27) (v := undef) (a' := ?_) #[true, true, true, true, true, true, true, true, true, true, true, true, true, true, true, true, true, true, true, true, true, true, true, true, true, false, false, false, false, false] rfl rfl (any_of HT_.out (by kernel_rfl)) (fun _ _ _ h => h) (Or.inr ⟨by rfl, rfl⟩) ?_ ?_
    rotate_left
    · simp only [Act.put, List.setIfInBounds_toArray, List.set_cons_zero, List.set_cons_succ, i64_w, i32_w]
      rfl
    refine pure_ (i := 25) (N := some 28) (v := undef) (a' := ?_) #[true, true, true, true, true, true, true, true, true, true, true, true, true, true, true, true, true, true, true, true, true, true, true, true, true, true, false, false, false, false] rfl rfl (any_of HT_.out (by kernel_rfl)) (fun _ _ _ h => h) (Or.inr ⟨by rfl, rfl⟩) ?_ ?_
    rotate_left
    · simp only [Act.put, List.setIfInBounds_toArray, List.set_cons_zero, List.set_cons_succ, i64_w, i32_w]
      rfl
    refine pure_ (i := 26) (N := some 29) (v := undef) (a' := ?_) #[true, true, true, true, true, true, true, true, true, true, true, true, true, true, true, true, true, true, true, true, true, true, true, true, true, true, true, false, false, false] rfl rfl (any_of HT_.out (by kernel_rfl)) (fun _ _ _ h => h) (Or.inr ⟨by rfl, rfl⟩) ?_ ?_
    rotate_left
    · simp only [Act.put, List.setIfInBounds_toArray, List.set_cons_zero, List.set_cons_succ, i64_w, i32_w]
      rfl
    refine pure_ (i := 27) (N := some 30) (v := undef) (a' := ?_) #[true, true, true, true, true, true, true, true, true, true, true, true, true, true, true, true, true, true, true, true, true, true, true, true, true, true, true, true, false, false] rfl rfl (any_of HT_.out (by kernel_rfl)) (fun _ _ _ h => h) (Or.inr ⟨by rfl, rfl⟩) ?_ ?_
    rotate_left
    · simp only [Act.put, List.setIfInBounds_toArray, List.set_cons_zero, List.set_cons_succ, i64_w, i32_w]
      rfl
    refine pure_ (i := 28) (N := some 31) (v := ?_) (a' := ?_) #[true, true, true, true, true, true, true, true, true, true, true, true, true, true, true, true, true, true, true, true, true, true, true, true, true, true, true, true, true, false] rfl rfl (any_of HT_.out (by kernel_rfl)) (fun _ _ _ h => h) (Or.inl ⟨by rfl, ?_⟩) ?_ ?_
    rotate_left
    · intro w'
      go_simp
      with_reducible rfl
    rotate_left
    · simp only [Act.put, List.setIfInBounds_toArray, List.set_cons_zero, List.set_cons_succ, i64_w, i32_w]
      rfl
    refine pure_ (i := 29) (N := some 2) (v := ?_) (a' := ?_) #[true, true, true, true, true, true, true, true, true, true, true, true, true, true, true, true, true, true, true, true, true, true, true, true, true, true, true, true, true, true] rfl rfl (any_of HT_.out (by kernel_rfl)) (fun _ _ _ h => h) (Or.inl ⟨by rfl, ?_⟩) ?_ ?_
    rotate_left
    · intro w'
      go_simp
      with_reducible rfl
    rotate_left
    · simp only [Act.put, List.setIfInBounds_toArray, List.set_cons_zero, List.set_cons_succ, i64_w, i32_w]
      rfl
    refine done_ (done_of HT_.out (by kernel_rfl)) ?_
    try go_wp2
    go_ret
    exact ⟨by first | rfl | (simp [errW_none, errW_some] <;> rfl) | (simp [*, errW_none, errW_some] <;> rfl), by repeat (first | (with_reducible first | exact HB.out | apply below_alloc | apply pw_below_drewN | apply below_drew1 | refine below_set ?_ GE416.out) | exact HB.out)⟩

end Go.Proofs.YtdofgilfmgdpkaaDoor.P

/- head.May: may these fields be? -/
namespace Go.Proofs.YtdofgilfmgdpkaaDoor.P
open Go.RowKit Go.Proofs.YtdofgilfmgdpkaaDoorW.PrintWords Go.Proofs.YtdofgilfmgdpkaaDoorW.PrintLast Go.Proofs.YtdofgilfmgdpkaaDoorW.PrintMore

def tokenB (s : ByteArray) : Bool := !s.data.toList.isEmpty && (bytesOf s).all tokI
def visB (s : ByteArray) : Bool := (bytesOf s).all shownI
/-- May this field be? -/
def okF (x : S45) : Bool := tokenB x.f0 && (visB x.f1 && ((trimB x.f1).data.toList == x.f1.data.toList && decide (x.f0.size + 2 + x.f1.size ≤ 512)))
def mayB (l : List S45) : Bool := decide (l.length ≤ 32) && (l.all okF && decide ((plainB l).length ≤ 2048))
def fitF (x : S45) : Bool := decide (x.f0.size ≤ 4611686018427387000) && decide (x.f1.size ≤ 4611686018427387000)
def head_May.f (l0 : List S45) : Option Bool := if l0.all fitF = true then some (mayB l0) else none

theorem may1_tells (x : S45) (h : fitF x = true) : head_May_1.f x.f0 x.f1 = some (!okF x) := by
  unfold fitF at h
  rw [Bool.and_eq_true, decide_eq_true_eq, decide_eq_true_eq] at h
  obtain ⟨h0, h1⟩ := h
  have hw : wrap64 ((wrap64 ((x.f0.size : Int) + 2)) + (x.f1.size : Int)) = (x.f0.size : Int) + 2 + (x.f1.size : Int) := by rw [wrap_in (i := (x.f0.size : Int) + 2) (by omega) (by omega), wrap_in (by omega) (by omega)]
  have h5 : (decide ((x.f0.size : Int) + 2 + (x.f1.size : Int) > 512)) = !decide (x.f0.size + 2 + x.f1.size ≤ 512) := by
    by_cases h : x.f0.size + 2 + x.f1.size ≤ 512
    · simp only [h, decide_true, Bool.not_true, decide_eq_false_iff_not]; omega
    · simp only [h, decide_false, Bool.not_false, decide_eq_true_eq]; omega
  unfold head_May_1.f text_Token.f text_Visible.f text_Trim.f okF tokenB visB
  rw [if_pos (show x.f0.size ≤ 9223372036854775807 by omega), if_pos (show x.f1.size ≤ 9223372036854775807 by omega), if_pos (show x.f1.size ≤ 9223372036854775807 by omega)]
  simp only [Option.bind_some, hw, h5, ByteArray.toList_eq]
  generalize (!x.f0.data.toList.isEmpty && (bytesOf x.f0).all tokI) = a
  generalize (bytesOf x.f1).all shownI = b
  by_cases he : (trimB x.f1).data.toList = x.f1.data.toList
  · cases a <;> cases b <;> simp [he]
  · have hb : ((trimB x.f1).data.toList == x.f1.data.toList) = false := beq_eq_false_iff_ne.2 he
    rw [if_neg he, hb]
    cases a <;> cases b <;> rfl

set_option maxHeartbeats 1000000 in
theorem head_May.calls (A0 : Option Addr) (c0 : Nat) (l0 : List S45) (r : Bool) (w : World) (hr0 : Kd.C k45 w A0 l0.length l0) (hc0 : l0.length ≤ c0) (h : head_May.f l0 = some r) :
    Calls Tryd.prog 16 #[.slice A0 l0.length c0] w fun e w' => e = .returned (.bool r) ∧ Below w.heap.size w w' := by
  unfold head_May.f at h
  split at h
  · rename_i hf
    obtain rfl := Option.some.inj h
    clear h
    have hC := containsFields A0 c0 l0 36 #[] (enters_of Tryd.func36 (by kernel_rfl) rfl) (fun x => !okF x) w hr0
      (fun W x hx _ => head_May_1.calls x.f0 x.f1 _ W (may1_tells x (List.all_eq_true.1 hf x hx)))
    rw [show (l0.any fun x => !okF x) = !l0.all okF by rw [← List.not_all_eq_any_not]] at hC
    have hm := hr0.2.1
    unfold mayB
    by_cases h32 : l0.length ≤ 32
    · cases ha : l0.all okF with
      | false =>
        rw [ha] at hC
        have HC := Aside0.mk hC
        clear hC ha hf hr0 hc0
        rw [decide_eq_true h32]
        go_enter Tryd.func16, Tryd.ntmps16
        go_wp2_with fail
        refine HC.out.mono ?_
        rintro e w' ⟨rfl, hb⟩
        go_wp2
        go_ret
        exact ⟨rfl, hb⟩
      | true =>
        rw [ha] at hC
        have hlen : (plainB l0).length < 140737488355328 := by
          have h1 : ∀ m : List S45, m.all okF = true → (m.flatMap (fun x => bytesOf (lineB x))).length ≤ m.length * 514 := by
            intro m
            induction m with
            | nil => intro _; simp
            | cons x r ih =>
              intro hm
              rw [List.all_cons, Bool.and_eq_true] at hm
              have h2 : x.f0.size + 2 + x.f1.size ≤ 512 := by
                have := hm.1
                unfold okF at this
                simp only [Bool.and_eq_true, decide_eq_true_eq] at this
                exact this.2.2.2
              rw [List.flatMap_cons, List.length_append, bytesOf_length, lineB_size, List.length_cons]
              have := ih hm.2
              omega
          have := h1 l0 ha
          unfold plainB
          rw [List.length_append]
          simp only [List.length_cons, List.length_nil]
          omega
        have hP := fun W (hW : Below w.heap.size w W) => head_plain.calls (l0.length + 1) A0 c0 l0 (plainB l0) W (Kd.C_below hr0 hW) hc0 (plain_tells l0 _ (by omega) hlen)
        have HC := Aside0.mk hC
        have HP := Aside0.mk hP
        clear hC hP hf hr0 hc0 ha
        rw [decide_eq_true h32]
        go_enter Tryd.func16, Tryd.ntmps16
        go_wp2_with fail
        refine HC.out.mono ?_
        rintro e w' ⟨rfl, hb⟩
        have HB := Aside0.mk hb
        clear hb
        go_wp2_with fail
        refine (HP.out _ HB.out).mono ?_
        rintro e w2 ⟨v, rfl, ho, hb2⟩
        obtain ⟨A, c, rfl, _⟩ := Kd.R_reads ho
        clear ho
        go_wp2
        go_ret
        exact ⟨congrArg (fun b => Ending.returned (Value.bool b)) (by simp only [Bool.true_and]; congr 1; rw [eq_iff_iff]; omega), HB.out.trans (hb2.mono HB.out.size)⟩
    · have h32' : ¬ (l0.length : Int) ≤ 32 := by omega
      rw [decide_eq_false h32]
      clear hC hr0 hf hc0 h32
      go_enter Tryd.func16, Tryd.ntmps16
      go_wp2_with fail
      go_ret
      exact ⟨rfl, Below.refl _ _⟩
  · exact absurd h (by simp)
end Go.Proofs.YtdofgilfmgdpkaaDoor.P

namespace Go.Proofs.YtdofgilfmgdpkaaDoor.P
open Go.RowKit Go.Proofs.YtdofgilfmgdpkaaDoorW.PrintWords Go.Proofs.YtdofgilfmgdpkaaDoorW.PrintLast Go.Proofs.YtdofgilfmgdpkaaDoorW.PrintMore
attribute [local go_sem] max2_int min2_int max_two min_two max_three min_three max_four min_four
set_option linter.unusedVariables false
set_option linter.unusedSimpArgs false

/-! ### head_Put: function 14 -/
def head_Put.f (k : Nat) (l0 : List (S45)) : Option (List Int × Int) := (head_May.f l0).bind fun t144 => (if t144 = true then ((head_plain.f k l0).bind fun t145 => (some (t145, 0))) else (some (([] : List Int), 1)))
theorem head_Put.mono : ∀ a0 k, LeO (head_Put.f k a0) (head_Put.f (k + 1) a0) := by
  intro a0 k
  unfold head_Put.f
  repeat' first
      | (with_reducible exact head_plain.mono _ _)
      | (with_reducible exact LeO.refl _)
      | (with_reducible exact LeO.none _)
      | (with_reducible refine LeO.ite ?_ ?_)
      | (with_reducible refine LeO.bind ?_ (fun _ => ?_))
      | exact head_plain.mono _ _
      | exact LeO.none _
      | refine LeO.ite ?_ ?_
      | refine LeO.bind ?_ (fun _ => ?_)
set_option maxHeartbeats 8000000 in
set_option maxRecDepth 100000 in
theorem head_Put.calls (k : Nat) (A0 : Option Addr) (c0 : Nat) (l0 : List (S45)) (r1 : List Int) (r2 : Int) (w : World) (hr0 : Kd.C k45 w A0 l0.length l0) (hc0 : l0.length ≤ c0) (h : head_Put.f k l0 = some (r1, r2)) :
    Calls Tryd.prog 14 #[.slice A0 l0.length c0] w fun e w' => ∃ v0_ : Value, e = .returned (.tuple #[v0_, .int .i64 r2]) ∧ Kd.R (Kd.int .u8) 5 w' w.heap.size (fun _ => True) v0_ r1 ∧ Below w.heap.size w w' := by
  have HR0 := Aside0.mk hr0
  have HC0 := Aside0.mk hc0
  clear hr0 hc0
  have HB := Aside0.mk (Below.refl w.heap.size w)
  have H : ((head_May.f l0).bind fun t144 => (if t144 = true then ((head_plain.f k l0).bind fun t145 => (some (t145, 0))) else (some (([] : List Int), 1)))) = some (r1, r2) := h
  clear h
  replace H := Option.bind_eq_some_iff.mp H
  obtain ⟨t144, A20, H⟩ := H
  replace H : (if t144 = true then ((head_plain.f k l0).bind fun t145 => (some (t145, 0))) else (some (([] : List Int), 1))) = some (r1, r2) := H
  have A2 := Aside0.mk A20
  clear A20
  by_cases c3 : t144 = true
  · subst c3
    have H1 : ((head_plain.f k l0).bind fun t145 => (some (t145, 0))) = some (r1, r2) := by rw [if_pos rfl] at H; exact H
    clear H
    have H := H1
    clear H1
    replace H := Option.bind_eq_some_iff.mp H
    obtain ⟨t145, A40, H⟩ := H
    replace H : (some (t145, 0)) = some (r1, r2) := H
    have A4 := Aside0.mk A40
    clear A40
    simp only [Option.some.injEq, Prod.mk.injEq] at H
    obtain ⟨rfl, rfl⟩ := H
    go_enter Tryd.func14, Tryd.ntmps14
    go_wp2_with (first | ((with_reducible refine gate_callee (f := 16) rfl ?_); refine goesL_ (some 5) rfl rfl Tryd.func16 (by kernel_rfl) rfl #[.slice A0 l0.length c0] rfl (by (try simp only [List.map_toArray, List.map_cons, List.map_nil]); first | done | rfl | (simp only [List.length_drop, List.length_take]; rfl)) ?_; (with_reducible refine (head_May.calls _ _ l0 true _ ?side1 ?side2 A2.out).mono ?_); (case side1 => repeat (first | exact HR0.out | (with_reducible refine Kd.C_alloc ?_ _) | (with_reducible refine Kd.C_drewN ?_ _) | (with_reducible refine Kd.C_drew ?_))); (case side2 => exact HC0.out); rintro e w5 ⟨rfl, hb⟩; refine ⟨_, rfl, ?_⟩; have n0_ := Aside0.mk (below_step (by repeat (first | (with_reducible first | exact HB.out | apply below_alloc | apply pw_below_drewN | apply below_drew1) | exact HB.out)) hb); clear HB; have HB := n0_; clear n0_; (try clear hb); (try clear hb2); (try clear hk); (try clear hi)) | ((with_reducible refine gate_callee (f := 35) rfl ?_); refine goesL_ (some 8) rfl rfl Tryd.func35 (by kernel_rfl) rfl #[.slice A0 l0.length c0] rfl (by (try simp only [List.map_toArray, List.map_cons, List.map_nil]); first | done | rfl | (simp only [List.length_drop, List.length_take]; rfl)) ?_; (with_reducible refine (head_plain.calls k _ _ l0 t145 _ ?side1 ?side2 A4.out).mono ?_); (case side1 => repeat (first | exact (Kd.C_below HR0.out HB.out) | (with_reducible refine Kd.C_alloc ?_ _) | (with_reducible refine Kd.C_drewN ?_ _) | (with_reducible refine Kd.C_drew ?_))); (case side2 => exact HC0.out); rintro e w6 ⟨v146, rfl, ho0, hb⟩; refine ⟨_, rfl, ?_⟩; have n0_ := Aside0.mk (Kd.R_lower ho0 (below_size (by repeat (first | (with_reducible first | exact HB.out | apply below_alloc | apply pw_below_drewN | apply below_drew1) | exact HB.out)))); have n1_ := Aside0.mk (below_step (by repeat (first | (with_reducible first | exact HB.out | apply below_alloc | apply pw_below_drewN | apply below_drew1) | exact HB.out)) hb); clear HB; have HO147 := n0_; have HB := n1_; clear n0_ n1_; (try clear hb); (try clear hb2); (try clear hk); (try clear hi); (try clear ho0)))
    go_ret2
    exact ⟨_, by first | rfl | (simp [errW_none, errW_some] <;> rfl) | (simp [*, errW_none, errW_some] <;> rfl), by (with_reducible repeat (first | apply Kd.R_alloc | apply Kd.R_drewN | apply Kd.R_drew)); exact HO147.out, by repeat (first | (with_reducible first | exact HB.out | apply below_alloc | apply pw_below_drewN | apply below_drew1) | exact HB.out)⟩
  · replace c3 := Bool.eq_false_iff.mpr c3
    subst c3
    have H1 : (some (([] : List Int), 1)) = some (r1, r2) := by rw [if_neg (show ¬ (false = true) by decide)] at H; exact H
    clear H
    have H := H1
    clear H1
    simp only [Option.some.injEq, Prod.mk.injEq] at H
    obtain ⟨rfl, rfl⟩ := H
    go_enter Tryd.func14, Tryd.ntmps14
    go_wp2_with (first | ((with_reducible refine gate_callee (f := 16) rfl ?_); refine goesL_ (some 5) rfl rfl Tryd.func16 (by kernel_rfl) rfl #[.slice A0 l0.length c0] rfl (by (try simp only [List.map_toArray, List.map_cons, List.map_nil]); first | done | rfl | (simp only [List.length_drop, List.length_take]; rfl)) ?_; (with_reducible refine (head_May.calls _ _ l0 false _ ?side1 ?side2 A2.out).mono ?_); (case side1 => repeat (first | exact HR0.out | (with_reducible refine Kd.C_alloc ?_ _) | (with_reducible refine Kd.C_drewN ?_ _) | (with_reducible refine Kd.C_drew ?_))); (case side2 => exact HC0.out); rintro e w7 ⟨rfl, hb⟩; refine ⟨_, rfl, ?_⟩; have n0_ := Aside0.mk (below_step (by repeat (first | (with_reducible first | exact HB.out | apply below_alloc | apply pw_below_drewN | apply below_drew1) | exact HB.out)) hb); clear HB; have HB := n0_; clear n0_; (try clear hb); (try clear hb2); (try clear hk); (try clear hi)))
    go_ret2
    exact ⟨_, by first | rfl | (simp [errW_none, errW_some] <;> rfl) | (simp [*, errW_none, errW_some] <;> rfl), by first | exact Kd.R_nil _ _ _ _ _ | exact Kd.N_nil _ _ _ _ _ | exact Kd.V_nil _ _ _ _ _ | exact Kd.Q_nil _ _ _ _ _ | exact Kd.S_nil _ _ _ _ _, by repeat (first | (with_reducible first | exact HB.out | apply below_alloc | apply pw_below_drewN | apply below_drew1) | exact HB.out)⟩

end Go.Proofs.YtdofgilfmgdpkaaDoor.P

/- head.reader.next, in its three ways. -/
namespace Go.Proofs.YtdofgilfmgdpkaaDoor.P
open Go.RowKit Go.Proofs.YtdofgilfmgdpkaaDoorW.PrintWords Go.Proofs.YtdofgilfmgdpkaaDoorW.PrintLast Go.Proofs.YtdofgilfmgdpkaaDoorW.PrintMore

/-- Block g is a reader: its bytes, its place, the byte read last. -/
def Rd (g : Nat) (A : Option Addr) (n c : Nat) (pl : Int) (ch : Int) (w : World) : Prop := w.heap[g]? = some (.cells #[.slice A n c, .int .i64 pl, .int .u8 ch] 57 (0, 0))
theorem Rd.cells {g : Nat} {A : Option Addr} {n c : Nat} {pl ch : Int} {w : World} (h : Rd g A n c pl ch w) : w.cell? ⟨g, 0, none⟩ = some (.slice A n c) ∧ w.cell? ⟨g, 1, none⟩ = some (.int .i64 pl) ∧ w.cell? ⟨g, 2, none⟩ = some (.int .u8 ch) ∧ w.frozen? ⟨g, 1, none⟩ = false ∧ w.frozen? ⟨g, 2, none⟩ = false :=
  ⟨(blk_cell h 0).trans rfl, (blk_cell h 1).trans rfl, (blk_cell h 2).trans rfl, blk_frozen h 1, blk_frozen h 2⟩

set_option maxHeartbeats 1000000 in
theorem next_more (g : Nat) (A : Option Addr) (n c : Nat) (ch : Int) (w : World) (hn : n ≤ 9223372036854775807) (h : Rd g A n c (n : Int) ch w) :
    Calls Tryd.prog 29 #[.pointer (some ⟨g, 0, none⟩)] w fun e w' => e = .returned (.int .i64 8) ∧ Drawn0 w w' := by
  obtain ⟨c0, c1, c2, _, _⟩ := h.cells
  clear h
  go_enter Tryd.func29, Tryd.ntmps29
  go_wp2
  go_quiet (fail)
  go_wp2
  go_ret
  exact ⟨rfl, ⟨_, rfl⟩⟩

set_option maxHeartbeats 1000000 in
theorem next_big (g : Nat) (A : Option Addr) (n c : Nat) (ch : Int) (w : World) (hn : n ≤ 9223372036854775807) (hne : 2048 < n) (h : Rd g A n c 2048 ch w) :
    Calls Tryd.prog 29 #[.pointer (some ⟨g, 0, none⟩)] w fun e w' => e = .returned (.int .i64 21) ∧ Drawn0 w w' := by
  obtain ⟨c0, c1, c2, _, _⟩ := h.cells
  have e1 : ((2048 : Int) == (n : Int)) = false := beq_eq_false_iff_ne.2 (by omega)
  clear h
  go_enter Tryd.func29, Tryd.ntmps29
  go_wp2
  go_quiet (fail)
  go_wp2
  go_ret
  exact ⟨rfl, ⟨_, rfl⟩⟩

set_option maxHeartbeats 1000000 in
theorem next_ok (g : Nat) (ad : Addr) (n c k : Nat) (ch x : Int) (w : World) (hn : n ≤ 9223372036854775807) (hk : k < n) (hk2 : k ≠ 2048) (h : Rd g (some ad) n c (k : Int) ch w) (hx : w.cell? (ad.add k) = some (.int .u8 x)) (hg : ad.block ≠ g) :
    Calls Tryd.prog 29 #[.pointer (some ⟨g, 0, none⟩)] w fun e w' => e = .returned (.int .i64 0) ∧ Rd g (some ad) n c ((k : Int) + 1) x w' ∧ KBut w w' g := by
  obtain ⟨c0, c1, c2, f1, f2⟩ := h.cells
  have e1 : ((k : Int) == (n : Int)) = false := beq_eq_false_iff_ne.2 (by omega)
  have e2 : ((k : Int) == 2048) = false := beq_eq_false_iff_ne.2 (by omega)
  have HR := Aside0.mk h
  clear h
  go_enter Tryd.func29, Tryd.ntmps29
  go_wp2
  go_quiet (fail)
  go_wp2
  go_region
  go_wp2
  go_ret
  refine ⟨rfl, ?_, ?_⟩
  · exact blk_set (blk_set (blk_drewN HR.out _) 2 _) 1 _
  · exact ((KBut.of_below (Drawn0.below ⟨_, rfl⟩) g).set 2 _).set 1 _
end Go.Proofs.YtdofgilfmgdpkaaDoor.P

namespace Go.Proofs.YtdofgilfmgdpkaaDoor.P
open Go.RowKit Go.Proofs.YtdofgilfmgdpkaaDoorW.PrintWords Go.Proofs.YtdofgilfmgdpkaaDoorW.PrintLast Go.Proofs.YtdofgilfmgdpkaaDoorW.PrintMore
attribute [local go_sem] max2_int min2_int max_two min_two max_three min_three max_four min_four
set_option linter.unusedVariables false
set_option linter.unusedSimpArgs false

/-! ### head_token: function 30 -/
def head_token.f (a0 : Int) : Option (Bool) := (text_Token.f (strOfNums (([a0] : List Int)))).bind fun t108 => (some t108)
set_option maxHeartbeats 8000000 in
set_option maxRecDepth 100000 in
theorem head_token.calls (a0 : Int) (r : Bool) (w : World) (h : head_token.f a0 = some r) :
    Calls Tryd.prog 30 #[.int .u8 a0] w fun e w' => e = .returned (.bool r) ∧ Below w.heap.size w w' := by
  have HB := Aside0.mk (Below.refl w.heap.size w)
  have H : ((text_Token.f (strOfNums (([a0] : List Int)))).bind fun t108 => (some t108)) = some r := h
  clear h
  obtain ⟨y105, hy105⟩ : ∃ y_ : List Int, y_ = (([a0] : List Int)) := ⟨_, rfl⟩
  replace H : ((text_Token.f (strOfNums y105)).bind fun t108 => (some t108)) = some r := by first | (rw [hy105]; with_reducible exact H) | (have H2_ := (Option.bind_some _ _).symm.trans H; rw [hy105]; with_reducible exact H2_) | (have H2_ := (Option.bind_some _ _).symm.trans H; with_reducible exact H2_) | with_reducible exact H | (rw [hy105]; exact H) | exact H
  have Ny105 := Aside0.mk hy105
  clear hy105
  replace H := Option.bind_eq_some_iff.mp H
  obtain ⟨t108, A20, H⟩ := H
  replace H : (some t108) = some r := H
  have A2 := Aside0.mk A20
  clear A20
  obtain rfl := Option.some.inj H
  go_enter Tryd.func30, Tryd.ntmps30
  go_wp2_with (first | ((with_reducible refine gate_dst (N := 4) rfl ?_); refine Kd.R_lit (Kd.int .u8) _ 5 ?hg (N := 4) ?hd (xs := ([a0] : List Int)) (inner := [.int .u8 a0]) (ok := fun _ => True) (okp := fun _ => True) ?hr ?hp (fun _ hk => hk) trivial (Below.refl _ _) (Nat.le_refl _) (by simp) ?_; (case hd => rfl); (case hg => rfl); (case hr => first | (go_simp; done) | (go_simp; rfl)); (case hp => exact (Reps.one (show Kd.M (Kd.int .u8) _ _ _ a0 [.int .u8 a0] from rfl) (Reps.none _ _))); intro v106 w3 ho4 hb hg_ hnew_; clear hg_ hnew_; (first | rw [← Ny105.out] at ho4 | (simp only [Int.reduceToNat] at ho4; rw [← Ny105.out] at ho4)); have n0_ := Aside0.mk (Kd.R_lower ho4 (below_size (by repeat (first | (with_reducible first | exact HB.out | apply below_alloc | apply pw_below_drewN | apply below_drew1) | exact HB.out)))); have n1_ := Aside0.mk (below_step (by repeat (first | (with_reducible first | exact HB.out | apply below_alloc | apply pw_below_drewN | apply below_drew1) | exact HB.out)) hb); clear HB; have HO107 := n0_; have HB := n1_; clear n0_ n1_; clear hb ho4; have hcv5 := own_string (P := Tryd.prog) Tryd.underlying22 Tryd.underlying5 Tryd.underlying9 (Kd.own_of_R HO107.out)) | ((with_reducible refine gate_callee (f := 25) rfl ?_); refine goesL_ (some 6) rfl rfl Tryd.func25 (by kernel_rfl) rfl #[.string (strOfNums y105)] rfl (by (try simp only [List.map_toArray, List.map_cons, List.map_nil]); first | done | rfl | (simp only [List.length_drop, List.length_take]; rfl)) ?_; (with_reducible refine (text_Token.calls (strOfNums y105) t108 _ A2.out).mono ?_); rintro e w6 ⟨rfl, hb⟩; refine ⟨_, rfl, ?_⟩; have n0_ := Aside0.mk (Kd.R_below (by (with_reducible repeat (first | apply Kd.R_alloc | apply Kd.R_drewN | apply Kd.R_drew)); exact HO107.out) hb); have n1_ := Aside0.mk (below_step (by repeat (first | (with_reducible first | exact HB.out | apply below_alloc | apply pw_below_drewN | apply below_drew1) | exact HB.out)) hb); clear HO107; clear HB; have HO107 := n0_; have HB := n1_; clear n0_ n1_; (try clear hb); (try clear hb2); (try clear hk); (try clear hi)))
  go_ret
  exact ⟨by first | rfl | (simp [errW_none, errW_some] <;> rfl) | (simp [*, errW_none, errW_some] <;> rfl), by repeat (first | (with_reducible first | exact HB.out | apply below_alloc | apply pw_below_drewN | apply below_drew1) | exact HB.out)⟩

end Go.Proofs.YtdofgilfmgdpkaaDoor.P

namespace Go.Proofs.YtdofgilfmgdpkaaDoor.P
open Go.RowKit Go.Proofs.YtdofgilfmgdpkaaDoorW.PrintWords Go.Proofs.YtdofgilfmgdpkaaDoorW.PrintLast Go.Proofs.YtdofgilfmgdpkaaDoorW.PrintMore
attribute [local go_sem] max2_int min2_int max_two min_two max_three min_three max_four min_four
set_option linter.unusedVariables false
set_option linter.unusedSimpArgs false

/-! ### head_shown: function 31 -/
def head_shown.f (a0 : Int) : Option (Bool) := (text_Visible.f (strOfNums (([a0] : List Int)))).bind fun t112 => (some t112)
set_option maxHeartbeats 8000000 in
set_option maxRecDepth 100000 in
theorem head_shown.calls (a0 : Int) (r : Bool) (w : World) (h : head_shown.f a0 = some r) :
    Calls Tryd.prog 31 #[.int .u8 a0] w fun e w' => e = .returned (.bool r) ∧ Below w.heap.size w w' := by
  have HB := Aside0.mk (Below.refl w.heap.size w)
  have H : ((text_Visible.f (strOfNums (([a0] : List Int)))).bind fun t112 => (some t112)) = some r := h
  clear h
  obtain ⟨y109, hy109⟩ : ∃ y_ : List Int, y_ = (([a0] : List Int)) := ⟨_, rfl⟩
  replace H : ((text_Visible.f (strOfNums y109)).bind fun t112 => (some t112)) = some r := by first | (rw [hy109]; with_reducible exact H) | (have H2_ := (Option.bind_some _ _).symm.trans H; rw [hy109]; with_reducible exact H2_) | (have H2_ := (Option.bind_some _ _).symm.trans H; with_reducible exact H2_) | with_reducible exact H | (rw [hy109]; exact H) | exact H
  have Ny109 := Aside0.mk hy109
  clear hy109
  replace H := Option.bind_eq_some_iff.mp H
  obtain ⟨t112, A20, H⟩ := H
  replace H : (some t112) = some r := H
  have A2 := Aside0.mk A20
  clear A20
  obtain rfl := Option.some.inj H
  go_enter Tryd.func31, Tryd.ntmps31
  go_wp2_with (first | ((with_reducible refine gate_dst (N := 4) rfl ?_); refine Kd.R_lit (Kd.int .u8) _ 5 ?hg (N := 4) ?hd (xs := ([a0] : List Int)) (inner := [.int .u8 a0]) (ok := fun _ => True) (okp := fun _ => True) ?hr ?hp (fun _ hk => hk) trivial (Below.refl _ _) (Nat.le_refl _) (by simp) ?_; (case hd => rfl); (case hg => rfl); (case hr => first | (go_simp; done) | (go_simp; rfl)); (case hp => exact (Reps.one (show Kd.M (Kd.int .u8) _ _ _ a0 [.int .u8 a0] from rfl) (Reps.none _ _))); intro v110 w3 ho4 hb hg_ hnew_; clear hg_ hnew_; (first | rw [← Ny109.out] at ho4 | (simp only [Int.reduceToNat] at ho4; rw [← Ny109.out] at ho4)); have n0_ := Aside0.mk (Kd.R_lower ho4 (below_size (by repeat (first | (with_reducible first | exact HB.out | apply below_alloc | apply pw_below_drewN | apply below_drew1) | exact HB.out)))); have n1_ := Aside0.mk (below_step (by repeat (first | (with_reducible first | exact HB.out | apply below_alloc | apply pw_below_drewN | apply below_drew1) | exact HB.out)) hb); clear HB; have HO111 := n0_; have HB := n1_; clear n0_ n1_; clear hb ho4; have hcv5 := own_string (P := Tryd.prog) Tryd.underlying22 Tryd.underlying5 Tryd.underlying9 (Kd.own_of_R HO111.out)) | ((with_reducible refine gate_callee (f := 26) rfl ?_); refine goesL_ (some 6) rfl rfl Tryd.func26 (by kernel_rfl) rfl #[.string (strOfNums y109)] rfl (by (try simp only [List.map_toArray, List.map_cons, List.map_nil]); first | done | rfl | (simp only [List.length_drop, List.length_take]; rfl)) ?_; (with_reducible refine (text_Visible.calls (strOfNums y109) t112 _ A2.out).mono ?_); rintro e w6 ⟨rfl, hb⟩; refine ⟨_, rfl, ?_⟩; have n0_ := Aside0.mk (Kd.R_below (by (with_reducible repeat (first | apply Kd.R_alloc | apply Kd.R_drewN | apply Kd.R_drew)); exact HO111.out) hb); have n1_ := Aside0.mk (below_step (by repeat (first | (with_reducible first | exact HB.out | apply below_alloc | apply pw_below_drewN | apply below_drew1) | exact HB.out)) hb); clear HO111; clear HB; have HO111 := n0_; have HB := n1_; clear n0_ n1_; (try clear hb); (try clear hb2); (try clear hk); (try clear hi)))
  go_ret
  exact ⟨by first | rfl | (simp [errW_none, errW_some] <;> rfl) | (simp [*, errW_none, errW_some] <;> rfl), by repeat (first | (with_reducible first | exact HB.out | apply below_alloc | apply pw_below_drewN | apply below_drew1) | exact HB.out)⟩

end Go.Proofs.YtdofgilfmgdpkaaDoor.P

/- head.Parse: what it tells; and the law of a scope with several labels. -/
namespace Go
/-- As Q; by a goto to a label l: what J says of l. -/
def Exit.jumpsYtdofgilfmgdpkaaDoor (J : Nat → Act → World → Prop) (Q : Exit → Act → World → Prop) : Exit → Act → World → Prop
  | .goto l, a, w => J l a w
  | e, a, w => Q e a w
section
variable {P : Program} {a : Act} {w : World} {Q : Exit → Act → World → Prop}
/-- Whatever J says at a label, at a ghost that G lets in, the code behind the label goes on. -/
def FallsYtdofgilfmgdpkaaDoor (P : Program) (c : Code) (J : Nat → Nat → Act → World → Prop) (Q : Exit → Act → World → Prop) (G : Nat → Prop) : Prop :=
  ∀ g, G g → ∀ l a w, J g l a w → ∀ rest, findLabel c l = some (.seq .skip rest) → rest.wp P (Exit.jumpsYtdofgilfmgdpkaaDoor (fun l a w => ∃ g, G g ∧ J g l a w) Q) a w
theorem wp_scope_labelsYtdofgilfmgdpkaaDoor {c : Code} (J : Nat → Nat → Act → World → Prop)
    (first : FallsYtdofgilfmgdpkaaDoor P c J Q (fun _ => True) → c.wp P (Exit.jumpsYtdofgilfmgdpkaaDoor (fun l a w => ∃ g, True ∧ J g l a w) Q) a w)
    (pass : ∀ g, FallsYtdofgilfmgdpkaaDoor P c J Q (fun g' => g' < g) →
      ∀ l a w, J g l a w → ∃ rest, findLabel c l = some (.seq .skip rest) ∧ rest.wp P (Exit.jumpsYtdofgilfmgdpkaaDoor (fun l a w => ∃ g', g' < g ∧ J g' l a w) Q) a w) : (Code.scope c).wp P Q a w := by
  have pass : ∀ g l a w, J g l a w → ∃ rest, findLabel c l = some (.seq .skip rest) ∧ rest.wp P (Exit.jumpsYtdofgilfmgdpkaaDoor (fun l a w => ∃ g', g' < g ∧ J g' l a w) Q) a w := by
    intro g
    induction g using Nat.strongRecOn with
    | _ g ih =>
      refine pass g fun g' hlt l a w hJ rest hr => ?_
      obtain ⟨rest', hf, hw⟩ := ih g' hlt l a w hJ
      rw [hr] at hf
      obtain rfl : rest = rest' := by injection hf with h; injection h
      refine wp_mono hw ?_
      intro e a w hq
      cases e <;> first | exact hq | exact ⟨_, Nat.lt_trans hq.choose_spec.1 hlt, hq.choose_spec.2⟩
  have first := first fun g _ l a w hJ rest hr => by
    obtain ⟨rest', hf, hw⟩ := pass g l a w hJ
    rw [hr] at hf
    obtain rfl : rest = rest' := by injection hf with h; injection h
    refine wp_mono hw ?_
    intro e a w hq
    cases e <;> first | exact hq | exact ⟨_, trivial, hq.choose_spec.2⟩
  have first := wp_mono first (Q' := Exit.jumpsYtdofgilfmgdpkaaDoor (fun l a w => ∃ g, J g l a w) Q) fun e a w hq => by cases e <;> first | exact hq | exact ⟨_, hq.choose_spec.2⟩
  have pass : ∀ g l a w, J g l a w → ∃ rest, findLabel c l = some rest ∧ rest.wp P (Exit.jumpsYtdofgilfmgdpkaaDoor (fun l a w => ∃ g', g' < g ∧ J g' l a w) Q) a w := fun g l a w hJ => by
    obtain ⟨rest, hf, hw⟩ := pass g l a w hJ
    exact ⟨_, hf, wp_seq (wp_skip hw)⟩
  intro b k cs
  have hgo : ∀ l rest, findLabel c l = some rest → gotoIn l (.inScope c :: k) = some (.code rest :: .inScope c :: k) := fun l rest hf => by simp [gotoIn, hf]
  have key : ∀ n l a w, J n l a w → ∀ rest, findLabel c l = some rest → ∃ e a' w', Q e a' w' ∧ Arrives P (lone (b.at a (.code rest :: .inScope c :: k)) cs w) b k cs e a' w' := by
    intro n
    induction n using Nat.strongRecOn with
    | _ n ih =>
      intro l a w hJ rest hrest
      obtain ⟨rest', hf, hw⟩ := pass n l a w hJ
      rw [hrest] at hf
      obtain rfl := Option.some.inj hf
      obtain ⟨e, a₁, w₁, hq, harr⟩ := hw b (.inScope c :: k) cs
      cases e with
      | normal => exact ⟨.normal, a₁, w₁, hq, Steps.trans harr (.one step_inScope)⟩
      | exit id => exact ⟨.exit id, a₁, w₁, hq, fun k' hk => harr k' (by simp [exitTo, hk])⟩
      | goto l' =>
        obtain ⟨g', hlt, hJ'⟩ := hq
        obtain ⟨rest2, hf2, _⟩ := pass g' l' a₁ w₁ hJ'
        obtain ⟨e₂, a₂, w₂, hq₂, harr₂⟩ := ih g' hlt l' a₁ w₁ hJ' rest2 hf2
        exact ⟨e₂, a₂, w₂, hq₂, .of_steps (harr _ (hgo l' rest2 hf2)) harr₂⟩
      | ret => exact ⟨_, a₁, w₁, hq, harr⟩
      | panic ch => exact ⟨_, a₁, w₁, hq, harr⟩
      | outgrown => exact ⟨_, a₁, w₁, hq, harr⟩
  obtain ⟨e, a₁, w₁, hq, harr⟩ := first b (.inScope c :: k) cs
  cases e with
  | normal => exact ⟨.normal, a₁, w₁, hq, .head step_scope (Steps.trans harr (.one step_inScope))⟩
  | exit id => exact ⟨.exit id, a₁, w₁, hq, fun k' hk => .head step_scope (harr k' (by simp [exitTo, hk]))⟩
  | goto l' =>
    obtain ⟨g', hJ'⟩ := hq
    obtain ⟨rest2, hf2, _⟩ := pass g' l' a₁ w₁ hJ'
    obtain ⟨e₂, a₂, w₂, hq₂, harr₂⟩ := key _ l' a₁ w₁ hJ' rest2 hf2
    exact ⟨e₂, a₂, w₂, hq₂, .of_steps (.head step_scope (harr _ (hgo l' rest2 hf2))) harr₂⟩
  | ret => exact ⟨_, a₁, w₁, hq, .of_steps (.one step_scope) harr⟩
  | panic ch => exact ⟨_, a₁, w₁, hq, .of_steps (.one step_scope) harr⟩
  | outgrown => exact ⟨_, a₁, w₁, hq, .of_steps (.one step_scope) harr⟩
theorem jumps_retYtdofgilfmgdpkaaDoor {J : Nat → Act → World → Prop} (h : Q .ret a w) : Exit.jumpsYtdofgilfmgdpkaaDoor J Q .ret a w := h
end
end Go
namespace Go.Proofs.YtdofgilfmgdpkaaDoor.P
open Go.RowKit Go.Proofs.YtdofgilfmgdpkaaDoorW.PrintWords Go.Proofs.YtdofgilfmgdpkaaDoorW.PrintLast Go.Proofs.YtdofgilfmgdpkaaDoorW.PrintMore

/-- The first scope in a chain. -/
def firstScope : Code → Code
  | .seq a b => match a with
    | .scope c => c
    | _ => firstScope b
  | .scope c => c
  | _ => .skip
/-- The labels' chain of head.Parse. -/
noncomputable def parseScope : Code := firstScope (Tryd.f9.body.getD .skip)

/-- Where the reading stands: at a line's beginning, in its name, its value, behind its 0d, behind that of the empty line. -/
inductive PM where
  | line | name | value | ended | fin
abbrev PR := List S45 × Int × Int
def pField (b : List Int) (from' to' pl : Nat) : S45 := ⟨strOfNums ((b.drop from').take (to' - 1 - from')), trimB (strOfNums ((b.drop to').take (pl - 1 - to')))⟩
/-- Reading on, a byte a round at the most. -/
def pGo (b : List Int) : Nat → PM → Nat → Nat → Nat → Int → List S45 → Option PR
  | 0, _, _, _, _, _, _ => none
  | k + 1, .line, pl, _, to', _, l =>
    if pl = b.length then some ([], 0, 8) else if pl = 2048 then some ([], 0, 21)
    else if b.getD pl 0 = 13 then pGo b k .fin (pl + 1) pl to' (b.getD pl 0) l
    else if 32 ≤ l.length then some ([], 0, 21)
    else pGo b k .name (pl + 1) pl to' (b.getD pl 0) l
  | k + 1, .name, pl, from', to', c, l =>
    if c = 58 ∧ from' + 1 < pl then pGo b k .value pl from' pl c l
    else if tokI c = false then some ([], 0, 20)
    else if pl = b.length then some ([], 0, 8) else if pl = 2048 then some ([], 0, 21)
    else if ¬ b.getD pl 0 = 13 ∧ 512 < pl + 1 - from' then some ([], 0, 21)
    else pGo b k .name (pl + 1) from' to' (b.getD pl 0) l
  | k + 1, .value, pl, from', to', _, l =>
    if pl = b.length then some ([], 0, 8) else if pl = 2048 then some ([], 0, 21)
    else if b.getD pl 0 = 13 then pGo b k .ended (pl + 1) from' to' (b.getD pl 0) l
    else if 512 < pl + 1 - from' then some ([], 0, 21)
    else if shownI (b.getD pl 0) = false then some ([], 0, 20)
    else pGo b k .value (pl + 1) from' to' (b.getD pl 0) l
  | k + 1, .ended, pl, from', to', _, l =>
    if pl = b.length then some ([], 0, 8) else if pl = 2048 then some ([], 0, 21)
    else if b.getD pl 0 = 10 then pGo b k .line (pl + 1) from' to' (b.getD pl 0) (l ++ [pField b from' to' pl])
    else some ([], 0, 20)
  | _ + 1, .fin, pl, _, _, _, l =>
    if pl = b.length then some ([], 0, 8) else if pl = 2048 then some ([], 0, 21)
    else if b.getD pl 0 = 10 then some (l, (pl : Int) + 1, 0)
    else some ([], 0, 20)
/-- Whole numbers that are bytes. -/
def isByte (x : Int) : Bool := decide (0 ≤ x) && decide (x ≤ 255)
def head_Parse.f (l0 : List Int) : Option (List S45 × Int × Int) := if l0.length ≤ 140737488355328 ∧ l0.all isByte = true then pGo l0 (2 * l0.length + 2) .line 0 0 0 0 [] else none

theorem one_byte (n : Fin 256) : bytesOf (strOfNums [((n.val : Nat) : Int)]) = [((n.val : Nat) : Int)] := by
  revert n; decide +kernel
theorem byte_fin {x : Int} (h : isByte x = true) : ∃ n : Fin 256, x = ((n.val : Nat) : Int) := by
  unfold isByte at h
  rw [Bool.and_eq_true, decide_eq_true_eq, decide_eq_true_eq] at h
  exact ⟨⟨x.toNat, by omega⟩, by simp; omega⟩
theorem head_token_fin : ∀ n : Fin 256, head_token.f ((n.val : Nat) : Int) = some (tokI ((n.val : Nat) : Int)) := by decide +kernel
theorem head_shown_fin : ∀ n : Fin 256, head_shown.f ((n.val : Nat) : Int) = some (shownI ((n.val : Nat) : Int)) := by decide +kernel
theorem head_token_tells (x : Int) (h : isByte x = true) : head_token.f x = some (tokI x) := by
  obtain ⟨n, rfl⟩ := byte_fin h
  exact head_token_fin n
theorem head_shown_tells (x : Int) (h : isByte x = true) : head_shown.f x = some (shownI x) := by
  obtain ⟨n, rfl⟩ := byte_fin h
  exact head_shown_fin n
end Go.Proofs.YtdofgilfmgdpkaaDoor.P

/- head.Parse: the walk, a part. -/
namespace Go.Proofs.YtdofgilfmgdpkaaDoor.P
open Go.RowKit Go.Proofs.YtdofgilfmgdpkaaDoorW.PrintWords Go.Proofs.YtdofgilfmgdpkaaDoorW.PrintLast Go.Proofs.YtdofgilfmgdpkaaDoorW.PrintMore
/-- What holds at a label. -/
def PLab (b : List Int) (R : PR) (k : Nat) (lab : Nat) (pl from' to' : Nat) (c : Int) (l : List S45) (e9 : Int) : Prop :=
  (lab = 0 ∧ pGo b k .line pl from' to' c l = some R) ∨
  (lab = 6 ∧ pGo b k .name pl from' to' c l = some R ∧ from' < pl ∧ isByte c = true ∧ l.length < 32) ∨
  (lab = 4 ∧ pGo b k .value pl from' to' c l = some R ∧ from' + 1 < to' ∧ to' ≤ pl ∧ l.length < 32) ∨
  (lab = 7 ∧ pGo b k .ended pl from' to' c l = some R ∧ from' + 1 < to' ∧ to' + 1 ≤ pl ∧ l.length < 32) ∨
  (lab = 2 ∧ pGo b k .fin pl from' to' c l = some R) ∨
  (lab = 3 ∧ R = ([], 0, 21)) ∨ (lab = 5 ∧ R = ([], 0, 20)) ∨ (lab = 1 ∧ R = ([], 0, e9))
/-- The frame at a label. -/
def PFr (A : Option Addr) (n c0 : Nat) (B : Nat) (v6 : Value) (from' to' : Nat) (e9 : Int) (a : Act) : Prop :=
  ∃ f : Nat → Value, a = { tmps := #[.slice A n c0, undef, .slice none 0 0, .int .i64 0, .int .i64 0, .pointer (some ⟨B, 0, none⟩), v6, .int .i64 (from' : Int), .int .i64 (to' : Int), .int .i64 e9, f 10, f 11, f 12, f 13, f 14, f 15, f 16, f 17, f 18, f 19, f 20, f 21, f 22, f 23, f 24, f 25, f 26, f 27, f 28, f 29, f 30, f 31, f 32, f 33, f 34, f 35, f 36, f 37, f 38, f 39, f 40, f 41, f 42, f 43, f 44, f 45, f 46, f 47, f 48, f 49, f 50, f 51, f 52, f 53, f 54, f 55, f 56, f 57, f 58, f 59, f 60, f 61, f 62, f 63, f 64, f 65, f 66, f 67, f 68, f 69, f 70, f 71, f 72, f 73, f 74, f 75, f 76, f 77, f 78, f 79, f 80, f 81, f 82, f 83, f 84, f 85, f 86, f 87, f 88, f 89, f 90, f 91, f 92, f 93, f 94, f 95, f 96, f 97, f 98, f 99, f 100, f 101, f 102, f 103, f 104, f 105, f 106, f 107, f 108, f 109, f 110, f 111, f 112, f 113, f 114, f 115, f 116, f 117, f 118, f 119, f 120, f 121, f 122, f 123, f 124, f 125, f 126, f 127, f 128, f 129, f 130, f 131, f 132, f 133, f 134, f 135, f 136, f 137, f 138, f 139, f 140, f 141, f 142, f 143], defers := [] }
theorem PFr.of {A : Option Addr} {n c0 : Nat} {B : Nat} {v6 : Value} {from' to' : Nat} {e9 : Int} (a : Act) (f : Nat → Value) (hf : f = fun n => (a.tmps[n]?).getD undef) (h : a = { tmps := #[.slice A n c0, undef, .slice none 0 0, .int .i64 0, .int .i64 0, .pointer (some ⟨B, 0, none⟩), v6, .int .i64 (from' : Int), .int .i64 (to' : Int), .int .i64 e9, f 10, f 11, f 12, f 13, f 14, f 15, f 16, f 17, f 18, f 19, f 20, f 21, f 22, f 23, f 24, f 25, f 26, f 27, f 28, f 29, f 30, f 31, f 32, f 33, f 34, f 35, f 36, f 37, f 38, f 39, f 40, f 41, f 42, f 43, f 44, f 45, f 46, f 47, f 48, f 49, f 50, f 51, f 52, f 53, f 54, f 55, f 56, f 57, f 58, f 59, f 60, f 61, f 62, f 63, f 64, f 65, f 66, f 67, f 68, f 69, f 70, f 71, f 72, f 73, f 74, f 75, f 76, f 77, f 78, f 79, f 80, f 81, f 82, f 83, f 84, f 85, f 86, f 87, f 88, f 89, f 90, f 91, f 92, f 93, f 94, f 95, f 96, f 97, f 98, f 99, f 100, f 101, f 102, f 103, f 104, f 105, f 106, f 107, f 108, f 109, f 110, f 111, f 112, f 113, f 114, f 115, f 116, f 117, f 118, f 119, f 120, f 121, f 122, f 123, f 124, f 125, f 126, f 127, f 128, f 129, f 130, f 131, f 132, f 133, f 134, f 135, f 136, f 137, f 138, f 139, f 140, f 141, f 142, f 143], defers := [] }) : PFr A n c0 B v6 from' to' e9 a := ⟨f, h⟩
/-- What lies in memory at a label. -/
structure PS (b : List Int) (A : Option Addr) (c0 : Nat) (w wr : World) (pl : Nat) (c : Int) (v6 : Value) (l : List S45) : Prop where
  rd : Rd w.heap.size A b.length c0 (pl : Int) c wr
  own : Kd.R k45 45 wr w.heap.size (fun k => k ≠ w.heap.size) v6 l
  below : Below w.heap.size w wr
  at_le : pl ≤ b.length
  num : l.length ≤ 32
/-- What is known of the bytes. -/
structure PC (b : List Int) (A : Option Addr) (c0 : Nat) (w : World) : Prop where
  reads : Kd.C (Kd.int .u8) w A b.length b
  cap : b.length ≤ c0
  small : b.length ≤ 140737488355328
  bytes : b.all isByte = true
def PJ (b : List Int) (R : PR) (A : Option Addr) (c0 : Nat) (w : World) (k : Nat) (lab : Nat) (a : Act) (wr : World) : Prop :=
  ∃ (pl from' to' : Nat) (c : Int) (l : List S45) (v6 : Value) (e9 : Int), PFr A b.length c0 w.heap.size v6 from' to' e9 a ∧ PLab b R k lab pl from' to' c l e9 ∧ PS b A c0 w wr pl c v6 l
/-- What is asked at the end. -/
def PEnd (R : PR) (w : World) : Exit → Act → World → Prop := bodyPost Tryd.prog Tryd.f9 fun e w' => ∃ v0_ : Value, e = .returned (.tuple #[v0_, .int .i64 R.2.1, .int .i64 R.2.2]) ∧ Kd.R k45 45 w' w.heap.size (fun _ => True) v0_ R.1 ∧ Below w.heap.size w w'
/-- What a pass from a label shows. -/
def PPass (b : List Int) (R : PR) (A : Option Addr) (c0 : Nat) (w : World) (k : Nat) (lab : Nat) (a : Act) (wr : World) : Prop :=
  ∃ rest, findLabel parseScope lab = some (.seq .skip rest) ∧ rest.wp Tryd.prog (Exit.jumpsYtdofgilfmgdpkaaDoor (fun l a w' => ∃ g', g' < k ∧ PJ b R A c0 w g' l a w') (PEnd R w)) a wr
/-- What next tells, and leaves. -/
def PNext (b : List Int) (A : Option Addr) (c0 : Nat) (w wr w' : World) (pl : Nat) (c : Int) (v6 : Value) (l : List S45) (e9 : Int) : Prop :=
  (pl = b.length ∧ e9 = 8 ∧ PS b A c0 w w' pl c v6 l) ∨ (pl ≠ b.length ∧ pl = 2048 ∧ e9 = 21 ∧ PS b A c0 w w' pl c v6 l) ∨
  (pl ≠ b.length ∧ pl ≠ 2048 ∧ pl < b.length ∧ e9 = 0 ∧ ∃ x, b.getD pl 0 = x ∧ isByte x = true ∧ PS b A c0 w w' (pl + 1) x v6 l)
theorem Rd.drawn {g : Nat} {A : Option Addr} {n c : Nat} {pl ch : Int} {w w' : World} (h : Rd g A n c pl ch w) (hd : Drawn0 w w') : Rd g A n c pl ch w' := by
  obtain ⟨t, rfl⟩ := hd
  exact h
theorem PS.drawn {b : List Int} {A : Option Addr} {c0 : Nat} {w wr w' : World} {pl : Nat} {c : Int} {v6 : Value} {l : List S45} (h : PS b A c0 w wr pl c v6 l) (hd : Drawn0 wr w') : PS b A c0 w w' pl c v6 l :=
  ⟨h.rd.drawn hd, Kd.R_below h.own hd.below, h.below.trans (hd.below.mono h.below.size), h.at_le, h.num⟩
theorem own_shape {v : Value} {l : List S45} {w : World} {base : Nat} {ok : Nat → Prop} (h : Kd.R k45 45 w base ok v l) : ∃ A c, v = .slice A l.length c := by
  rcases RowF.of_R h with ⟨rfl, rfl⟩ | ⟨g, cap, rfl, _, _⟩
  · exact ⟨none, 0, rfl⟩
  · exact ⟨_, _, rfl⟩
theorem PS.later {b : List Int} {A : Option Addr} {c0 : Nat} {w wr w' : World} {pl : Nat} {c : Int} {v6 : Value} {l : List S45} (h : PS b A c0 w wr pl c v6 l) (hb : Below wr.heap.size wr w') : PS b A c0 w w' pl c v6 l := by
  have hlt : w.heap.size < wr.heap.size := (Array.getElem?_eq_some_iff.1 h.rd).1
  exact ⟨(hb.block _ hlt).trans h.rd, Kd.R_below h.own hb, h.below.trans (hb.mono h.below.size), h.at_le, h.num⟩
theorem PS.grown {b : List Int} {A : Option Addr} {c0 : Nat} {w wr w' : World} {pl : Nat} {c : Int} {v6 v1 : Value} {l : List S45} {p : S45} (h : PS b A c0 w wr pl c v6 l) (hg : wr.grownBy w' v6.ownBlock) (ho : Kd.R k45 45 w' w.heap.size (fun k => k ≠ w.heap.size) v1 (l ++ [p])) (hb : Below w.heap.size w w') (hl : l.length < 32) : PS b A c0 w w' pl c v1 (l ++ [p]) := by
  have hlt : w.heap.size < wr.heap.size := (Array.getElem?_eq_some_iff.1 h.rd).1
  exact ⟨(hg.block _ hlt (fun e => h.own.1 _ e.symm rfl)).trans h.rd, ho, hb, h.at_le, by rw [List.length_append]; exact hl⟩
theorem next_tells {b : List Int} {A : Option Addr} {c0 : Nat} {w wr : World} {pl : Nat} {c : Int} {v6 : Value} {l : List S45} (HC : PC b A c0 w) (h : PS b A c0 w wr pl c v6 l) :
    Calls Tryd.prog 29 #[.pointer (some ⟨w.heap.size, 0, none⟩)] wr fun e w' => ∃ e9 : Int, e = .returned (.int .i64 e9) ∧ PNext b A c0 w wr w' pl c v6 l e9 := by
  have hs := HC.small
  have ha := h.at_le
  by_cases h1 : pl = b.length
  · have hr := h.rd
    rw [h1] at hr
    exact (next_more _ A b.length c0 c wr (by omega) hr).mono fun e w' ⟨he, hd⟩ => ⟨8, he, .inl ⟨h1, rfl, h.drawn hd⟩⟩
  · by_cases h2 : pl = 2048
    · have hr := h.rd
      rw [h2] at hr
      exact (next_big _ A b.length c0 c wr (by omega) (by omega) hr).mono fun e w' ⟨he, hd⟩ => ⟨21, he, .inr (.inl ⟨h1, h2, rfl, h.drawn hd⟩)⟩
    · have hlt : pl < b.length := by omega
      obtain ⟨ad, cs, hA, hcs, hK, hcell⟩ := Kd.C_get HC.reads (0 : Int) (pl : Int) (by omega) (by omega)
      subst hA
      have hK' : cs = [.int .u8 (b.getD pl 0)] := hK
      have hx := hcell 0 (.int .u8 (b.getD pl 0)) (by rw [hK']; rfl)
      have hx' : w.cell? (ad.add pl) = some (.int .u8 (b.getD pl 0)) := by simpa [Kd.int, Kd.scalar] using hx
      have hbl := World.block_lt_of_cell? w _ hx'
      have hx2 := (h.below.cell hbl).trans hx'
      have hmem : b.getD pl 0 ∈ b := by rw [List.getD_eq_getElem?_getD, List.getElem?_eq_getElem hlt]; exact List.getElem_mem hlt
      have hby := List.all_eq_true.1 HC.bytes _ hmem
      refine (next_ok w.heap.size ad b.length c0 pl c (b.getD pl 0) wr (by omega) hlt h2 h.rd hx2 (by rw [show (ad.add pl).block = ad.block by unfold Addr.add; split <;> rfl] at hbl; exact Nat.ne_of_lt hbl)).mono fun e w' ⟨he, hr, hk⟩ => ⟨0, he, .inr (.inr ⟨h1, h2, hlt, rfl, _, rfl, hby, hr, ?_, ?_, hlt, h.num⟩)⟩
      · exact Kd.R_step h.own fun k hk1 hk2 => hk.block k hk2 hk1
      · exact h.below.trans (hk.below (Nat.le_refl _) h.below.size)

set_option maxHeartbeats 4000000 in
set_option maxRecDepth 100000 in
theorem lab_big (b : List Int) (R : PR) (A : Option Addr) (c0 : Nat) (w : World) (k : Nat) (a : Act) (wr : World) (HC : Aside0 (PC b A c0 w)) (fall : FallsYtdofgilfmgdpkaaDoor Tryd.prog parseScope (PJ b R A c0 w) (PEnd R w) (fun g' => g' < k))
    (pl from' to' : Nat) (c : Int) (l : List S45) (v6 : Value) (e9 : Int) (hF : PFr A b.length c0 w.heap.size v6 from' to' e9 a) (HS : Aside0 (PS b A c0 w wr pl c v6 l)) (hp : R = ([], 0, 21)) :
    PPass b R A c0 w k 3 a wr := by
  have FALL := Aside0.mk fall
  clear fall
  refine ⟨_, rfl, ?_⟩
  obtain ⟨f, rfl⟩ := hF
  unfold PEnd
  go_wp2
  refine jumps_retYtdofgilfmgdpkaaDoor ?_
  go_ret3
  obtain rfl := hp
  exact ⟨_, rfl, Kd.R_nil _ _ _ _ _, HS.out.below⟩

set_option maxHeartbeats 4000000 in
set_option maxRecDepth 100000 in
theorem lab_bad (b : List Int) (R : PR) (A : Option Addr) (c0 : Nat) (w : World) (k : Nat) (a : Act) (wr : World) (HC : Aside0 (PC b A c0 w)) (fall : FallsYtdofgilfmgdpkaaDoor Tryd.prog parseScope (PJ b R A c0 w) (PEnd R w) (fun g' => g' < k))
    (pl from' to' : Nat) (c : Int) (l : List S45) (v6 : Value) (e9 : Int) (hF : PFr A b.length c0 w.heap.size v6 from' to' e9 a) (HS : Aside0 (PS b A c0 w wr pl c v6 l)) (hp : R = ([], 0, 20)) :
    PPass b R A c0 w k 5 a wr := by
  have FALL := Aside0.mk fall
  clear fall
  refine ⟨_, rfl, ?_⟩
  obtain ⟨f, rfl⟩ := hF
  unfold PEnd
  go_wp2
  refine jumps_retYtdofgilfmgdpkaaDoor ?_
  go_ret3
  obtain rfl := hp
  exact ⟨_, rfl, Kd.R_nil _ _ _ _ _, HS.out.below⟩

set_option maxHeartbeats 4000000 in
set_option maxRecDepth 100000 in
theorem lab_out (b : List Int) (R : PR) (A : Option Addr) (c0 : Nat) (w : World) (k : Nat) (a : Act) (wr : World) (HC : Aside0 (PC b A c0 w)) (fall : FallsYtdofgilfmgdpkaaDoor Tryd.prog parseScope (PJ b R A c0 w) (PEnd R w) (fun g' => g' < k))
    (pl from' to' : Nat) (c : Int) (l : List S45) (v6 : Value) (e9 : Int) (hF : PFr A b.length c0 w.heap.size v6 from' to' e9 a) (HS : Aside0 (PS b A c0 w wr pl c v6 l)) (hp : R = ([], 0, e9)) :
    PPass b R A c0 w k 1 a wr := by
  have FALL := Aside0.mk fall
  clear fall
  refine ⟨_, rfl, ?_⟩
  obtain ⟨f, rfl⟩ := hF
  unfold PEnd
  go_wp2
  refine jumps_retYtdofgilfmgdpkaaDoor ?_
  go_ret3
  obtain rfl := hp
  exact ⟨_, rfl, Kd.R_nil _ _ _ _ _, HS.out.below⟩

set_option maxHeartbeats 4000000 in
set_option maxRecDepth 100000 in
theorem lab_fin (b : List Int) (R : PR) (A : Option Addr) (c0 : Nat) (w : World) (k : Nat) (a : Act) (wr : World) (HC : Aside0 (PC b A c0 w)) (fall : FallsYtdofgilfmgdpkaaDoor Tryd.prog parseScope (PJ b R A c0 w) (PEnd R w) (fun g' => g' < k))
    (pl from' to' : Nat) (c : Int) (l : List S45) (v6 : Value) (e9 : Int) (hF : PFr A b.length c0 w.heap.size v6 from' to' e9 a) (HS : Aside0 (PS b A c0 w wr pl c v6 l)) (hp : pGo b k .fin pl from' to' c l = some R) :
    PPass b R A c0 w k 2 a wr := by
  have FALL := Aside0.mk fall
  clear fall
  refine ⟨_, rfl, ?_⟩
  obtain ⟨f, rfl⟩ := hF
  match k, hp, FALL with
  | 0, hp, _ => exact absurd hp (by simp [pGo])
  | k + 1, hp, FALL =>
    rw [pGo] at hp
    unfold PEnd
    go_wp2_with fail
    refine (next_tells HC.out HS.out).mono ?_
    rintro e w' ⟨e9', rfl, hN⟩
    rcases hN with ⟨h1, rfl, hS⟩ | ⟨h1, h2, rfl, hS⟩ | ⟨h1, h2, h3, rfl, x, hx, hby, hS⟩
    · rw [if_pos h1] at hp
      have hp := Option.some.inj hp
      go_wp2
      refine wp_goto (Exists.intro k ⟨Nat.lt_succ_self k, _, _, _, _, _, _, _, PFr.of _ _ rfl rfl, .inr (.inr (.inr (.inr (.inr (.inr (.inr ⟨rfl, hp.symm⟩)))))), hS⟩)
    · rw [if_neg h1, if_pos h2] at hp
      have hp := Option.some.inj hp
      go_wp2
      refine wp_goto (Exists.intro k ⟨Nat.lt_succ_self k, _, _, _, _, _, _, _, PFr.of _ _ rfl rfl, .inr (.inr (.inr (.inr (.inr (.inr (.inr ⟨rfl, hp.symm⟩)))))), hS⟩)
    · rw [if_neg h1, if_neg h2] at hp
      simp only [hx] at hp
      have HX := Aside0.mk hx
      have HS' := Aside0.mk hS
      clear HS
      obtain ⟨r0, r1, r2, _, _⟩ := hS.rd.cells
      clear hS hx
      by_cases h4 : x = 10
      · rw [if_pos h4] at hp
        have hp := Option.some.inj hp
        rw [h4] at r2
        go_wp2
        go_quiet (fail)
        go_wp2
        refine jumps_retYtdofgilfmgdpkaaDoor ?_
        go_ret3
        obtain rfl := hp
        exact ⟨_, rfl, Kd.R_mono (HS'.out.drawn ⟨_, rfl⟩).own (fun _ _ => trivial), (HS'.out.drawn ⟨_, rfl⟩).below⟩
      · rw [if_neg h4] at hp
        have hp := Option.some.inj hp
        have e4 : (x == (10 : Int)) = false := beq_eq_false_iff_ne.2 h4
        go_wp2
        go_step3
        go_wp2
        refine jumps_retYtdofgilfmgdpkaaDoor ?_
        go_ret3
        obtain rfl := hp
        exact ⟨_, rfl, Kd.R_nil _ _ _ _ _, (HS'.out).below⟩
end Go.Proofs.YtdofgilfmgdpkaaDoor.P

/- head.Parse: the walk, a part. -/
namespace Go.Proofs.YtdofgilfmgdpkaaDoor.P
open Go.RowKit Go.Proofs.YtdofgilfmgdpkaaDoorW.PrintWords Go.Proofs.YtdofgilfmgdpkaaDoorW.PrintLast Go.Proofs.YtdofgilfmgdpkaaDoorW.PrintMore

set_option maxHeartbeats 4000000 in
set_option maxRecDepth 100000 in
theorem lab_value (b : List Int) (R : PR) (A : Option Addr) (c0 : Nat) (w : World) (k : Nat) (a : Act) (wr : World) (HC : Aside0 (PC b A c0 w)) (fall : FallsYtdofgilfmgdpkaaDoor Tryd.prog parseScope (PJ b R A c0 w) (PEnd R w) (fun g' => g' < k))
    (pl from' to' : Nat) (c : Int) (l : List S45) (v6 : Value) (e9 : Int) (hF : PFr A b.length c0 w.heap.size v6 from' to' e9 a) (HS : Aside0 (PS b A c0 w wr pl c v6 l)) (hp : pGo b k .value pl from' to' c l = some R) (q1 : from' + 1 < to') (q2 : to' ≤ pl) (q3 : l.length < 32) :
    PPass b R A c0 w k 4 a wr := by
  have FALL := Aside0.mk fall
  clear fall
  refine ⟨_, rfl, ?_⟩
  obtain ⟨f, rfl⟩ := hF
  match k, hp, FALL with
  | 0, hp, _ => exact absurd hp (by simp [pGo])
  | k + 1, hp, FALL =>
    rw [pGo] at hp
    unfold PEnd
    go_wp2_with fail
    refine (next_tells HC.out HS.out).mono ?_
    rintro e w' ⟨e9', rfl, hN⟩
    rcases hN with ⟨h1, rfl, hS⟩ | ⟨h1, h2, rfl, hS⟩ | ⟨h1, h2, h3, rfl, x, hx, hby, hS⟩
    · rw [if_pos h1] at hp
      have hp := Option.some.inj hp
      go_wp2
      refine wp_goto (Exists.intro k ⟨Nat.lt_succ_self k, _, _, _, _, _, _, _, PFr.of _ _ rfl rfl, .inr (.inr (.inr (.inr (.inr (.inr (.inr ⟨rfl, hp.symm⟩)))))), hS⟩)
    · rw [if_neg h1, if_pos h2] at hp
      have hp := Option.some.inj hp
      go_wp2
      refine wp_goto (Exists.intro k ⟨Nat.lt_succ_self k, _, _, _, _, _, _, _, PFr.of _ _ rfl rfl, .inr (.inr (.inr (.inr (.inr (.inr (.inr ⟨rfl, hp.symm⟩)))))), hS⟩)
    · rw [if_neg h1, if_neg h2] at hp
      simp only [hx] at hp
      have HX := Aside0.mk hx
      have HS' := Aside0.mk hS
      clear HS
      obtain ⟨r0, r1, r2, _, _⟩ := hS.rd.cells
      clear hS hx
      by_cases h4 : x = 13
      · rw [if_pos h4] at hp
        rw [h4] at r2
        go_wp2
        refine wp_goto ?_
        refine Exists.intro k ⟨Nat.lt_succ_self k, _, _, _, _, _, _, _, PFr.of _ _ rfl rfl, .inr (.inr (.inr (.inl ⟨rfl, h4 ▸ hp, q1, by omega, q3⟩))), HS'.out⟩
      · rw [if_neg h4] at hp
        have e4 : (x == (13 : Int)) = false := beq_eq_false_iff_ne.2 h4
        have hsm := HC.out.small
        have e5 : wrap64 ((pl : Int) + 1 - (from' : Int)) = (pl : Int) + 1 - (from' : Int) := by unfold wrap64; omega
        by_cases h5 : 512 < pl + 1 - from'
        · rw [if_pos h5] at hp
          have hp := Option.some.inj hp
          have e6 : (512 : Int) < (pl : Int) + 1 - (from' : Int) := by omega
          go_wp2
          refine wp_goto ?_
          refine Exists.intro k ⟨Nat.lt_succ_self k, _, _, _, _, _, _, _, PFr.of _ _ rfl rfl, .inr (.inr (.inr (.inr (.inr (.inl ⟨rfl, hp.symm⟩))))), HS'.out⟩
        · rw [if_neg h5] at hp
          have e6 : ¬ (512 : Int) < (pl : Int) + 1 - (from' : Int) := by omega
          go_wp2_with fail
          refine (head_shown.calls x (shownI x) _ (head_shown_tells x hby)).mono ?_
          rintro e w2 ⟨rfl, hb⟩
          have HS2 := Aside0.mk (HS'.out.later hb)
          clear hb HS'
          by_cases h7 : shownI x = false
          · rw [if_pos h7] at hp
            have hp := Option.some.inj hp
            rw [h7]
            go_wp2
            refine wp_goto ?_
            refine Exists.intro k ⟨Nat.lt_succ_self k, _, _, _, _, _, _, _, PFr.of _ _ rfl rfl, .inr (.inr (.inr (.inr (.inr (.inr (.inl ⟨rfl, hp.symm⟩)))))), HS2.out⟩
          · rw [if_neg h7] at hp
            rw [Bool.not_eq_false] at h7
            rw [h7]
            go_wp2
            refine wp_goto ?_
            refine Exists.intro k ⟨Nat.lt_succ_self k, _, _, _, _, _, _, _, PFr.of _ _ rfl rfl, .inr (.inr (.inl ⟨rfl, hp, q1, by omega, q3⟩)), HS2.out⟩
end Go.Proofs.YtdofgilfmgdpkaaDoor.P

/- head.Parse: the walk, a part. -/
namespace Go.Proofs.YtdofgilfmgdpkaaDoor.P
open Go.RowKit Go.Proofs.YtdofgilfmgdpkaaDoorW.PrintWords Go.Proofs.YtdofgilfmgdpkaaDoorW.PrintLast Go.Proofs.YtdofgilfmgdpkaaDoorW.PrintMore

set_option maxHeartbeats 4000000 in
set_option maxRecDepth 100000 in
theorem lab_name (b : List Int) (R : PR) (A : Option Addr) (c0 : Nat) (w : World) (k : Nat) (a : Act) (wr : World) (HC : Aside0 (PC b A c0 w)) (fall : FallsYtdofgilfmgdpkaaDoor Tryd.prog parseScope (PJ b R A c0 w) (PEnd R w) (fun g' => g' < k))
    (pl from' to' : Nat) (c : Int) (l : List S45) (v6 : Value) (e9 : Int) (hF : PFr A b.length c0 w.heap.size v6 from' to' e9 a) (HS : Aside0 (PS b A c0 w wr pl c v6 l)) (hp : pGo b k .name pl from' to' c l = some R) (q1 : from' < pl) (q2 : isByte c = true) (q3 : l.length < 32) :
    PPass b R A c0 w k 6 a wr := by
  have FALL := Aside0.mk fall
  clear fall
  refine ⟨_, rfl, ?_⟩
  obtain ⟨f, rfl⟩ := hF
  match k, hp, FALL with
  | 0, hp, _ => exact absurd hp (by simp [pGo])
  | k + 1, hp, FALL =>
    rw [pGo] at hp
    unfold PEnd
    have hsm := HC.out.small
    have hal := HS.out.at_le
    have e5 : wrap64 ((from' : Int) + 1) = (from' : Int) + 1 := by unfold wrap64; omega
    have HS' := HS
    obtain ⟨r0, r1, r2, _, _⟩ := HS.out.rd.cells
    by_cases h4 : c = 58 ∧ from' + 1 < pl
    · rw [if_pos h4] at hp
      have e6 : (from' : Int) + 1 < (pl : Int) := by omega
      rw [h4.1] at r2
      go_wp2
      refine wp_goto ?_; refine Exists.intro k ⟨Nat.lt_succ_self k, _, _, _, _, _, _, _, PFr.of _ _ rfl rfl, .inr (.inr (.inl ⟨rfl, hp, by omega, Nat.le_refl _, q3⟩)), HS'.out⟩
    · rw [if_neg h4] at hp
      have go6 : ∀ (K : Prop), (((c == (58 : Int)) = false) → K) → (((c == (58 : Int)) = true) → ¬ ((from' : Int) + 1 < (pl : Int)) → K) → K := by
        intro K k1 k2
        by_cases hc : c = 58
        · exact k2 (by simp [hc]) (by intro hlt; exact h4 ⟨hc, by omega⟩)
        · exact k1 (beq_eq_false_iff_ne.2 hc)
      by_cases h7 : tokI c = false
      · rw [if_pos h7] at hp
        have hp := Option.some.inj hp
        refine go6 _ (fun e6 => ?_) (fun e6 e7 => ?_)
        all_goals (go_wp2_with fail; refine (head_token.calls c (tokI c) _ (head_token_tells c q2)).mono ?_; rintro e w2 ⟨rfl, hb⟩; have HS2 := Aside0.mk (HS.out.later hb); clear hb; rw [h7]; go_wp2; refine wp_goto ?_; refine Exists.intro k ⟨Nat.lt_succ_self k, _, _, _, _, _, _, _, PFr.of _ _ rfl rfl, .inr (.inr (.inr (.inr (.inr (.inr (.inl ⟨rfl, hp.symm⟩)))))), HS2.out⟩)
      · rw [if_neg h7] at hp
        rw [Bool.not_eq_false] at h7
        refine go6 _ (fun e6 => ?_) (fun e6 e7 => ?_)
        all_goals
          go_wp2_with fail
          refine (head_token.calls c (tokI c) _ (head_token_tells c q2)).mono ?_
          rintro e w2 ⟨rfl, hb⟩
          have HS2 := Aside0.mk (HS.out.later hb)
          clear hb
          rw [h7]
          go_wp2_with fail
          refine (next_tells HC.out HS2.out).mono ?_
          rintro e w' ⟨e9', rfl, hN⟩
          rcases hN with ⟨h1, rfl, hS⟩ | ⟨h1, h2, rfl, hS⟩ | ⟨h1, h2, h3, rfl, x, hx, hby, hS⟩
          · rw [if_pos h1] at hp
            have hp := Option.some.inj hp
            go_wp2
            refine wp_goto ?_; refine Exists.intro k ⟨Nat.lt_succ_self k, _, _, _, _, _, _, _, PFr.of _ _ rfl rfl, .inr (.inr (.inr (.inr (.inr (.inr (.inr ⟨rfl, hp.symm⟩)))))), hS⟩
          · rw [if_neg h1, if_pos h2] at hp
            have hp := Option.some.inj hp
            go_wp2
            refine wp_goto ?_; refine Exists.intro k ⟨Nat.lt_succ_self k, _, _, _, _, _, _, _, PFr.of _ _ rfl rfl, .inr (.inr (.inr (.inr (.inr (.inr (.inr ⟨rfl, hp.symm⟩)))))), hS⟩
          · rw [if_neg h1, if_neg h2] at hp
            simp only [hx] at hp
            have HX := Aside0.mk hx
            have HS3 := Aside0.mk hS
            clear r0 r1 r2 HS HS' HS2
            obtain ⟨r0, r1, r2, _, _⟩ := hS.rd.cells
            clear hS hx
            have e9 : wrap64 ((pl : Int) + 1 - (from' : Int)) = (pl : Int) + 1 - (from' : Int) := by unfold wrap64; omega
            by_cases h8 : x = 13
            · rw [if_neg (show ¬ (¬ x = 13 ∧ 512 < pl + 1 - from') from fun hh => hh.1 h8)] at hp
              rw [h8] at r2
              go_wp2
              refine wp_goto ?_; refine Exists.intro k ⟨Nat.lt_succ_self k, _, _, _, _, _, _, _, PFr.of _ _ rfl rfl, .inr (.inl ⟨rfl, hp, by omega, hby, q3⟩), HS3.out⟩
            · have e10 : (x != (13 : Int)) = true := bne_iff_ne.2 h8
              by_cases h9 : 512 < pl + 1 - from'
              · rw [if_pos (show ¬ x = 13 ∧ 512 < pl + 1 - from' from ⟨h8, h9⟩)] at hp
                have hp : ([], 0, 21) = R := Option.some.inj hp
                have e11 : (512 : Int) < (pl : Int) + 1 - (from' : Int) := by omega
                first
                | (exfalso; omega)
                | (go_wp2; refine wp_goto ?_; refine Exists.intro k ⟨Nat.lt_succ_self k, _, _, _, _, _, _, _, PFr.of _ _ rfl rfl, .inr (.inr (.inr (.inr (.inr (.inl ⟨rfl, hp.symm⟩))))), HS3.out⟩)
              · rw [if_neg (show ¬ (¬ x = 13 ∧ 512 < pl + 1 - from') from fun hh => h9 hh.2)] at hp
                have e11 : ¬ (512 : Int) < (pl : Int) + 1 - (from' : Int) := by omega
                go_wp2
                refine wp_goto ?_; refine Exists.intro k ⟨Nat.lt_succ_self k, _, _, _, _, _, _, _, PFr.of _ _ rfl rfl, .inr (.inl ⟨rfl, hp, by omega, hby, q3⟩), HS3.out⟩
end Go.Proofs.YtdofgilfmgdpkaaDoor.P

/- head.Parse: the walk, a part. -/
namespace Go.Proofs.YtdofgilfmgdpkaaDoor.P
open Go.RowKit Go.Proofs.YtdofgilfmgdpkaaDoorW.PrintWords Go.Proofs.YtdofgilfmgdpkaaDoorW.PrintLast Go.Proofs.YtdofgilfmgdpkaaDoorW.PrintMore

set_option maxHeartbeats 4000000 in
set_option maxRecDepth 100000 in
theorem lab_line (b : List Int) (R : PR) (A : Option Addr) (c0 : Nat) (w : World) (k : Nat) (a : Act) (wr : World) (HC : Aside0 (PC b A c0 w)) (fall : FallsYtdofgilfmgdpkaaDoor Tryd.prog parseScope (PJ b R A c0 w) (PEnd R w) (fun g' => g' < k))
    (pl from' to' : Nat) (c : Int) (l : List S45) (v6 : Value) (e9 : Int) (hF : PFr A b.length c0 w.heap.size v6 from' to' e9 a) (HS : Aside0 (PS b A c0 w wr pl c v6 l)) (hp : pGo b k .line pl from' to' c l = some R) :
    PPass b R A c0 w k 0 a wr := by
  have FALL := Aside0.mk fall
  clear fall
  refine ⟨_, rfl, ?_⟩
  obtain ⟨f, rfl⟩ := hF
  match k, hp, FALL with
  | 0, hp, _ => exact absurd hp (by simp [pGo])
  | k + 1, hp, FALL =>
    rw [pGo] at hp
    unfold PEnd
    have hsm := HC.out.small
    obtain ⟨r0, r1, r2, _, _⟩ := HS.out.rd.cells
    go_wp2_with fail
    clear r0 r1 r2
    refine (next_tells HC.out HS.out).mono ?_
    rintro e w' ⟨e9', rfl, hN⟩
    rcases hN with ⟨h1, rfl, hS⟩ | ⟨h1, h2, rfl, hS⟩ | ⟨h1, h2, h3, rfl, x, hx, hby, hS⟩
    · rw [if_pos h1] at hp
      have hp := Option.some.inj hp
      go_wp2
      refine wp_goto (Exists.intro k ⟨Nat.lt_succ_self k, _, _, _, _, _, _, _, PFr.of _ _ rfl rfl, .inr (.inr (.inr (.inr (.inr (.inr (.inr ⟨rfl, hp.symm⟩)))))), hS⟩)
    · rw [if_neg h1, if_pos h2] at hp
      have hp := Option.some.inj hp
      go_wp2
      refine wp_goto (Exists.intro k ⟨Nat.lt_succ_self k, _, _, _, _, _, _, _, PFr.of _ _ rfl rfl, .inr (.inr (.inr (.inr (.inr (.inr (.inr ⟨rfl, hp.symm⟩)))))), hS⟩)
    · rw [if_neg h1, if_neg h2] at hp
      simp only [hx] at hp
      have HX := Aside0.mk hx
      have HS' := Aside0.mk hS
      clear HS
      obtain ⟨r0, r1, r2, _, _⟩ := hS.rd.cells
      clear hS hx
      by_cases h4 : x = 13
      · rw [if_pos h4] at hp
        rw [h4] at r2
        go_wp2
        refine wp_goto ?_; refine Exists.intro k ⟨Nat.lt_succ_self k, _, _, _, _, _, _, _, PFr.of _ _ rfl rfl, .inr (.inr (.inr (.inr (.inl ⟨rfl, h4 ▸ hp⟩)))), HS'.out⟩
      · rw [if_neg h4] at hp
        have e4 : (x == (13 : Int)) = false := beq_eq_false_iff_ne.2 h4
        obtain ⟨A6, c6, rfl⟩ := own_shape HS'.out.own
        have h32 := HS'.out.num
        by_cases h5 : 32 ≤ l.length
        · rw [if_pos h5] at hp
          have hp := Option.some.inj hp
          have e6 : l.length = 32 := by omega
          have e7 : ((l.length : Int) == 32) = true := by simp [e6]
          rw [e6] at HS'
          go_wp2
          refine wp_goto ?_; refine Exists.intro k ⟨Nat.lt_succ_self k, _, _, _, _, _, _, _, PFr.of _ _ rfl rfl, .inr (.inr (.inr (.inr (.inr (.inl ⟨rfl, hp.symm⟩))))), HS'.out⟩
        · rw [if_neg h5] at hp
          have e7 : ((l.length : Int) == 32) = false := beq_eq_false_iff_ne.2 (by omega)
          go_wp2
          go_step3
          rename_i hK
          exact hK _ _ (FALL.out k (Nat.lt_succ_self k) 6 _ _ ⟨_, _, _, _, _, _, _, PFr.of _ _ rfl rfl, .inr (.inl ⟨rfl, hp, Nat.lt_succ_self _, hby, by omega⟩), HS'.out⟩ _ rfl)
end Go.Proofs.YtdofgilfmgdpkaaDoor.P

/- head.Parse: the walk, a part. -/
namespace Go.Proofs.YtdofgilfmgdpkaaDoor.P
open Go.RowKit Go.Proofs.YtdofgilfmgdpkaaDoorW.PrintWords Go.Proofs.YtdofgilfmgdpkaaDoorW.PrintLast Go.Proofs.YtdofgilfmgdpkaaDoorW.PrintMore
theorem sub_reads {b : List Int} {ad : Addr} {c0 : Nat} {w wx : World} (HC : PC b (some ad) c0 w) (i m : Nat) (h : i + m ≤ b.length) (hb : Below w.heap.size w wx) : ReadsInt wx .u8 (some (ad.add i)) m ((b.drop i).take m) := by
  have hsm := HC.small
  refine ⟨by rw [List.length_take, List.length_drop]; omega, by omega, fun _ => ⟨_, rfl, fun j hj => ?_⟩⟩
  obtain ⟨ad', cs, hA, hcs, hK, hcell⟩ := Kd.C_get HC.reads (0 : Int) ((i + j : Nat) : Int) (by omega) (by omega)
  obtain rfl := Option.some.inj hA
  have hK' : cs = [.int .u8 (b.getD (i + j) 0)] := hK
  have hx := hcell 0 (.int .u8 (b.getD (i + j) 0)) (by rw [hK']; rfl)
  have hx' : w.cell? (ad.add (i + j)) = some (.int .u8 (b.getD (i + j) 0)) := by
    rw [Int.toNat_natCast, show (i + j) * (Kd.int IntKind.u8).sz + 0 = i + j from by show (i + j) * 1 + 0 = i + j; omega] at hx
    exact hx
  have hbl := World.block_lt_of_cell? w _ hx'
  have hx2 := (hb.cell hbl).trans hx'
  have ea : (ad.add i).add j = ad.add (i + j) := Addr.add_add ad i j
  have eg : ((b.drop i).take m).getD j 0 = b.getD (i + j) 0 := by
    rw [List.getD_eq_getElem?_getD, List.getD_eq_getElem?_getD, List.getElem?_take, if_pos hj, List.getElem?_drop]
  rw [ea, eg]
  exact hx2
theorem sub_converts {b : List Int} {ad : Addr} {c0 : Nat} {w wx : World} (HC : PC b (some ad) c0 w) (i m cap : Nat) (h : i + m ≤ b.length) (hb : Below w.heap.size w wx) : (convert 22 9 (.slice (some (ad.add i)) m cap)).run Tryd.prog wx = .ok (.string (strOfNums ((b.drop i).take m))) wx :=
  string_of_reads (P := Tryd.prog) Tryd.underlying22 Tryd.underlying5 Tryd.underlying9 (sub_reads HC i m h hb)
theorem sub_slices (ad : Addr) (n cap : Nat) (lo hi : Int) (h0 : 0 ≤ lo) (h1 : lo ≤ hi) (h2 : hi ≤ cap) (h3 : lo < cap) (hp : 0 < lo ∨ True) (W : World) : (Instr.sliceAt 22 (.slice (some ad) n cap) (some (.int .i64 lo)) (some (.int .i64 hi)) none).run Tryd.prog W = .ok (.slice (some (ad.add lo.toNat)) (hi.toNat - lo.toNat) (cap - lo.toNat)) W := by
  rw [run_sliceAt_slice W 22 _ _ _ _ (by kernel_rfl), run_slice_lh W 22 (some ad) n cap (by kernel_rfl) .i64 .i64 lo hi h0 h1 h2]
  have hz : (sizeOf (Tryd.prog.elem 22)).run Tryd.prog W = .ok 1 W := by kernel_rfl
  rw [hz]
  show Result.ok (sliced _ _ _ _ _) _ = _
  unfold sliced
  rw [if_neg (by omega)]
  simp

set_option maxHeartbeats 4000000 in
set_option maxRecDepth 100000 in
theorem lab_ended (b : List Int) (R : PR) (A : Option Addr) (c0 : Nat) (w : World) (k : Nat) (a : Act) (wr : World) (HC : Aside0 (PC b A c0 w)) (fall : FallsYtdofgilfmgdpkaaDoor Tryd.prog parseScope (PJ b R A c0 w) (PEnd R w) (fun g' => g' < k))
    (pl from' to' : Nat) (c : Int) (l : List S45) (v6 : Value) (e9 : Int) (hF : PFr A b.length c0 w.heap.size v6 from' to' e9 a) (HS : Aside0 (PS b A c0 w wr pl c v6 l)) (hp : pGo b k .ended pl from' to' c l = some R) (q1 : from' + 1 < to') (q2 : to' + 1 ≤ pl) (q3 : l.length < 32) :
    PPass b R A c0 w k 7 a wr := by
  have FALL := Aside0.mk fall
  clear fall
  refine ⟨_, rfl, ?_⟩
  obtain ⟨f, rfl⟩ := hF
  match k, hp, FALL with
  | 0, hp, _ => exact absurd hp (by simp [pGo])
  | k + 1, hp, FALL =>
    rw [pGo] at hp
    unfold PEnd
    have hsm := HC.out.small
    have hcap := HC.out.cap
    have hal := HS.out.at_le
    obtain ⟨ad, cs, rfl, _, _, _⟩ := Kd.C_get HC.out.reads (0 : Int) 0 (by omega) (by omega)
    obtain ⟨r0, r1, r2, _, _⟩ := HS.out.rd.cells
    obtain ⟨A6, c6, rfl⟩ := own_shape HS.out.own
    have e1 : IntKind.i64.wrap ((to' : Int) - 1) = (to' : Int) - 1 := by rw [IntKind.wrap_i64]; omega
    have e2 : IntKind.i64.wrap ((pl : Int) - 1) = (pl : Int) - 1 := by rw [IntKind.wrap_i64]; omega
    have k1 := fun W => sub_slices ad b.length c0 from' ((to' : Int) - 1) (by omega) (by omega) (by omega) (by omega) (.inr trivial) W
    have k2 := fun W => sub_slices ad b.length c0 to' ((pl : Int) - 1) (by omega) (by omega) (by omega) (by omega) (.inr trivial) W
    rw [Int.toNat_natCast] at k1 k2
    have HB := HS.out.below
    have k3 := fun (W : World) (hW : Below wr.heap.size wr W) => sub_converts HC.out from' (to' - 1 - from') (c0 - from') (by omega) (HB.trans (hW.mono HB.size))
    have k4 := fun (W : World) (hW : Below wr.heap.size wr W) => sub_converts HC.out to' (pl - 1 - to') (c0 - to') (by omega) (HB.trans (hW.mono HB.size))
    have k3a := k3 wr.drew (below_drew1 (Below.refl _ _))
    have k4a := k4 wr.drew (below_drew1 (Below.refl _ _))
    have TRIM : Aside0 (text_Trim.f (strOfNums ((b.drop to').take (pl - 1 - to'))) = some (trimB (strOfNums ((b.drop to').take (pl - 1 - to'))))) := ⟨by
      unfold text_Trim.f
      rw [if_pos]
      have : (strOfNums ((b.drop to').take (pl - 1 - to'))).size = ((b.drop to').take (pl - 1 - to')).length := by simp [strOfNums, ByteArray.size]
      rw [this, List.length_take, List.length_drop]
      omega⟩
    have K3 := Aside0.mk k3
    have K4 := Aside0.mk k4
    clear k3 k4
    go_wp2_with fail
    have hslt : w.heap.size < wr.heap.size := (Array.getElem?_eq_some_iff.1 HS.out.rd).1
    clear r0 r1 r2 HB
    obtain ⟨r0, r1, r2, _, _⟩ := HS.out.rd.cells
    go_region_law (first | (refine Kd.R_append_step k45 (w0 := w) w.heap.size rfl (.tmp 100) (.tmp 118) 23 45 (.agg #[(.string ⟨#[]⟩), (.string ⟨#[]⟩)]) 32 rfl Tryd.underlying23 info45 rfl (by decide) (by omega) (.slice A6 l.length c6) l (pField b from' to' pl) [.string (pField b from' to' pl).f0, .string (pField b from' to' pl).f1] (fun k => k ≠ w.heap.size) (fun _ => False) rfl rfl ?aP (fun _ hk => hk.elim) ?aF ?aO ?aB ?aS ?aL ?_; (case aP => exact k45_mkM _ _ _ _); (case aB => exact HS2.out.below); (case aF => exact fun k hk => by have := HB2.out.size; omega); (case aO => exact HS2.out.own); (case aS => exact HS2.out.below.size); (case aL => omega); intro v1 w3 ho hb3 hg hat; have HS3 := Aside0.mk (HS2.out.grown hg ho hb3 q3); clear ho hb3 hg hat) | (go_simp; go_at_call 27; refine (text_Trim.calls _ _ _ TRIM.out).mono ?_; rintro e w2 ⟨rfl, hb⟩; have k3c := K3.out w2 (below_step (below_drew1 (Below.refl _ _)) hb); have HB2 := Aside0.mk (below_step (below_drew1 (Below.refl wr.heap.size wr)) hb); have HS2 := Aside0.mk (HS.out.later HB2.out); clear hb))
    all_goals
      clear r0 r1 r2
      clear k1 k2 k3a k3c k4a
      go_wp2_with fail
      refine (next_tells HC.out HS3.out).mono ?_
      rintro e w' ⟨e9', rfl, hN⟩
      rcases hN with ⟨h1, rfl, hS⟩ | ⟨h1, h2, rfl, hS⟩ | ⟨h1, h2, h3, rfl, x, hx, hby, hS⟩
      · rw [if_pos h1] at hp
        have hp := Option.some.inj hp
        go_wp2
        refine wp_goto ?_; refine Exists.intro k ⟨Nat.lt_succ_self k, _, _, _, _, _, _, _, PFr.of _ _ rfl rfl, .inr (.inr (.inr (.inr (.inr (.inr (.inr ⟨rfl, hp.symm⟩)))))), hS⟩
      · rw [if_neg h1, if_pos h2] at hp
        have hp := Option.some.inj hp
        go_wp2
        refine wp_goto ?_; refine Exists.intro k ⟨Nat.lt_succ_self k, _, _, _, _, _, _, _, PFr.of _ _ rfl rfl, .inr (.inr (.inr (.inr (.inr (.inr (.inr ⟨rfl, hp.symm⟩)))))), hS⟩
      · rw [if_neg h1, if_neg h2] at hp
        simp only [hx] at hp
        have HS4 := Aside0.mk hS
        obtain ⟨r0, r1, r2, _, _⟩ := hS.rd.cells
        clear hS hx
        by_cases h4 : x = 10
        · rw [if_pos h4] at hp
          rw [h4] at r2
          go_wp2
          refine wp_goto ?_; refine Exists.intro k ⟨Nat.lt_succ_self k, _, _, _, _, _, _, _, PFr.of _ _ rfl rfl, .inl ⟨rfl, h4 ▸ hp⟩, HS4.out⟩
        · rw [if_neg h4] at hp
          have hp := Option.some.inj hp
          have e4 : (x == (10 : Int)) = false := beq_eq_false_iff_ne.2 h4
          go_wp2
          refine wp_goto ?_; refine Exists.intro k ⟨Nat.lt_succ_self k, _, _, _, _, _, _, _, PFr.of _ _ rfl rfl, .inr (.inr (.inr (.inr (.inr (.inr (.inl ⟨rfl, hp.symm⟩)))))), HS4.out⟩
end Go.Proofs.YtdofgilfmgdpkaaDoor.P

/- head.Parse: the walk, a part. -/
namespace Go.Proofs.YtdofgilfmgdpkaaDoor.P
open Go.RowKit Go.Proofs.YtdofgilfmgdpkaaDoorW.PrintWords Go.Proofs.YtdofgilfmgdpkaaDoorW.PrintLast Go.Proofs.YtdofgilfmgdpkaaDoorW.PrintMore

set_option maxHeartbeats 4000000 in
set_option maxRecDepth 100000 in
theorem head_Parse.calls (A0 : Option Addr) (c0 : Nat) (l0 : List Int) (r1 : List S45) (r2 : Int) (r3 : Int) (w : World) (hr0 : Kd.C (Kd.int .u8) w A0 l0.length l0) (hc0 : l0.length ≤ c0) (h : head_Parse.f l0 = some (r1, r2, r3)) :
    Calls Tryd.prog 9 #[.slice A0 l0.length c0] w fun e w' => ∃ v0_ : Value, e = .returned (.tuple #[v0_, .int .i64 r2, .int .i64 r3]) ∧ Kd.R k45 45 w' w.heap.size (fun _ => True) v0_ r1 ∧ Below w.heap.size w w' := by
  unfold head_Parse.f at h
  split at h
  · rename_i hh
    have HF := Aside0.mk h
    have HH := Aside0.mk hh
    have HR := Aside0.mk hr0
    clear h hh hr0
    go_enter Tryd.func9, Tryd.ntmps9
    go_wp2
    refine wp_scope_labelsYtdofgilfmgdpkaaDoor (Q := PEnd (r1, r2, r3) w) (PJ l0 (r1, r2, r3) A0 c0 w) ?_ ?_
    · intro fall
      have FALL := Aside0.mk fall
      clear fall
      go_wp2
      go_step3
      rename_i hK
      refine hK _ _ ?_
      refine FALL.out (2 * l0.length + 2) trivial 0 _ _ ?_ _ rfl
      refine ⟨0, 0, 0, 0, [], _, 0, PFr.of _ _ rfl rfl, .inl ⟨rfl, HF.out⟩, ?_, Kd.R_nil _ _ _ _ _, ?_, Nat.zero_le _, by simp⟩
      · exact blk_new _ _
      · exact (Below.refl _ w).alloc (Nat.le_refl _) _
    · intro g fall lab a wr hJ
      obtain ⟨pl, from', to', c, l, v6, e9, hF, hL, hS⟩ := hJ
      have HC : Aside0 (PC l0 A0 c0 w) := ⟨HR.out, hc0, HH.out.1, HH.out.2⟩
      rcases hL with ⟨rfl, hp⟩ | ⟨rfl, hp, q1, q2, q3⟩ | ⟨rfl, hp, q1, q2, q3⟩ | ⟨rfl, hp, q1, q2, q3⟩ | ⟨rfl, hp⟩ | ⟨rfl, hp⟩ | ⟨rfl, hp⟩ | ⟨rfl, hp⟩
      · exact lab_line l0 _ A0 c0 w g a wr HC fall pl from' to' c l v6 e9 hF ⟨hS⟩ hp
      · exact lab_name l0 _ A0 c0 w g a wr HC fall pl from' to' c l v6 e9 hF ⟨hS⟩ hp q1 q2 q3
      · exact lab_value l0 _ A0 c0 w g a wr HC fall pl from' to' c l v6 e9 hF ⟨hS⟩ hp q1 q2 q3
      · exact lab_ended l0 _ A0 c0 w g a wr HC fall pl from' to' c l v6 e9 hF ⟨hS⟩ hp q1 q2 q3
      · exact lab_fin l0 _ A0 c0 w g a wr HC fall pl from' to' c l v6 e9 hF ⟨hS⟩ hp
      · exact lab_big l0 _ A0 c0 w g a wr HC fall pl from' to' c l v6 e9 hF ⟨hS⟩ hp
      · exact lab_bad l0 _ A0 c0 w g a wr HC fall pl from' to' c l v6 e9 hF ⟨hS⟩ hp
      · exact lab_out l0 _ A0 c0 w g a wr HC fall pl from' to' c l v6 e9 hF ⟨hS⟩ hp
  · exact absurd h (by simp)
end Go.Proofs.YtdofgilfmgdpkaaDoor.P

/- '[]byte(s)': new bytes, to be read. -/
namespace Go.Proofs.YtdofgilfmgdpkaaDoor.P
open Go.RowKit Go.Proofs.YtdofgilfmgdpkaaDoorW.PrintWords Go.Proofs.YtdofgilfmgdpkaaDoorW.PrintLast Go.Proofs.YtdofgilfmgdpkaaDoorW.PrintMore

def conv.f (s : ByteArray) : Option (List Int) := if s.size ≤ 9223372036854775807 then some (bytesOf s) else none

theorem conv_V (W : World) (s : ByteArray) (hs : s.size ≤ 9223372036854775807) :
    Kd.V (Kd.int .u8) 5 (Lib.bytesWorld W 5 s) W.heap.size (fun k_ => W.heap.size ≤ k_) (.slice (some ⟨W.heap.size, 0, none⟩) s.size (grownCap W s.size 0 5)) (bytesOf s) := by
  have hl : (bytesOf s).length = s.size := by simp [bytesOf, ByteArray.toList_eq]
  have hr := bytes_reads W 5 s hs
  refine ⟨some ⟨W.heap.size, 0, none⟩, grownCap W s.size 0 5, by rw [hl], ?_, ?_⟩
  · rw [hl]; exact grownCap_ge W s.size 0 5
  · intro W' hW
    have h1 := reads_bytes W s hs
    obtain ⟨hA, hB, hC⟩ := h1
    refine ⟨hA, hB, fun hn => ?_⟩
    obtain ⟨ad, e, hc⟩ := hC hn
    cases e
    refine ⟨_, rfl, fun j p hj => ?_⟩
    obtain ⟨c, h2, h3, h4⟩ := hc j p hj
    refine ⟨c, h2, h3, fun i u hu => ?_⟩
    rw [← h4 i u hu]
    have hb : ((⟨W.heap.size, 0, none⟩ : Addr).add (j * (Kd.int .u8).sz + i)).block = W.heap.size := by unfold Addr.add; split <;> rfl
    unfold World.cell?
    rw [hb, hW W.heap.size (Nat.le_refl _) (by have h9 := World.block_lt_of_cell? _ _ (h4 i u hu); rw [hb] at h9; exact h9)]

section
variable {ops : Array Oper} {rest : List Oper} {oi : Oper} {a : Act} {Q : Exit → Act → World → Prop}
theorem conv_event (N : Tmp) (hd : oi.dst = some N) (hg : oi.guard = none) (x : Operand) (ho : oi.op = .convert 9 22 x) (s : ByteArray) (hx : a.eval x = .string s) (r : List Int) (w : World) (hf : conv.f s = some r)
    (h : ∀ e w', (∃ v0_ : Value, e = Ending.returned v0_ ∧ Kd.V (Kd.int .u8) 5 w' w.heap.size (fun k_ => (w.heap.size ≤ k_)) v0_ r ∧ Below w.heap.size w w') → ∃ v, e = Ending.returned v ∧ wpList Tryd.prog ops Q rest (a.put (some N) v) w') : wpList Tryd.prog ops Q (oi :: rest) a w := by
  unfold conv.f at hf
  split at hf
  · rename_i hs
    obtain rfl := Option.some.inj hf
    obtain ⟨v, hv, hk⟩ := h (.returned _) _ ⟨_, rfl, conv_V w s hs, bytes_below (Below.refl _ w) (Nat.le_refl _) 5 s⟩
    obtain rfl := Ending.returned.inj hv
    have hrun : (execOp a.eval oi).run Tryd.prog w = .ok (.value (.slice (some ⟨w.heap.size, 0, none⟩) s.size (grownCap w s.size 0 5))) (Lib.bytesWorld w 5 s) := by
      unfold execOp
      simp only [ho, hx, Lib.run_convert_string_bytes (P := Tryd.prog) w 9 22 5 s Tryd.underlying9 Tryd.underlying22 Tryd.underlying5, Sem.run_bind, Result.andThen_ok, Sem.run_pure]
    refine wpList_plain hg fun K hK => ?_
    unfold Oper.wp
    rw [hrun]
    exact hK _ _ (hd ▸ hk)
  · exact absurd hf (by simp)
theorem marked_V (W : World) (l : List Int) (q : Nat × Nat) (hl : l.length ≤ 9223372036854775807) :
    Kd.V (Kd.int .u8) 5 (W.alloc (.cells (l.map fun x => Value.int .u8 x).toArray 5 q)) W.heap.size (fun k_ => W.heap.size ≤ k_) (.slice (some ⟨W.heap.size, 0, none⟩) l.length l.length) l := by
  refine ⟨_, _, rfl, Nat.le_refl _, ?_⟩
  intro W' hW
  have hblk : (W.alloc (.cells (l.map fun x => Value.int .u8 x).toArray 5 q)).heap[W.heap.size]? = some (.cells (l.map fun x => Value.int .u8 x).toArray 5 q) := by
    show (W.heap.push _)[W.heap.size]? = _
    simp
  have hlt : W.heap.size < (W.alloc (.cells (l.map fun x => Value.int .u8 x).toArray 5 q)).heap.size := (Array.getElem?_eq_some_iff.1 hblk).1
  refine ⟨rfl, hl, fun hn => ⟨_, rfl, fun j p hj => ⟨[.int .u8 p], rfl, rfl, fun i u hu => ?_⟩⟩⟩
  obtain rfl : i = 0 := by
    rcases i with _ | i
    · rfl
    · simp at hu
  have hu : Value.int .u8 p = u := by simpa using hu
  have hadd : ((⟨W.heap.size, 0, none⟩ : Addr).add (j * (Kd.int .u8).sz + 0)) = ⟨W.heap.size, j, none⟩ := by
    show (⟨W.heap.size, 0, none⟩ : Addr).add (j * 1 + 0) = _
    unfold Addr.add
    split <;> simp_all
  rw [hadd]
  unfold World.cell?
  simp only [hW W.heap.size (Nat.le_refl _) hlt, hblk]
  simp [hj, hu]

theorem conv_lit_event {o2 : Oper} (N N2 : Tmp) (hd : oi.dst = some N) (hg : oi.guard = none) (hd2 : o2.dst = some N2) (hg2 : o2.guard = none) (l : List Int) (w : World)
    (hrun : (execOp a.eval oi).run Tryd.prog w = .ok (.value (.slice (some ⟨w.heap.size, 0, none⟩) l.length l.length)) (w.alloc (.cells (l.map fun x => Value.int .u8 x).toArray 5)))
    (ho2 : o2.op = .convert 22 22 (.tmp N)) (he2 : ∀ v, (a.put (some N) v).eval (.tmp N) = v) (s : ByteArray) (hsl : bytesOf s = l) (r : List Int) (hf : conv.f s = some r)
    (h : ∀ e w', (∃ v0_ : Value, e = Ending.returned v0_ ∧ Kd.V (Kd.int .u8) 5 w' w.heap.size (fun k_ => (w.heap.size ≤ k_)) v0_ r ∧ Below w.heap.size w w') → ∃ v, e = Ending.returned v ∧ wpList Tryd.prog ops Q rest ((a.put (some N) v).put (some N2) v) w') : wpList Tryd.prog ops Q (oi :: o2 :: rest) a w := by
  unfold conv.f at hf
  split at hf
  · rename_i hs
    obtain rfl := Option.some.inj hf
    have hlen : l.length ≤ 9223372036854775807 := by rw [← hsl, bytesOf_length]; exact hs
    obtain ⟨v, hv, hk⟩ := h (.returned _) _ ⟨_, rfl, by rw [hsl]; exact marked_V w l (l.length, l.length + 1) hlen, (Below.refl _ w).alloc (Nat.le_refl _) _⟩
    obtain rfl := Ending.returned.inj hv
    refine wpList_plain hg fun K hK => ?_
    unfold Oper.wp
    rw [hrun]
    refine hK _ _ ?_
    rw [hd]
    refine wpList_plain hg2 fun K2 hK2 => ?_
    have hrun2 : (execOp (a.put (some N) (.slice (some ⟨w.heap.size, 0, none⟩) l.length l.length)).eval o2).run Tryd.prog (w.alloc (.cells (l.map fun x => Value.int .u8 x).toArray 5)) = .ok (.value (.slice (some ⟨w.heap.size, 0, none⟩) l.length l.length)) (w.alloc (.cells (l.map fun x => Value.int .u8 x).toArray 5 (l.length, l.length + 1))) := by
      have := Lib.run_convert_bytes_const (P := Tryd.prog) w 22 5 (l.map fun x => Value.int .u8 x).toArray l.length l.length Tryd.underlying22 Tryd.underlying5
      simp only [List.size_toArray, List.length_map] at this
      unfold execOp
      simp only [ho2, he2, this, Sem.run_bind, Result.andThen_ok, Sem.run_pure]
    unfold Oper.wp
    rw [hrun2]
    exact hK2 _ _ (hd2 ▸ hk)
  · exact absurd hf (by simp)
end
end Go.Proofs.YtdofgilfmgdpkaaDoor.P
