/- The walk of the Go function tollhouselaw15 AuthLess, and what it computes. By program. Conditions: none but those that each theorem names. -/
import Derived.Test.YtepljhleaohbcaaGreatDoorQ0
import Derived.Test.YtepljhleaohbcaaGreatDoorQtollhouselaw15wakes
import Derived.Test.YtepljhleaohbcaaGreatDoorFauthTenant
import Derived.Test.YtepljhleaohbcaaGreatDoorFauthConfig
namespace Go.Proofs.YtepljhleaohbcaaGreatDoor.P
open Go.RowKit Go.Proofs.YtepljhleaohbcaaGreatDoorW.PrintWords Go.Proofs.YtepljhleaohbcaaGreatDoorW.PrintLast Go.Proofs.YtepljhleaohbcaaGreatDoorW.PrintMore
attribute [local go_sem] max2_int min2_int max_two min_two max_three min_three max_four min_four
set_option linter.unusedVariables false
set_option linter.unusedSimpArgs false

/-! ### tollhouselaw15_AuthLess: function 6 -/
def tollhouselaw15_AuthLess.l0 : Nat → Bool → Int → List (S27) → Int → Int → ByteArray → List (S46) → Int → Int → Int → Int → Int → Int → Int → List (S27) → Int → Int → List (S27) → Int → Int → Option (Bool)
  | 0, _, _, _, _, _, _, _, _, _, _, _, _, _, _, _, _, _, _, _, _ => none
  | k + 1, x10, x11, x340000, x340001, x340002, x341000, x341001, x341002, x341003, x341004, x341005, x341006, x341007, x341008, x344000, x344001, x344002, x345000, x345001, x345002 => if x11 < (x340000.length : Int) then (if x10 = true then (tollhouselaw15_AuthLess.l0 k true (wrap64 (x11 + 1)) x340000 x340001 x340002 x341000 x341001 x341002 x341003 x341004 x341005 x341006 x341007 x341008 x344000 x344001 x344002 x345000 x345001 x345002) else (if 0 ≤ x11 then (tollhouselaw15_AuthLess.l0 k (((rd_T27 x340000 x11).f0).toList == x341000.toList) (wrap64 (x11 + 1)) x340000 x340001 x340002 x341000 x341001 x341002 x341003 x341004 x341005 x341006 x341007 x341008 x344000 x344001 x344002 x345000 x345001 x345002) else (none))) else ((auth_Config.f x344000 x344001 x344002).bind fun t384 => (if (t384 == (decide ((x340000.length : Int) > 1))) = true then ((auth_Config.f x345000 x345001 x345002).bind fun t385 => ((auth_Tenant.f x341000 x341001 x341002 x341003 x341004 x341005 x341006 x341007 x341008).bind fun t386 => (if t386 = true then (if x10 = true then (if (t385 == false) = true then ((tollhouselaw15_wakes.f k).bind fun t387 => (some t387)) else (some false)) else (if (t385 == (decide ((x340000.length : Int) < 8))) = true then ((tollhouselaw15_wakes.f k).bind fun t388 => (some t388)) else (some false))) else (if (t385 == false) = true then ((tollhouselaw15_wakes.f k).bind fun t389 => (some t389)) else (some false))))) else (some false)))
def tollhouselaw15_AuthLess.f (k : Nat) (l0_0 : List (S27)) (a0_1 : Int) (a0_2 : Int) (a1_0 : ByteArray) (l1_1 : List (S46)) (a1_2 : Int) (a1_3 : Int) (a1_4 : Int) (a1_5 : Int) (a1_6 : Int) (a1_7 : Int) (a1_8 : Int) (a2 : Int) : Option (Bool) := (auth_Config.f l0_0 a0_1 a0_2).bind fun t341 => (if t341 = true then (if (l0_0.length : Int) = 0 then (none) else (if 0 ≤ (Int.tmod (wrap64 (a2)) (l0_0.length : Int)) then (if (Int.tmod (wrap64 (a2)) (l0_0.length : Int)) ≤ (l0_0.length : Int) then ((some (l0_0.take ((Int.tmod (wrap64 (a2)) (l0_0.length : Int)) : Int).toNat : List (S27))).bind fun y345 => (if ([] : List (S27)).length + y345.length < 1466015503701 then ((some (([] : List (S27)) ++ y345 : List (S27))).bind fun y350 => (if 0 ≤ (wrap64 ((Int.tmod (wrap64 (a2)) (l0_0.length : Int)) + 1)) then (if (wrap64 ((Int.tmod (wrap64 (a2)) (l0_0.length : Int)) + 1)) ≤ (l0_0.length : Int) then ((some (l0_0.drop ((wrap64 ((Int.tmod (wrap64 (a2)) (l0_0.length : Int)) + 1)) : Int).toNat : List (S27))).bind fun y353 => (if y350.length + y353.length < 1466015503701 then ((some (l0_0.take ((Int.tmod (wrap64 (a2)) (l0_0.length : Int)) : Int).toNat : List (S27))).bind fun y345 => (if ([] : List (S27)).length + y345.length < 1466015503701 then ((some (([] : List (S27)) ++ y345 : List (S27))).bind fun y366 => ((some (([(⟨a1_0, l1_1, a1_2, a1_3, a1_4, a1_5, a1_6, a1_7, a1_8⟩ : S27)] : List (S27)) : List (S27))).bind fun y369 => (if y366.length + y369.length < 1466015503701 then ((some (y366 ++ y369 : List (S27))).bind fun y372 => ((some (l0_0.drop ((Int.tmod (wrap64 (a2)) (l0_0.length : Int)) : Int).toNat : List (S27))).bind fun y375 => (if y372.length + y375.length < 1466015503701 then (tollhouselaw15_AuthLess.l0 k false 0 l0_0 a0_1 a0_2 a1_0 l1_1 a1_2 a1_3 a1_4 a1_5 a1_6 a1_7 a1_8 (y350 ++ y353) a0_1 a0_2 (y372 ++ y375) a0_1 a0_2) else (none)))) else (none)))) else (none))) else (none))) else (none)) else (none))) else (none))) else (none)) else (none))) else ((tollhouselaw15_wakes.f k).bind fun t342 => (some t342)))
abbrev T_ : Bool := true
abbrev F_ : Bool := false
theorem A_ {p : Prop} (h : p) : Aside0 p := ⟨h⟩
theorem pb_ : type_of% @List.setIfInBounds_toArray := @List.setIfInBounds_toArray
theorem pc_ : type_of% @List.set_cons_zero := @List.set_cons_zero
theorem pd_ : type_of% @List.set_cons_succ := @List.set_cons_succ
theorem b0_ : type_of% @blk_cell := @blk_cell
theorem b1_ : type_of% @blk_drewN := @blk_drewN
theorem b2_ : type_of% @blk_alloc := @blk_alloc
theorem b3_ : type_of% @blk_drew := @blk_drew
theorem b4_ : type_of% @below_set := @below_set
theorem b5_ : type_of% @pw_below_drewN := @pw_below_drewN
theorem b6_ : type_of% @below_drew1 := @below_drew1
theorem b7_ : type_of% @below_alloc := @below_alloc
theorem q1_ : type_of% @Kd.V_drewN := @Kd.V_drewN
theorem q2_ : type_of% @Kd.V_drew := @Kd.V_drew
theorem q3_ : type_of% @Kd.V_alloc := @Kd.V_alloc
theorem q4_ : type_of% @Kd.N_drewN := @Kd.N_drewN
theorem q5_ : type_of% @Kd.N_drew := @Kd.N_drew
theorem q6_ : type_of% @Kd.N_alloc := @Kd.N_alloc
theorem r6_ : type_of% @blk_below := @blk_below
theorem tollhouselaw15_AuthLess.mono_l : ∀ k, (∀ y0 y1 y2 y3 y4 y5 y6 y7 y8 y9 y10 y11 y12 y13 y14 y15 y16 y17 y18 y19, LeO (tollhouselaw15_AuthLess.l0 k y0 y1 y2 y3 y4 y5 y6 y7 y8 y9 y10 y11 y12 y13 y14 y15 y16 y17 y18 y19) (tollhouselaw15_AuthLess.l0 (k + 1) y0 y1 y2 y3 y4 y5 y6 y7 y8 y9 y10 y11 y12 y13 y14 y15 y16 y17 y18 y19))
 | 0 => fun _ _ _ _ _ _ _ _ _ _ _ _ _ _ _ _ _ _ _ _ r h => by simp [tollhouselaw15_AuthLess.l0] at h
 | k + 1 => by
  have ih0 := tollhouselaw15_AuthLess.mono_l k
  ·intro y0 y1 y2 y3 y4 y5 y6 y7 y8 y9 y10 y11 y12 y13 y14 y15 y16 y17 y18 y19
   unfold tollhouselaw15_AuthLess.l0
   repeat' first
   | (with_reducible exact ih0 _ _ _ _ _ _ _ _ _ _ _ _ _ _ _ _ _ _ _ _)
   | (with_reducible exact tollhouselaw15_wakes.mono _)
   | (with_reducible exact LeO.refl _)
   | (with_reducible exact LeO.none _)
   | (with_reducible refine LeO.ite ?_ ?_)
   | (with_reducible refine LeO.bind ?_ (fun _ => ?_))
   | exact ih0 _ _ _ _ _ _ _ _ _ _ _ _ _ _ _ _ _ _ _ _
   | exact tollhouselaw15_wakes.mono _
   | exact LeO.none _
   | refine LeO.ite ?_ ?_
   | refine LeO.bind ?_ (fun _ => ?_)
theorem tollhouselaw15_AuthLess.mono : ∀ a0 a1 a2 a3 a4 a5 a6 a7 a8 a9 a10 a11 a12 k, LeO (tollhouselaw15_AuthLess.f k a0 a1 a2 a3 a4 a5 a6 a7 a8 a9 a10 a11 a12) (tollhouselaw15_AuthLess.f (k + 1) a0 a1 a2 a3 a4 a5 a6 a7 a8 a9 a10 a11 a12) := by
 intro a0 a1 a2 a3 a4 a5 a6 a7 a8 a9 a10 a11 a12 k
 have ih0 := tollhouselaw15_AuthLess.mono_l k
 unfold tollhouselaw15_AuthLess.f
 repeat' first
   | (with_reducible exact ih0 _ _ _ _ _ _ _ _ _ _ _ _ _ _ _ _ _ _ _ _)
   | (with_reducible exact tollhouselaw15_wakes.mono _)
   | (with_reducible exact LeO.refl _)
   | (with_reducible exact LeO.none _)
   | (with_reducible refine LeO.ite ?_ ?_)
   | (with_reducible refine LeO.bind ?_ (fun _ => ?_))
   | exact ih0 _ _ _ _ _ _ _ _ _ _ _ _ _ _ _ _ _ _ _ _
   | exact tollhouselaw15_wakes.mono _
   | exact LeO.none _
   | refine LeO.ite ?_ ?_
   | refine LeO.bind ?_ (fun _ => ?_)
def tollhouselaw15_AuthLess.T5 : Bool × List (List Nat × List Nat) := (true, [([], []), ([0], [0]), ([], []), ([1, 2], [1, 2]), ([3], [3]), ([], []), ([5], [5]), ([], []), ([7], [7]), ([6, 8], [6, 8]), ([4, 9, 4], [4, 9]), ([0, 1, 2, 3, 4, 5, 6, 7, 8, 9, 10], []), ([11, 10, 10, 0, 1, 2, 3, 4, 5, 6, 7, 8, 9, 10], [10, 11])])
def tollhouselaw15_AuthLess.B5 : List Nat := [0, 1, 0, 7, 15, 0, 32, 0, 128, 480, 1023, 2047, 4095]
theorem tollhouselaw15_AuthLess.tab5 : rtab .any (opsOf Tryz.f6 5) = tollhouselaw15_AuthLess.T5 := by kernel_rfl
theorem tollhouselaw15_AuthLess.bits5 : waitsOk tollhouselaw15_AuthLess.T5.2 tollhouselaw15_AuthLess.B5 = true := by kernel_rfl
def tollhouselaw15_AuthLess.T6 : Bool × List (List Nat × List Nat) := (true, [([], []), ([0], [0]), ([], []), ([1, 2], [1, 2]), ([3], [3]), ([], []), ([5], [5]), ([4, 6, 4], [4, 6]), ([], []), ([8], [8]), ([], []), ([9, 10], [9, 10]), ([7, 11, 7], [7, 11]), ([0, 1, 2, 3, 4, 5, 6, 7, 8, 9, 10, 11, 12], []), ([13, 12, 12, 0, 1, 2, 3, 4, 5, 6, 7, 8, 9, 10, 11, 12], [12, 13])])
def tollhouselaw15_AuthLess.B6 : List Nat := [0, 1, 0, 7, 15, 0, 32, 127, 0, 256, 0, 1792, 4095, 8191, 16383]
theorem tollhouselaw15_AuthLess.tab6 : rtab .any (opsOf Tryz.f6 6) = tollhouselaw15_AuthLess.T6 := by kernel_rfl
theorem tollhouselaw15_AuthLess.bits6 : waitsOk tollhouselaw15_AuthLess.T6.2 tollhouselaw15_AuthLess.B6 = true := by kernel_rfl
def tollhouselaw15_AuthLess.T11 : Bool × List (List Nat × List Nat) := (true, [([], []), ([0], [0]), ([1], [1]), ([2, 1], [1, 2]), ([1], [1]), ([3, 4, 1], [1, 3, 4]), ([5, 1], [1, 5]), ([6, 1], [1, 6]), ([1], [1]), ([8, 1], [1, 8]), ([7, 9, 1], [1, 7, 9]), ([1, 10], [1, 10]), ([11, 1, 0, 1, 2, 3, 4, 5, 6, 7, 8, 9, 10, 11], [0, 11])])
def tollhouselaw15_AuthLess.B11 : List Nat := [0, 1, 3, 7, 3, 31, 63, 127, 3, 259, 1023, 2047, 4095]
theorem tollhouselaw15_AuthLess.tab11 : rtab .any (opsOf Tryz.f6 11) = tollhouselaw15_AuthLess.T11 := by kernel_rfl
theorem tollhouselaw15_AuthLess.bits11 : waitsOk tollhouselaw15_AuthLess.T11.2 tollhouselaw15_AuthLess.B11 = true := by kernel_rfl
def tollhouselaw15_AuthLess.T12 : Bool × List (List Nat × List Nat) := (true, [([], []), ([0], [0]), ([], []), ([2], [2]), ([3], [3]), ([4], [4]), ([1, 5], [1, 5]), ([6, 1], [6]), ([7], [7]), ([8, 7, 7], [7, 8]), ([7], [7]), ([10, 9, 7], [7, 10]), ([11, 11, 7], [7, 11]), ([12], [12]), ([13, 12], [12, 13]), ([12, 14, 7], [7, 12, 14]), ([15, 12, 7], [7, 15]), ([16], [16]), ([17, 16], [16, 17]), ([18, 16], [16, 18]), ([19, 16], [16, 19]), ([16, 20, 7], [7, 16, 20]), ([9, 21, 7], [7, 9, 21]), ([7, 22], [7, 22]), ([23, 16], [23]), ([24, 24], [24]), ([24, 25], [24, 25]), ([26, 25, 0, 1, 2, 3, 4, 5, 6, 7, 8, 9, 10, 11, 12, 13, 14, 15, 16, 17, 18, 19, 20, 21, 22, 23, 24, 25, 26], [26])])
def tollhouselaw15_AuthLess.B12 : List Nat := [0, 1, 0, 4, 12, 28, 63, 127, 255, 511, 255, 2047, 4095, 8191, 16383, 32767, 65535, 131071, 262143, 524287, 1048575, 2097151, 4194303, 8388607, 16777215, 33554431, 67108863, 134217727]
theorem tollhouselaw15_AuthLess.tab12 : rtab .any (opsOf Tryz.f6 12) = tollhouselaw15_AuthLess.T12 := by kernel_rfl
theorem tollhouselaw15_AuthLess.bits12 : waitsOk tollhouselaw15_AuthLess.T12.2 tollhouselaw15_AuthLess.B12 = true := by kernel_rfl
set_option maxHeartbeats 8000000 in
set_option maxRecDepth 100000 in
theorem tollhouselaw15_AuthLess.calls (k : Nat) (P0_0_ : Nat → Prop) (A0_0 : Option Addr) (c0_0 : Nat) (l0_0 : List (S27)) (a0_1 : Int) (a0_2 : Int) (a1_0 : ByteArray) (P1_1_ : Nat → Prop) (A1_1 : Option Addr) (c1_1 : Nat) (l1_1 : List (S46)) (a1_2 : Int) (a1_3 : Int) (a1_4 : Int) (a1_5 : Int) (a1_6 : Int) (a1_7 : Int) (a1_8 : Int) (a2 : Int) (r : Bool) (w : World) (hs0_0 : Kd.V k27 27 w w.heap.size (fun k_ => P0_0_ k_) (.slice A0_0 l0_0.length c0_0) l0_0) (hs1_1 : Kd.V k46 46 w w.heap.size (fun k_ => P1_1_ k_) (.slice A1_1 l1_1.length c1_1) l1_1) (hr_ : r = true) (hT : Tab w) (h : tollhouselaw15_AuthLess.f k l0_0 a0_1 a0_2 a1_0 l1_1 a1_2 a1_3 a1_4 a1_5 a1_6 a1_7 a1_8 a2 = some r) :
  Calls Tryz.prog 6 #[.agg #[.slice A0_0 l0_0.length c0_0, .int .i64 a0_1, .int .i64 a0_2], .agg #[.string a1_0, .slice A1_1 l1_1.length c1_1, .int .i64 a1_2, .int .i64 a1_3, .int .i64 a1_4, .int .i64 a1_5, .int .i64 a1_6, .int .i64 a1_7, .int .i64 a1_8], .int .u8 a2] w fun e w' => e = .returned (.bool r) ∧ Below w.heap.size w w' := by
 have HT := A_ hT
 clear hT
 have hu24 := Tryz.underlying24
 have hu27 := Tryz.underlying27
 have HO0_0 := A_ (show Kd.V k27 27 w w.heap.size (fun k_ => ((P0_0_ k_ ∨ P1_1_ k_) ∨ w.heap.size ≤ k_)) (.slice A0_0 l0_0.length c0_0) l0_0 from Kd.V_mono hs0_0 (fun k_ hk => .inl (.inl hk)))
 have HO1_1 := A_ (show Kd.V k46 46 w w.heap.size (fun k_ => ((P0_0_ k_ ∨ P1_1_ k_) ∨ w.heap.size ≤ k_)) (.slice A1_1 l1_1.length c1_1) l1_1 from Kd.V_mono hs1_1 (fun k_ hk => .inl (.inr hk)))
 have HB := A_ (Below.refl w.heap.size w)
 have H : ((auth_Config.f l0_0 a0_1 a0_2).bind fun t341 => (if t341 = true then (if (l0_0.length : Int) = 0 then (none) else (if 0 ≤ (Int.tmod (wrap64 (a2)) (l0_0.length : Int)) then (if (Int.tmod (wrap64 (a2)) (l0_0.length : Int)) ≤ (l0_0.length : Int) then ((some (l0_0.take ((Int.tmod (wrap64 (a2)) (l0_0.length : Int)) : Int).toNat : List (S27))).bind fun y345 => (if ([] : List (S27)).length + y345.length < 1466015503701 then ((some (([] : List (S27)) ++ y345 : List (S27))).bind fun y350 => (if 0 ≤ (wrap64 ((Int.tmod (wrap64 (a2)) (l0_0.length : Int)) + 1)) then (if (wrap64 ((Int.tmod (wrap64 (a2)) (l0_0.length : Int)) + 1)) ≤ (l0_0.length : Int) then ((some (l0_0.drop ((wrap64 ((Int.tmod (wrap64 (a2)) (l0_0.length : Int)) + 1)) : Int).toNat : List (S27))).bind fun y353 => (if y350.length + y353.length < 1466015503701 then ((some (l0_0.take ((Int.tmod (wrap64 (a2)) (l0_0.length : Int)) : Int).toNat : List (S27))).bind fun y345 => (if ([] : List (S27)).length + y345.length < 1466015503701 then ((some (([] : List (S27)) ++ y345 : List (S27))).bind fun y366 => ((some (([(⟨a1_0, l1_1, a1_2, a1_3, a1_4, a1_5, a1_6, a1_7, a1_8⟩ : S27)] : List (S27)) : List (S27))).bind fun y369 => (if y366.length + y369.length < 1466015503701 then ((some (y366 ++ y369 : List (S27))).bind fun y372 => ((some (l0_0.drop ((Int.tmod (wrap64 (a2)) (l0_0.length : Int)) : Int).toNat : List (S27))).bind fun y375 => (if y372.length + y375.length < 1466015503701 then (tollhouselaw15_AuthLess.l0 k false 0 l0_0 a0_1 a0_2 a1_0 l1_1 a1_2 a1_3 a1_4 a1_5 a1_6 a1_7 a1_8 (y350 ++ y353) a0_1 a0_2 (y372 ++ y375) a0_1 a0_2) else (none)))) else (none)))) else (none))) else (none))) else (none)) else (none))) else (none))) else (none)) else (none))) else ((tollhouselaw15_wakes.f k).bind fun t342 => (some t342)))) = some r := h
 clear h
 replace H := Option.bind_eq_some_iff.mp H
 obtain ⟨t341, A40, H⟩ := H
 try dsimp only at H
 have A4 := A_ A40
 clear A40
 by_cases c5 : t341 = true
 rotate_left
 ·replace c5 := Bool.eq_false_iff.mpr c5
  subst c5
  rw [if_neg (show ¬ (false = true) by decide)] at H
  replace H := Option.bind_eq_some_iff.mp H
  obtain ⟨t342, A1110, H⟩ := H
  try dsimp only at H
  have A111 := A_ A1110
  clear A1110
  obtain rfl := Option.some.inj H
  go_enter Tryz.func6, Tryz.ntmps6
  go_wp2_with (first | ((with_reducible refine gate_dst (N := 3) rfl ?_); (try (refine gate_guard (by rfl) ?_; dsimp only)); refine box_event ?hg (N := 3) ?hd (cs := #[.slice A0_0 l0_0.length c0_0, .int .i64 a0_1, .int .i64 a0_2]) (t := 24) ?hr ?_; (case hd => rfl); (case hg => rfl); (case hr => first | (go_simp; done) | (go_simp; rfl)); intro gb339 hg w112 hbox hb; have n0_ := A_ (Kd.V_below (Kd.V_elderB (by (with_reducible repeat (first | apply q3_ | apply q1_ | apply q2_)); exact HO0_0.out) gb339 (Nat.le_of_eq hg.symm)) hb); have n1_ := A_ (Kd.V_below (Kd.V_elderB (by (with_reducible repeat (first | apply q3_ | apply q1_ | apply q2_)); exact HO1_1.out) gb339 (Nat.le_of_eq hg.symm)) hb); have n2_ := A_ (below_step (by repeat (first | (with_reducible first | exact HB.out | apply b7_ | apply b5_ | apply b6_) | exact HB.out)) hb); have n3_ := A_ (hbox); have n4_ := A_ ((by rw [hg]; exact (below_size (by repeat (first | (with_reducible first | exact HB.out | apply b7_ | apply b5_ | apply b6_) | exact HB.out))) : w.heap.size ≤ gb339)); have n5_ := A_ ((by rw [hg]; exact (below_size (by repeat (first | (with_reducible first | exact HB.out | apply b7_ | apply b5_ | apply b6_) | exact HB.out))) : w.heap.size ≤ gb339)); clear HO0_0; clear HO1_1; clear HB; have HO0_0 := n0_; have HO1_1 := n1_; have HB := n2_; have BK339 := n3_; have GW339 := n4_; have GE339 := n5_; clear n0_ n1_ n2_ n3_ n4_ n5_; clear hb hbox hg) | ((with_reducible refine gate_dst (N := 4) rfl ?_); (try (refine gate_guard (by rfl) ?_; dsimp only)); refine box_event ?hg (N := 4) ?hd (cs := #[.string a1_0, .slice A1_1 l1_1.length c1_1, .int .i64 a1_2, .int .i64 a1_3, .int .i64 a1_4, .int .i64 a1_5, .int .i64 a1_6, .int .i64 a1_7, .int .i64 a1_8]) (t := 27) ?hr ?_; (case hd => rfl); (case hg => rfl); (case hr => first | (go_simp; done) | (go_simp; rfl)); intro gb340 hg w113 hbox hb; have n0_ := A_ (Kd.V_below (Kd.V_elderB (by (with_reducible repeat (first | apply q3_ | apply q1_ | apply q2_)); exact HO0_0.out) gb340 (Nat.le_of_eq hg.symm)) hb); have n1_ := A_ (Kd.V_below (Kd.V_elderB (by (with_reducible repeat (first | apply q3_ | apply q1_ | apply q2_)); exact HO1_1.out) gb340 (Nat.le_of_eq hg.symm)) hb); have n2_ := A_ (r6_ (by (with_reducible repeat (first | refine b1_ ?_ _ | refine b3_ ?_ | refine b2_ ?_ _)); exact BK339.out) hb); have n3_ := A_ (below_step (by repeat (first | (with_reducible first | exact HB.out | apply b7_ | apply b5_ | apply b6_ | refine b4_ ?_ GE339.out) | exact HB.out)) hb); have n4_ := A_ (hbox); have n5_ := A_ ((by rw [hg]; exact (below_size (by repeat (first | (with_reducible first | exact HB.out | apply b7_ | apply b5_ | apply b6_ | refine b4_ ?_ GE339.out) | exact HB.out))) : w.heap.size ≤ gb340)); have n6_ := A_ ((by rw [hg]; exact (below_size (by repeat (first | (with_reducible first | exact HB.out | apply b7_ | apply b5_ | apply b6_ | refine b4_ ?_ GE339.out) | exact HB.out))) : w.heap.size ≤ gb340)); have n7_ := A_ ((by rw [hg]; exact Nat.ne_of_lt (blk_lt (by (with_reducible repeat (first | refine b1_ ?_ _ | refine b3_ ?_ | refine b2_ ?_ _)); exact BK339.out)) : gb339 ≠ gb340)); have n8_ := A_ ((by rw [hg]; exact Nat.ne_of_gt (blk_lt (by (with_reducible repeat (first | refine b1_ ?_ _ | refine b3_ ?_ | refine b2_ ?_ _)); exact BK339.out)) : gb340 ≠ gb339)); clear HO0_0; clear HO1_1; clear BK339; clear HB; have HO0_0 := n0_; have HO1_1 := n1_; have BK339 := n2_; have HB := n3_; have BK340 := n4_; have GW340 := n5_; have GE340 := n6_; have NB339_340 := n7_; have NB340_339 := n8_; clear n0_ n1_ n2_ n3_ n4_ n5_ n6_ n7_ n8_; clear hb hbox hg; have hnb114 := NB339_340.out; have hnc114 := NB340_339.out; have hcz115_0 : w113.cell? ⟨gb339, 0, none⟩ = some (.slice A0_0 l0_0.length c0_0) := (b0_ BK339.out 0).trans rfl; have hcz115_1 : w113.cell? ⟨gb339, 1, none⟩ = some (.int .i64 a0_1) := (b0_ BK339.out 1).trans rfl; have hcz115_2 : w113.cell? ⟨gb339, 2, none⟩ = some (.int .i64 a0_2) := (b0_ BK339.out 2).trans rfl; have hfz115_0 := blk_frozen BK339.out 0; have hfz115_1 := blk_frozen BK339.out 1; have hfz115_2 := blk_frozen BK339.out 2) | ((with_reducible refine gate_callee (f := 9) rfl ?_); refine goesL_ (some 13) rfl rfl Tryz.func9 (by kernel_rfl) rfl #[.agg #[.slice A0_0 l0_0.length c0_0, .int .i64 a0_1, .int .i64 a0_2]] rfl (by (try simp only [List.map_toArray, List.map_cons, List.map_nil]); first | done | rfl | (simp only [List.length_drop, List.length_take]; rfl)) ?_; (with_reducible refine (auth_Config.calls _ _ l0_0 a0_1 a0_2 false _ ?side1 ?side2 ?sideT A4.out).mono ?_); (case sideT => repeat (first | exact HT.out | exact (Tab.below HT.out HB.out) | (with_reducible first | refine Tab.alloc ?_ _ | refine Tab.drewN ?_ _ | refine Tab.drew ?_ | refine Tab.set ?_ HT.out GE339.out _ | refine Tab.set ?_ HT.out GE340.out _))); (case side1 => repeat (first | exact (Kd.V_reads' HO0_0.out).2.2 | (with_reducible refine Kd.C_alloc ?_ _) | (with_reducible refine Kd.C_drewN ?_ _) | (with_reducible refine Kd.C_drew ?_))); (case side2 => exact (Kd.V_reads' HO0_0.out).2.1); rintro e w116 ⟨rfl, hb⟩; refine ⟨_, rfl, ?_⟩; have n0_ := A_ (Kd.V_below (by (with_reducible repeat (first | apply q3_ | apply q1_ | apply q2_)); exact HO0_0.out) hb); have n1_ := A_ (Kd.V_below (by (with_reducible repeat (first | apply q3_ | apply q1_ | apply q2_)); exact HO1_1.out) hb); have n2_ := A_ (r6_ (by (with_reducible repeat (first | refine b1_ ?_ _ | refine b3_ ?_ | refine b2_ ?_ _)); exact BK339.out) hb); have n3_ := A_ (r6_ (by (with_reducible repeat (first | refine b1_ ?_ _ | refine b3_ ?_ | refine b2_ ?_ _)); exact BK340.out) hb); have n4_ := A_ (below_step (by repeat (first | (with_reducible first | exact HB.out | apply b7_ | apply b5_ | apply b6_ | refine b4_ ?_ GE339.out | refine b4_ ?_ GE340.out) | exact HB.out)) hb); clear HO0_0; clear HO1_1; clear BK339; clear BK340; clear HB; have HO0_0 := n0_; have HO1_1 := n1_; have BK339 := n2_; have BK340 := n3_; have HB := n4_; clear n0_ n1_ n2_ n3_ n4_; (try clear hb); (try clear hb2); (try clear hk); (try clear hi)) | ((with_reducible refine gate_callee (f := 15) rfl ?_); refine goesL_ (some 15) rfl rfl Tryz.func15 (by kernel_rfl) rfl #[] rfl (by (try simp only [List.map_toArray, List.map_cons, List.map_nil]); first | done | rfl | (simp only [List.length_drop, List.length_take]; rfl)) ?_; (with_reducible refine (tollhouselaw15_wakes.calls k t342 _ ?sideT A111.out).mono ?_); (case sideT => repeat (first | exact HT.out | exact (Tab.below HT.out HB.out) | (with_reducible first | refine Tab.alloc ?_ _ | refine Tab.drewN ?_ _ | refine Tab.drew ?_ | refine Tab.set ?_ HT.out GE339.out _ | refine Tab.set ?_ HT.out GE340.out _))); rintro e w117 ⟨rfl, hb⟩; refine ⟨_, rfl, ?_⟩; have n0_ := A_ (Kd.V_below (by (with_reducible repeat (first | apply q3_ | apply q1_ | apply q2_)); exact HO0_0.out) hb); have n1_ := A_ (Kd.V_below (by (with_reducible repeat (first | apply q3_ | apply q1_ | apply q2_)); exact HO1_1.out) hb); have n2_ := A_ (r6_ (by (with_reducible repeat (first | refine b1_ ?_ _ | refine b3_ ?_ | refine b2_ ?_ _)); exact BK339.out) hb); have n3_ := A_ (r6_ (by (with_reducible repeat (first | refine b1_ ?_ _ | refine b3_ ?_ | refine b2_ ?_ _)); exact BK340.out) hb); have n4_ := A_ (below_step (by repeat (first | (with_reducible first | exact HB.out | apply b7_ | apply b5_ | apply b6_ | refine b4_ ?_ GE339.out | refine b4_ ?_ GE340.out) | exact HB.out)) hb); clear HO0_0; clear HO1_1; clear BK339; clear BK340; clear HB; have HO0_0 := n0_; have HO1_1 := n1_; have BK339 := n2_; have BK340 := n3_; have HB := n4_; clear n0_ n1_ n2_ n3_ n4_; (try clear hb); (try clear hb2); (try clear hk); (try clear hi)))
  go_ret
  exact ⟨by first | rfl | (simp [errW_none, errW_some] <;> rfl) | (simp [*, errW_none, errW_some] <;> rfl), by repeat (first | (with_reducible first | exact HB.out | apply b7_ | apply b5_ | apply b6_ | refine b4_ ?_ GE339.out | refine b4_ ?_ GE340.out) | exact HB.out)⟩
 subst c5
 rw [if_pos rfl] at H
 by_cases c6 : (l0_0.length : Int) = 0
 ·rw [if_pos c6] at H
  exact absurd H (by simp)
 rw [if_neg c6] at H
 have c6b0 : ((l0_0.length : Int) == 0) = false := beq_eq_false_iff_ne.mpr c6
 have c6b1 : ((l0_0.length : Int) != 0) = true := bne_iff_ne.mpr c6
 have c6b2 : ¬ (l0_0 = []) := fun h_ => c6 (by rw [h_]; rfl)
 obtain ⟨ji7, hji7⟩ : ∃ j_ : Int, (Int.tmod (wrap64 (a2)) (l0_0.length : Int)) = j_ := ⟨_, rfl⟩
 replace H : (if 0 ≤ (ji7) then (if (ji7) ≤ (l0_0.length : Int) then ((some (l0_0.take ((ji7) : Int).toNat : List (S27))).bind fun y345 => (if ([] : List (S27)).length + y345.length < 1466015503701 then ((some (([] : List (S27)) ++ y345 : List (S27))).bind fun y350 => (if 0 ≤ (wrap64 ((ji7) + 1)) then (if (wrap64 ((ji7) + 1)) ≤ (l0_0.length : Int) then ((some (l0_0.drop ((wrap64 ((ji7) + 1)) : Int).toNat : List (S27))).bind fun y353 => (if y350.length + y353.length < 1466015503701 then ((some (l0_0.take ((ji7) : Int).toNat : List (S27))).bind fun y345 => (if ([] : List (S27)).length + y345.length < 1466015503701 then ((some (([] : List (S27)) ++ y345 : List (S27))).bind fun y366 => ((some (([(⟨a1_0, l1_1, a1_2, a1_3, a1_4, a1_5, a1_6, a1_7, a1_8⟩ : S27)] : List (S27)) : List (S27))).bind fun y369 => (if y366.length + y369.length < 1466015503701 then ((some (y366 ++ y369 : List (S27))).bind fun y372 => ((some (l0_0.drop ((ji7) : Int).toNat : List (S27))).bind fun y375 => (if y372.length + y375.length < 1466015503701 then (tollhouselaw15_AuthLess.l0 k false 0 l0_0 a0_1 a0_2 a1_0 l1_1 a1_2 a1_3 a1_4 a1_5 a1_6 a1_7 a1_8 (y350 ++ y353) a0_1 a0_2 (y372 ++ y375) a0_1 a0_2) else (none)))) else (none)))) else (none))) else (none))) else (none)) else (none))) else (none))) else (none)) else (none)) = some r := by first | (rw [hji7] at H; exact H) | (simp only [hji7] at H ⊢; exact H)
 (try rw [hji7] at A4)
 by_cases c8 : 0 ≤ (ji7)
 rotate_left
 ·rw [if_neg c8] at H
  exact absurd H (by simp)
 rw [if_pos c8] at H
 have c8b0 := eq_true c8
 have c8b1 : decide (0 ≤ (ji7)) = true := decide_eq_true c8
 clear c8
 by_cases c9 : (ji7) ≤ (l0_0.length : Int)
 rotate_left
 ·rw [if_neg c9] at H
  exact absurd H (by simp)
 rw [if_pos c9] at H
 have c9b0 := eq_true c9
 have c9b1 : decide ((ji7) ≤ (l0_0.length : Int)) = true := decide_eq_true c9
 clear c9
 obtain ⟨y345, hy345⟩ : ∃ y_ : List (S27), y_ = (l0_0.take ((ji7) : Int).toNat) := ⟨_, rfl⟩
 replace H : (if ([] : List (S27)).length + y345.length < 1466015503701 then ((some (([] : List (S27)) ++ y345 : List (S27))).bind fun y350 => (if 0 ≤ (wrap64 ((ji7) + 1)) then (if (wrap64 ((ji7) + 1)) ≤ (l0_0.length : Int) then ((some (l0_0.drop ((wrap64 ((ji7) + 1)) : Int).toNat : List (S27))).bind fun y353 => (if y350.length + y353.length < 1466015503701 then ((some (l0_0.take ((ji7) : Int).toNat : List (S27))).bind fun y345 => (if ([] : List (S27)).length + y345.length < 1466015503701 then ((some (([] : List (S27)) ++ y345 : List (S27))).bind fun y366 => ((some (([(⟨a1_0, l1_1, a1_2, a1_3, a1_4, a1_5, a1_6, a1_7, a1_8⟩ : S27)] : List (S27)) : List (S27))).bind fun y369 => (if y366.length + y369.length < 1466015503701 then ((some (y366 ++ y369 : List (S27))).bind fun y372 => ((some (l0_0.drop ((ji7) : Int).toNat : List (S27))).bind fun y375 => (if y372.length + y375.length < 1466015503701 then (tollhouselaw15_AuthLess.l0 k false 0 l0_0 a0_1 a0_2 a1_0 l1_1 a1_2 a1_3 a1_4 a1_5 a1_6 a1_7 a1_8 (y350 ++ y353) a0_1 a0_2 (y372 ++ y375) a0_1 a0_2) else (none)))) else (none)))) else (none))) else (none))) else (none)) else (none))) else (none)) = some r := by first | (rw [hy345]; with_reducible exact H) | (have H2_ := (Option.bind_some _ _).symm.trans H; rw [hy345]; with_reducible exact H2_) | (have H2_ := (Option.bind_some _ _).symm.trans H; with_reducible exact H2_) | with_reducible exact H | (rw [hy345]; exact H) | exact H
 have Ny345 := A_ hy345
 clear hy345
 by_cases c10 : ([] : List (S27)).length + y345.length < 1466015503701
 rotate_left
 ·rw [if_neg c10] at H
  exact absurd H (by simp)
 rw [if_pos c10] at H
 have LMc10 := A_ c10
 clear c10
 obtain ⟨y350, hy350⟩ : ∃ y_ : List (S27), y_ = (([] : List (S27)) ++ y345) := ⟨_, rfl⟩
 replace H : (if 0 ≤ (wrap64 ((ji7) + 1)) then (if (wrap64 ((ji7) + 1)) ≤ (l0_0.length : Int) then ((some (l0_0.drop ((wrap64 ((ji7) + 1)) : Int).toNat : List (S27))).bind fun y353 => (if y350.length + y353.length < 1466015503701 then ((some (l0_0.take ((ji7) : Int).toNat : List (S27))).bind fun y345 => (if ([] : List (S27)).length + y345.length < 1466015503701 then ((some (([] : List (S27)) ++ y345 : List (S27))).bind fun y366 => ((some (([(⟨a1_0, l1_1, a1_2, a1_3, a1_4, a1_5, a1_6, a1_7, a1_8⟩ : S27)] : List (S27)) : List (S27))).bind fun y369 => (if y366.length + y369.length < 1466015503701 then ((some (y366 ++ y369 : List (S27))).bind fun y372 => ((some (l0_0.drop ((ji7) : Int).toNat : List (S27))).bind fun y375 => (if y372.length + y375.length < 1466015503701 then (tollhouselaw15_AuthLess.l0 k false 0 l0_0 a0_1 a0_2 a1_0 l1_1 a1_2 a1_3 a1_4 a1_5 a1_6 a1_7 a1_8 (y350 ++ y353) a0_1 a0_2 (y372 ++ y375) a0_1 a0_2) else (none)))) else (none)))) else (none))) else (none))) else (none)) else (none)) = some r := by first | (rw [hy350]; with_reducible exact H) | (have H2_ := (Option.bind_some _ _).symm.trans H; rw [hy350]; with_reducible exact H2_) | (have H2_ := (Option.bind_some _ _).symm.trans H; with_reducible exact H2_) | with_reducible exact H | (rw [hy350]; exact H) | exact H
 have Ny350 := A_ hy350
 clear hy350
 obtain ⟨ji11, hji11⟩ : ∃ j_ : Int, (wrap64 ((ji7) + 1)) = j_ := ⟨_, rfl⟩
 replace H : (if 0 ≤ (ji11) then (if (ji11) ≤ (l0_0.length : Int) then ((some (l0_0.drop ((ji11) : Int).toNat : List (S27))).bind fun y353 => (if y350.length + y353.length < 1466015503701 then ((some (l0_0.take ((ji7) : Int).toNat : List (S27))).bind fun y345 => (if ([] : List (S27)).length + y345.length < 1466015503701 then ((some (([] : List (S27)) ++ y345 : List (S27))).bind fun y366 => ((some (([(⟨a1_0, l1_1, a1_2, a1_3, a1_4, a1_5, a1_6, a1_7, a1_8⟩ : S27)] : List (S27)) : List (S27))).bind fun y369 => (if y366.length + y369.length < 1466015503701 then ((some (y366 ++ y369 : List (S27))).bind fun y372 => ((some (l0_0.drop ((ji7) : Int).toNat : List (S27))).bind fun y375 => (if y372.length + y375.length < 1466015503701 then (tollhouselaw15_AuthLess.l0 k false 0 l0_0 a0_1 a0_2 a1_0 l1_1 a1_2 a1_3 a1_4 a1_5 a1_6 a1_7 a1_8 (y350 ++ y353) a0_1 a0_2 (y372 ++ y375) a0_1 a0_2) else (none)))) else (none)))) else (none))) else (none))) else (none)) else (none)) = some r := by first | (rw [hji11] at H; exact H) | (simp only [hji11] at H ⊢; exact H)
 (try rw [hji11] at A4)
 have hji11w : (IntKind.i64.wrap ((ji7) + 1)) = ji11 := (i64_w _).trans hji11
 by_cases c12 : 0 ≤ (ji11)
 rotate_left
 ·rw [if_neg c12] at H
  exact absurd H (by simp)
 rw [if_pos c12] at H
 have c12b0 := eq_true c12
 have c12b1 : decide (0 ≤ (ji11)) = true := decide_eq_true c12
 clear c12
 by_cases c13 : (ji11) ≤ (l0_0.length : Int)
 rotate_left
 ·rw [if_neg c13] at H
  exact absurd H (by simp)
 rw [if_pos c13] at H
 have c13b0 := eq_true c13
 have c13b1 : decide ((ji11) ≤ (l0_0.length : Int)) = true := decide_eq_true c13
 clear c13
 obtain ⟨y353, hy353⟩ : ∃ y_ : List (S27), y_ = (l0_0.drop ((ji11) : Int).toNat) := ⟨_, rfl⟩
 replace H : (if y350.length + y353.length < 1466015503701 then ((some (l0_0.take ((ji7) : Int).toNat : List (S27))).bind fun y345 => (if ([] : List (S27)).length + y345.length < 1466015503701 then ((some (([] : List (S27)) ++ y345 : List (S27))).bind fun y366 => ((some (([(⟨a1_0, l1_1, a1_2, a1_3, a1_4, a1_5, a1_6, a1_7, a1_8⟩ : S27)] : List (S27)) : List (S27))).bind fun y369 => (if y366.length + y369.length < 1466015503701 then ((some (y366 ++ y369 : List (S27))).bind fun y372 => ((some (l0_0.drop ((ji7) : Int).toNat : List (S27))).bind fun y375 => (if y372.length + y375.length < 1466015503701 then (tollhouselaw15_AuthLess.l0 k false 0 l0_0 a0_1 a0_2 a1_0 l1_1 a1_2 a1_3 a1_4 a1_5 a1_6 a1_7 a1_8 (y350 ++ y353) a0_1 a0_2 (y372 ++ y375) a0_1 a0_2) else (none)))) else (none)))) else (none))) else (none)) = some r := by first | (rw [hy353]; with_reducible exact H) | (have H2_ := (Option.bind_some _ _).symm.trans H; rw [hy353]; with_reducible exact H2_) | (have H2_ := (Option.bind_some _ _).symm.trans H; with_reducible exact H2_) | with_reducible exact H | (rw [hy353]; exact H) | exact H
 have Ny353 := A_ hy353
 clear hy353
 by_cases c14 : y350.length + y353.length < 1466015503701
 rotate_left
 ·rw [if_neg c14] at H
  exact absurd H (by simp)
 rw [if_pos c14] at H
 have LMc14 := A_ c14
 clear c14
 obtain ⟨y358, hy358⟩ : ∃ y_ : List (S27), y_ = (y350 ++ y353) := ⟨_, rfl⟩
 replace H : ((some (l0_0.take ((ji7) : Int).toNat : List (S27))).bind fun y345 => (if ([] : List (S27)).length + y345.length < 1466015503701 then ((some (([] : List (S27)) ++ y345 : List (S27))).bind fun y366 => ((some (([(⟨a1_0, l1_1, a1_2, a1_3, a1_4, a1_5, a1_6, a1_7, a1_8⟩ : S27)] : List (S27)) : List (S27))).bind fun y369 => (if y366.length + y369.length < 1466015503701 then ((some (y366 ++ y369 : List (S27))).bind fun y372 => ((some (l0_0.drop ((ji7) : Int).toNat : List (S27))).bind fun y375 => (if y372.length + y375.length < 1466015503701 then (tollhouselaw15_AuthLess.l0 k false 0 l0_0 a0_1 a0_2 a1_0 l1_1 a1_2 a1_3 a1_4 a1_5 a1_6 a1_7 a1_8 y358 a0_1 a0_2 (y372 ++ y375) a0_1 a0_2) else (none)))) else (none)))) else (none))) = some r := by first | (rw [hy358]; with_reducible exact H) | (have H2_ := (Option.bind_some _ _).symm.trans H; rw [hy358]; with_reducible exact H2_) | (have H2_ := (Option.bind_some _ _).symm.trans H; with_reducible exact H2_) | with_reducible exact H | (rw [hy358]; exact H) | exact H
 have Ny358 := A_ hy358
 clear hy358
 have c15b0 := eq_true (of_decide_eq_true (by first | (with_reducible assumption) | assumption) : 0 ≤ (ji7))
 have c16b0 := eq_true (of_decide_eq_true (by first | (with_reducible assumption) | assumption) : (ji7) ≤ (l0_0.length : Int))
 have hy345 := Ny345.out
 replace H : (if ([] : List (S27)).length + y345.length < 1466015503701 then ((some (([] : List (S27)) ++ y345 : List (S27))).bind fun y366 => ((some (([(⟨a1_0, l1_1, a1_2, a1_3, a1_4, a1_5, a1_6, a1_7, a1_8⟩ : S27)] : List (S27)) : List (S27))).bind fun y369 => (if y366.length + y369.length < 1466015503701 then ((some (y366 ++ y369 : List (S27))).bind fun y372 => ((some (l0_0.drop ((ji7) : Int).toNat : List (S27))).bind fun y375 => (if y372.length + y375.length < 1466015503701 then (tollhouselaw15_AuthLess.l0 k false 0 l0_0 a0_1 a0_2 a1_0 l1_1 a1_2 a1_3 a1_4 a1_5 a1_6 a1_7 a1_8 y358 a0_1 a0_2 (y372 ++ y375) a0_1 a0_2) else (none)))) else (none)))) else (none)) = some r := by first | (rw [hy345]; with_reducible exact H) | (have H2_ := (Option.bind_some _ _).symm.trans H; rw [hy345]; with_reducible exact H2_) | (have H2_ := (Option.bind_some _ _).symm.trans H; with_reducible exact H2_) | with_reducible exact H | (rw [hy345]; exact H) | exact H
 clear hy345
 by_cases c17 : ([] : List (S27)).length + y345.length < 1466015503701
 rotate_left
 ·rw [if_neg c17] at H
  exact absurd H (by simp)
 rw [if_pos c17] at H
 have LMc17 := A_ c17
 clear c17
 obtain ⟨y366, hy366⟩ : ∃ y_ : List (S27), y_ = (([] : List (S27)) ++ y345) := ⟨_, rfl⟩
 replace H : ((some (([(⟨a1_0, l1_1, a1_2, a1_3, a1_4, a1_5, a1_6, a1_7, a1_8⟩ : S27)] : List (S27)) : List (S27))).bind fun y369 => (if y366.length + y369.length < 1466015503701 then ((some (y366 ++ y369 : List (S27))).bind fun y372 => ((some (l0_0.drop ((ji7) : Int).toNat : List (S27))).bind fun y375 => (if y372.length + y375.length < 1466015503701 then (tollhouselaw15_AuthLess.l0 k false 0 l0_0 a0_1 a0_2 a1_0 l1_1 a1_2 a1_3 a1_4 a1_5 a1_6 a1_7 a1_8 y358 a0_1 a0_2 (y372 ++ y375) a0_1 a0_2) else (none)))) else (none))) = some r := by first | (rw [hy366]; with_reducible exact H) | (have H2_ := (Option.bind_some _ _).symm.trans H; rw [hy366]; with_reducible exact H2_) | (have H2_ := (Option.bind_some _ _).symm.trans H; with_reducible exact H2_) | with_reducible exact H | (rw [hy366]; exact H) | exact H
 have Ny366 := A_ hy366
 clear hy366
 obtain ⟨y369, hy369⟩ : ∃ y_ : List (S27), y_ = (([(⟨a1_0, l1_1, a1_2, a1_3, a1_4, a1_5, a1_6, a1_7, a1_8⟩ : S27)] : List (S27))) := ⟨_, rfl⟩
 replace H : (if y366.length + y369.length < 1466015503701 then ((some (y366 ++ y369 : List (S27))).bind fun y372 => ((some (l0_0.drop ((ji7) : Int).toNat : List (S27))).bind fun y375 => (if y372.length + y375.length < 1466015503701 then (tollhouselaw15_AuthLess.l0 k false 0 l0_0 a0_1 a0_2 a1_0 l1_1 a1_2 a1_3 a1_4 a1_5 a1_6 a1_7 a1_8 y358 a0_1 a0_2 (y372 ++ y375) a0_1 a0_2) else (none)))) else (none)) = some r := by first | (rw [hy369]; with_reducible exact H) | (have H2_ := (Option.bind_some _ _).symm.trans H; rw [hy369]; with_reducible exact H2_) | (have H2_ := (Option.bind_some _ _).symm.trans H; with_reducible exact H2_) | with_reducible exact H | (rw [hy369]; exact H) | exact H
 have Ny369 := A_ hy369
 clear hy369
 by_cases c18 : y366.length + y369.length < 1466015503701
 rotate_left
 ·rw [if_neg c18] at H
  exact absurd H (by simp)
 rw [if_pos c18] at H
 have LMc18 := A_ c18
 clear c18
 obtain ⟨y372, hy372⟩ : ∃ y_ : List (S27), y_ = (y366 ++ y369) := ⟨_, rfl⟩
 replace H : ((some (l0_0.drop ((ji7) : Int).toNat : List (S27))).bind fun y375 => (if y372.length + y375.length < 1466015503701 then (tollhouselaw15_AuthLess.l0 k false 0 l0_0 a0_1 a0_2 a1_0 l1_1 a1_2 a1_3 a1_4 a1_5 a1_6 a1_7 a1_8 y358 a0_1 a0_2 (y372 ++ y375) a0_1 a0_2) else (none))) = some r := by first | (rw [hy372]; with_reducible exact H) | (have H2_ := (Option.bind_some _ _).symm.trans H; rw [hy372]; with_reducible exact H2_) | (have H2_ := (Option.bind_some _ _).symm.trans H; with_reducible exact H2_) | with_reducible exact H | (rw [hy372]; exact H) | exact H
 have Ny372 := A_ hy372
 clear hy372
 have c19b0 := eq_true (of_decide_eq_true (by first | (with_reducible assumption) | assumption) : 0 ≤ (ji7))
 have c20b0 := eq_true (of_decide_eq_true (by first | (with_reducible assumption) | assumption) : (ji7) ≤ (l0_0.length : Int))
 obtain ⟨y375, hy375⟩ : ∃ y_ : List (S27), y_ = (l0_0.drop ((ji7) : Int).toNat) := ⟨_, rfl⟩
 replace H : (if y372.length + y375.length < 1466015503701 then (tollhouselaw15_AuthLess.l0 k false 0 l0_0 a0_1 a0_2 a1_0 l1_1 a1_2 a1_3 a1_4 a1_5 a1_6 a1_7 a1_8 y358 a0_1 a0_2 (y372 ++ y375) a0_1 a0_2) else (none)) = some r := by first | (rw [hy375]; with_reducible exact H) | (have H2_ := (Option.bind_some _ _).symm.trans H; rw [hy375]; with_reducible exact H2_) | (have H2_ := (Option.bind_some _ _).symm.trans H; with_reducible exact H2_) | with_reducible exact H | (rw [hy375]; exact H) | exact H
 have Ny375 := A_ hy375
 clear hy375
 by_cases c21 : y372.length + y375.length < 1466015503701
 rotate_left
 ·rw [if_neg c21] at H
  exact absurd H (by simp)
 rw [if_pos c21] at H
 have LMc21 := A_ c21
 clear c21
 obtain ⟨y380, hy380⟩ : ∃ y_ : List (S27), y_ = (y372 ++ y375) := ⟨_, rfl⟩
 replace H : (tollhouselaw15_AuthLess.l0 k false 0 l0_0 a0_1 a0_2 a1_0 l1_1 a1_2 a1_3 a1_4 a1_5 a1_6 a1_7 a1_8 y358 a0_1 a0_2 y380 a0_1 a0_2) = some r := by first | (rw [hy380]; with_reducible exact H) | (have H2_ := (Option.bind_some _ _).symm.trans H; rw [hy380]; with_reducible exact H2_) | (have H2_ := (Option.bind_some _ _).symm.trans H; with_reducible exact H2_) | with_reducible exact H | (rw [hy380]; exact H) | exact H
 have Ny380 := A_ hy380
 clear hy380
 have H' := A_ H
 clear H
 go_enter Tryz.func6, Tryz.ntmps6
 try go_wp2_with (first | ((with_reducible refine gate_dst (N := 3) rfl ?_); (try (refine gate_guard (by rfl) ?_; dsimp only)); refine box_event ?hg (N := 3) ?hd (cs := #[.slice A0_0 l0_0.length c0_0, .int .i64 a0_1, .int .i64 a0_2]) (t := 24) ?hr ?_; (case hd => rfl); (case hg => rfl); (case hr => first | (go_simp; done) | (go_simp; rfl)); intro gb339 hg w22 hbox hb; have n0_ := A_ (Kd.V_below (Kd.V_elderB (by (with_reducible repeat (first | apply q3_ | apply q1_ | apply q2_)); exact HO0_0.out) gb339 (Nat.le_of_eq hg.symm)) hb); have n1_ := A_ (Kd.V_below (Kd.V_elderB (by (with_reducible repeat (first | apply q3_ | apply q1_ | apply q2_)); exact HO1_1.out) gb339 (Nat.le_of_eq hg.symm)) hb); have n2_ := A_ (below_step (by repeat (first | (with_reducible first | exact HB.out | apply b7_ | apply b5_ | apply b6_) | exact HB.out)) hb); have n3_ := A_ (hbox); have n4_ := A_ ((by rw [hg]; exact (below_size (by repeat (first | (with_reducible first | exact HB.out | apply b7_ | apply b5_ | apply b6_) | exact HB.out))) : w.heap.size ≤ gb339)); have n5_ := A_ ((by rw [hg]; exact (below_size (by repeat (first | (with_reducible first | exact HB.out | apply b7_ | apply b5_ | apply b6_) | exact HB.out))) : w.heap.size ≤ gb339)); clear HO0_0; clear HO1_1; clear HB; have HO0_0 := n0_; have HO1_1 := n1_; have HB := n2_; have BK339 := n3_; have GW339 := n4_; have GE339 := n5_; clear n0_ n1_ n2_ n3_ n4_ n5_; clear hb hbox hg) | ((with_reducible refine gate_dst (N := 4) rfl ?_); (try (refine gate_guard (by rfl) ?_; dsimp only)); refine box_event ?hg (N := 4) ?hd (cs := #[.string a1_0, .slice A1_1 l1_1.length c1_1, .int .i64 a1_2, .int .i64 a1_3, .int .i64 a1_4, .int .i64 a1_5, .int .i64 a1_6, .int .i64 a1_7, .int .i64 a1_8]) (t := 27) ?hr ?_; (case hd => rfl); (case hg => rfl); (case hr => first | (go_simp; done) | (go_simp; rfl)); intro gb340 hg w23 hbox hb; have n0_ := A_ (Kd.V_below (Kd.V_elderB (by (with_reducible repeat (first | apply q3_ | apply q1_ | apply q2_)); exact HO0_0.out) gb340 (Nat.le_of_eq hg.symm)) hb); have n1_ := A_ (Kd.V_below (Kd.V_elderB (by (with_reducible repeat (first | apply q3_ | apply q1_ | apply q2_)); exact HO1_1.out) gb340 (Nat.le_of_eq hg.symm)) hb); have n2_ := A_ (r6_ (by (with_reducible repeat (first | refine b1_ ?_ _ | refine b3_ ?_ | refine b2_ ?_ _)); exact BK339.out) hb); have n3_ := A_ (below_step (by repeat (first | (with_reducible first | exact HB.out | apply b7_ | apply b5_ | apply b6_ | refine b4_ ?_ GE339.out) | exact HB.out)) hb); have n4_ := A_ (hbox); have n5_ := A_ ((by rw [hg]; exact (below_size (by repeat (first | (with_reducible first | exact HB.out | apply b7_ | apply b5_ | apply b6_ | refine b4_ ?_ GE339.out) | exact HB.out))) : w.heap.size ≤ gb340)); have n6_ := A_ ((by rw [hg]; exact (below_size (by repeat (first | (with_reducible first | exact HB.out | apply b7_ | apply b5_ | apply b6_ | refine b4_ ?_ GE339.out) | exact HB.out))) : w.heap.size ≤ gb340)); have n7_ := A_ ((by rw [hg]; exact Nat.ne_of_lt (blk_lt (by (with_reducible repeat (first | refine b1_ ?_ _ | refine b3_ ?_ | refine b2_ ?_ _)); exact BK339.out)) : gb339 ≠ gb340)); have n8_ := A_ ((by rw [hg]; exact Nat.ne_of_gt (blk_lt (by (with_reducible repeat (first | refine b1_ ?_ _ | refine b3_ ?_ | refine b2_ ?_ _)); exact BK339.out)) : gb340 ≠ gb339)); clear HO0_0; clear HO1_1; clear BK339; clear HB; have HO0_0 := n0_; have HO1_1 := n1_; have BK339 := n2_; have HB := n3_; have BK340 := n4_; have GW340 := n5_; have GE340 := n6_; have NB339_340 := n7_; have NB340_339 := n8_; clear n0_ n1_ n2_ n3_ n4_ n5_ n6_ n7_ n8_; clear hb hbox hg; have hnb24 := NB339_340.out; have hnc24 := NB340_339.out; have hcz25_0 : w23.cell? ⟨gb339, 0, none⟩ = some (.slice A0_0 l0_0.length c0_0) := (b0_ BK339.out 0).trans rfl; have hcz25_1 : w23.cell? ⟨gb339, 1, none⟩ = some (.int .i64 a0_1) := (b0_ BK339.out 1).trans rfl; have hcz25_2 : w23.cell? ⟨gb339, 2, none⟩ = some (.int .i64 a0_2) := (b0_ BK339.out 2).trans rfl; have hfz25_0 := blk_frozen BK339.out 0; have hfz25_1 := blk_frozen BK339.out 1; have hfz25_2 := blk_frozen BK339.out 2) | ((with_reducible refine gate_callee (f := 9) rfl ?_); refine goesL_ (some 13) rfl rfl Tryz.func9 (by kernel_rfl) rfl #[.agg #[.slice A0_0 l0_0.length c0_0, .int .i64 a0_1, .int .i64 a0_2]] rfl (by (try simp only [List.map_toArray, List.map_cons, List.map_nil]); first | done | rfl | (simp only [List.length_drop, List.length_take]; rfl)) ?_; (with_reducible refine (auth_Config.calls _ _ l0_0 a0_1 a0_2 true _ ?side1 ?side2 ?sideT A4.out).mono ?_); (case sideT => repeat (first | exact HT.out | exact (Tab.below HT.out HB.out) | (with_reducible first | refine Tab.alloc ?_ _ | refine Tab.drewN ?_ _ | refine Tab.drew ?_ | refine Tab.set ?_ HT.out GE339.out _ | refine Tab.set ?_ HT.out GE340.out _))); (case side1 => repeat (first | exact (Kd.V_reads' HO0_0.out).2.2 | (with_reducible refine Kd.C_alloc ?_ _) | (with_reducible refine Kd.C_drewN ?_ _) | (with_reducible refine Kd.C_drew ?_))); (case side2 => exact (Kd.V_reads' HO0_0.out).2.1); rintro e w26 ⟨rfl, hb⟩; refine ⟨_, rfl, ?_⟩; have n0_ := A_ (Kd.V_below (by (with_reducible repeat (first | apply q3_ | apply q1_ | apply q2_)); exact HO0_0.out) hb); have n1_ := A_ (Kd.V_below (by (with_reducible repeat (first | apply q3_ | apply q1_ | apply q2_)); exact HO1_1.out) hb); have n2_ := A_ (r6_ (by (with_reducible repeat (first | refine b1_ ?_ _ | refine b3_ ?_ | refine b2_ ?_ _)); exact BK339.out) hb); have n3_ := A_ (r6_ (by (with_reducible repeat (first | refine b1_ ?_ _ | refine b3_ ?_ | refine b2_ ?_ _)); exact BK340.out) hb); have n4_ := A_ (below_step (by repeat (first | (with_reducible first | exact HB.out | apply b7_ | apply b5_ | apply b6_ | refine b4_ ?_ GE339.out | refine b4_ ?_ GE340.out) | exact HB.out)) hb); clear HO0_0; clear HO1_1; clear BK339; clear BK340; clear HB; have HO0_0 := n0_; have HO1_1 := n1_; have BK339 := n2_; have BK340 := n3_; have HB := n4_; clear n0_ n1_ n2_ n3_ n4_; (try clear hb); (try clear hb2); (try clear hk); (try clear hi); have hcz27_0 : w26.cell? ⟨gb339, 0, none⟩ = some (.slice A0_0 l0_0.length c0_0) := (b0_ BK339.out 0).trans rfl; have hcz27_1 : w26.cell? ⟨gb339, 1, none⟩ = some (.int .i64 a0_1) := (b0_ BK339.out 1).trans rfl; have hcz27_2 : w26.cell? ⟨gb339, 2, none⟩ = some (.int .i64 a0_2) := (b0_ BK339.out 2).trans rfl; have hfz27_0 := blk_frozen BK339.out 0; have hfz27_1 := blk_frozen BK339.out 1; have hfz27_2 := blk_frozen BK339.out 2))
 have n0_ := A_ (q2_ HO0_0.out)
 have n1_ := A_ (q2_ HO1_1.out)
 have n2_ := A_ (b3_ BK339.out)
 have n3_ := A_ (b3_ BK340.out)
 have n4_ := A_ (b6_ HB.out)
 clear HO0_0
 clear HO1_1
 clear BK339
 clear BK340
 clear HB
 have HO0_0 := n0_
 have HO1_1 := n1_
 have BK339 := n2_
 have BK340 := n3_
 have HB := n4_
 clear n0_ n1_ n2_ n3_ n4_
 refine start_ (n := 6) (S := fun w' => w'.cell? ⟨gb339, 0, none⟩ = some (.slice A0_0 l0_0.length c0_0) ∧ w'.cell? ⟨gb339, 1, none⟩ = some (.int .i64 a0_1) ∧ w'.cell? ⟨gb339, 2, none⟩ = some (.int .i64 a0_2)) (ds := []) #[F_,F_,F_,F_,F_,F_] (by kernel_rfl) rfl rfl ⟨(b0_ BK339.out 0).trans rfl, (b0_ BK339.out 1).trans rfl, (b0_ BK339.out 2).trans rfl⟩ (fun hHeld => ?_)
 generalize w26.drew = w28 at HO0_0 HO1_1 BK339 BK340 HB hHeld ⊢
 refine take_ (i := 0) (N := some 22) (v := ?_) (a' := ?_) #[T_,F_,F_,F_,F_,F_] rfl rfl (by kernel_rfl) (fun _ _ _ h => h) (Or.inl ⟨by rfl, ?_⟩) hHeld ?_ ?_
 rotate_left
 ·rintro w' ⟨s0, s1, s2⟩
  go_simp
  with_reducible rfl
 rotate_left
 ·simp only [Act.put, pb_, pc_, pd_, i64_w, i32_w]
  rfl
 refine take_ (i := 1) (N := some 23) (v := ?_) (a' := ?_) #[T_,T_,F_,F_,F_,F_] rfl rfl (by kernel_rfl) (fun _ _ _ h => h) (Or.inl ⟨by rfl, ?_⟩) hHeld ?_ ?_
 rotate_left
 ·rintro w' ⟨s0, s1, s2⟩
  go_simp
  with_reducible rfl
 rotate_left
 ·simp only [Act.put, pb_, pc_, pd_, i64_w, i32_w]
  rfl
 refine join_ (σ := Nat × Nat) 2 #[T_,T_,T_,T_,F_,F_] (fun s_ => [(8, .pointer (some ⟨s_.1, 0, none⟩)), (9, .pointer (some ⟨s_.2, 0, none⟩))]) (fun s_ w' => (w'.cell? ⟨gb339, 0, none⟩ = some (.slice A0_0 l0_0.length c0_0) ∧ w'.cell? ⟨gb339, 1, none⟩ = some (.int .i64 a0_1) ∧ w'.cell? ⟨gb339, 2, none⟩ = some (.int .i64 a0_2)) ∧ (Kd.V k27 27 w' w.heap.size (fun k_ => ((P0_0_ k_ ∨ P1_1_ k_) ∨ w.heap.size ≤ k_) ∧ k_ ≠ gb339 ∧ k_ ≠ gb340 ∧ k_ ≠ s_.1 ∧ k_ ≠ s_.2) (.slice A0_0 l0_0.length c0_0) l0_0) ∧ (Kd.V k46 46 w' w.heap.size (fun k_ => ((P0_0_ k_ ∨ P1_1_ k_) ∨ w.heap.size ≤ k_) ∧ k_ ≠ gb339 ∧ k_ ≠ gb340 ∧ k_ ≠ s_.1 ∧ k_ ≠ s_.2) (.slice A1_1 l1_1.length c1_1) l1_1) ∧ (w'.heap[gb339]? = some (.cells #[.slice A0_0 l0_0.length c0_0, .int .i64 a0_1, .int .i64 a0_2] 24 (0, 0))) ∧ (w'.heap[gb340]? = some (.cells #[.string a1_0, .slice A1_1 l1_1.length c1_1, .int .i64 a1_2, .int .i64 a1_3, .int .i64 a1_4, .int .i64 a1_5, .int .i64 a1_6, .int .i64 a1_7, .int .i64 a1_8] 27 (0, 0))) ∧ (w'.heap[s_.1]? = some (.cells #[.slice none 0 0, .int .i64 0, .int .i64 0] 24 (0, 0))) ∧ (w'.heap[s_.2]? = some (.cells #[.slice none 0 0, .int .i64 0, .int .i64 0] 24 (0, 0))) ∧ (w.heap.size ≤ s_.1) ∧ (w.heap.size ≤ s_.1) ∧ (gb339 ≠ s_.1) ∧ (s_.1 ≠ gb339) ∧ (gb340 ≠ s_.1) ∧ (s_.1 ≠ gb340) ∧ (s_.2 ≠ s_.1) ∧ (s_.1 ≠ s_.2) ∧ (w.heap.size ≤ s_.2) ∧ (w.heap.size ≤ s_.2) ∧ (gb339 ≠ s_.2) ∧ (s_.2 ≠ gb339) ∧ (gb340 ≠ s_.2) ∧ (s_.2 ≠ gb340) ∧ (Below w.heap.size w w')) ?_ ?_
 rotate_left
 ·intro hCont
  refine two_ (i := 2) (j := 3) (Ni := some 8) (Nj := some 9) #[T_,T_,T_,F_,F_,F_] #[T_,T_,F_,T_,F_,F_] rfl rfl rfl rfl (by kernel_rfl) (by decide) (by decide) (fun K hK => ?_) (fun K hK => ?_)
  ·skip
   refine box_step ?hg (N := 8) ?hd (cs := #[.slice none 0 0, .int .i64 0, .int .i64 0]) (t := 24) ?hr ?_; (case hd => rfl); (case hg => rfl); (case hr => first | (go_simp; done) | (go_simp; rfl))
   intro gb343 hg w29 hbox hb
   have n0_ := A_ (Kd.V_below (Kd.V_elderB (by (with_reducible repeat (first | apply q3_ | apply q1_ | apply q2_)); exact HO0_0.out) gb343 (Nat.le_of_eq hg.symm)) hb)
   have n1_ := A_ (Kd.V_below (Kd.V_elderB (by (with_reducible repeat (first | apply q3_ | apply q1_ | apply q2_)); exact HO1_1.out) gb343 (Nat.le_of_eq hg.symm)) hb)
   have n2_ := A_ (r6_ (by (with_reducible repeat (first | refine b1_ ?_ _ | refine b3_ ?_ | refine b2_ ?_ _)); exact BK339.out) hb)
   have n3_ := A_ (r6_ (by (with_reducible repeat (first | refine b1_ ?_ _ | refine b3_ ?_ | refine b2_ ?_ _)); exact BK340.out) hb)
   have n4_ := A_ (below_step (by repeat (first | (with_reducible first | exact HB.out | apply b7_ | apply b5_ | apply b6_ | refine b4_ ?_ GE339.out | refine b4_ ?_ GE340.out) | exact HB.out)) hb)
   have n5_ := A_ (hbox)
   have n6_ := A_ ((by rw [hg]; exact (below_size (by repeat (first | (with_reducible first | exact HB.out | apply b7_ | apply b5_ | apply b6_ | refine b4_ ?_ GE339.out | refine b4_ ?_ GE340.out) | exact HB.out))) : w.heap.size ≤ gb343))
   have n7_ := A_ ((by rw [hg]; exact (below_size (by repeat (first | (with_reducible first | exact HB.out | apply b7_ | apply b5_ | apply b6_ | refine b4_ ?_ GE339.out | refine b4_ ?_ GE340.out) | exact HB.out))) : w.heap.size ≤ gb343))
   have n8_ := A_ ((by rw [hg]; exact Nat.ne_of_lt (blk_lt (by (with_reducible repeat (first | refine b1_ ?_ _ | refine b3_ ?_ | refine b2_ ?_ _)); exact BK339.out)) : gb339 ≠ gb343))
   have n9_ := A_ ((by rw [hg]; exact Nat.ne_of_gt (blk_lt (by (with_reducible repeat (first | refine b1_ ?_ _ | refine b3_ ?_ | refine b2_ ?_ _)); exact BK339.out)) : gb343 ≠ gb339))
   have n10_ := A_ ((by rw [hg]; exact Nat.ne_of_lt (blk_lt (by (with_reducible repeat (first | refine b1_ ?_ _ | refine b3_ ?_ | refine b2_ ?_ _)); exact BK340.out)) : gb340 ≠ gb343))
   have n11_ := A_ ((by rw [hg]; exact Nat.ne_of_gt (blk_lt (by (with_reducible repeat (first | refine b1_ ?_ _ | refine b3_ ?_ | refine b2_ ?_ _)); exact BK340.out)) : gb343 ≠ gb340))
   clear HO0_0
   clear HO1_1
   clear BK339
   clear BK340
   clear HB
   have HO0_0 := n0_
   have HO1_1 := n1_
   have BK339 := n2_
   have BK340 := n3_
   have HB := n4_
   have BK343 := n5_
   have GW343 := n6_
   have GE343 := n7_
   have NB339_343 := n8_
   have NB343_339 := n9_
   have NB340_343 := n10_
   have NB343_340 := n11_
   clear n0_ n1_ n2_ n3_ n4_ n5_ n6_ n7_ n8_ n9_ n10_ n11_
   clear hb hbox hg
   refine hK.out _ _ ⟨(b0_ BK339.out 0).trans rfl, (b0_ BK339.out 1).trans rfl, (b0_ BK339.out 2).trans rfl⟩ (fun hHeld => ?_)
   clear hK K
   refine norm_ (a' := ?_) ?_ ?_
   rotate_left
   ·show Act.put _ (some 8) _ = _
    simp only [Act.put, pb_, pc_, pd_, i64_w, i32_w]
    rfl
   refine one_ (i := 3) (N := some 9) #[T_,T_,T_,T_,F_,F_] rfl rfl (by kernel_rfl) (by decide) (fun K hK => ?_)
   refine box_step ?hg (N := 9) ?hd (cs := #[.slice none 0 0, .int .i64 0, .int .i64 0]) (t := 24) ?hr ?_; (case hd => rfl); (case hg => rfl); (case hr => first | (go_simp; done) | (go_simp; rfl))
   intro gb344 hg w30 hbox hb
   have n0_ := A_ (Kd.V_below (Kd.V_elderB (by (with_reducible repeat (first | apply q3_ | apply q1_ | apply q2_)); exact HO0_0.out) gb344 (Nat.le_of_eq hg.symm)) hb)
   have n1_ := A_ (Kd.V_below (Kd.V_elderB (by (with_reducible repeat (first | apply q3_ | apply q1_ | apply q2_)); exact HO1_1.out) gb344 (Nat.le_of_eq hg.symm)) hb)
   have n2_ := A_ (r6_ (by (with_reducible repeat (first | refine b1_ ?_ _ | refine b3_ ?_ | refine b2_ ?_ _)); exact BK339.out) hb)
   have n3_ := A_ (r6_ (by (with_reducible repeat (first | refine b1_ ?_ _ | refine b3_ ?_ | refine b2_ ?_ _)); exact BK340.out) hb)
   have n4_ := A_ (r6_ (by (with_reducible repeat (first | refine b1_ ?_ _ | refine b3_ ?_ | refine b2_ ?_ _)); exact BK343.out) hb)
   have n5_ := A_ (below_step (by repeat (first | (with_reducible first | exact HB.out | apply b7_ | apply b5_ | apply b6_ | refine b4_ ?_ GE339.out | refine b4_ ?_ GE340.out | refine b4_ ?_ GE343.out) | exact HB.out)) hb)
   have n6_ := A_ (hbox)
   have n7_ := A_ ((by rw [hg]; exact (below_size (by repeat (first | (with_reducible first | exact HB.out | apply b7_ | apply b5_ | apply b6_ | refine b4_ ?_ GE339.out | refine b4_ ?_ GE340.out | refine b4_ ?_ GE343.out) | exact HB.out))) : w.heap.size ≤ gb344))
   have n8_ := A_ ((by rw [hg]; exact (below_size (by repeat (first | (with_reducible first | exact HB.out | apply b7_ | apply b5_ | apply b6_ | refine b4_ ?_ GE339.out | refine b4_ ?_ GE340.out | refine b4_ ?_ GE343.out) | exact HB.out))) : w.heap.size ≤ gb344))
   have n9_ := A_ ((by rw [hg]; exact Nat.ne_of_lt (blk_lt (by (with_reducible repeat (first | refine b1_ ?_ _ | refine b3_ ?_ | refine b2_ ?_ _)); exact BK339.out)) : gb339 ≠ gb344))
   have n10_ := A_ ((by rw [hg]; exact Nat.ne_of_gt (blk_lt (by (with_reducible repeat (first | refine b1_ ?_ _ | refine b3_ ?_ | refine b2_ ?_ _)); exact BK339.out)) : gb344 ≠ gb339))
   have n11_ := A_ ((by rw [hg]; exact Nat.ne_of_lt (blk_lt (by (with_reducible repeat (first | refine b1_ ?_ _ | refine b3_ ?_ | refine b2_ ?_ _)); exact BK340.out)) : gb340 ≠ gb344))
   have n12_ := A_ ((by rw [hg]; exact Nat.ne_of_gt (blk_lt (by (with_reducible repeat (first | refine b1_ ?_ _ | refine b3_ ?_ | refine b2_ ?_ _)); exact BK340.out)) : gb344 ≠ gb340))
   have n13_ := A_ ((by rw [hg]; exact Nat.ne_of_lt (blk_lt (by (with_reducible repeat (first | refine b1_ ?_ _ | refine b3_ ?_ | refine b2_ ?_ _)); exact BK343.out)) : gb343 ≠ gb344))
   have n14_ := A_ ((by rw [hg]; exact Nat.ne_of_gt (blk_lt (by (with_reducible repeat (first | refine b1_ ?_ _ | refine b3_ ?_ | refine b2_ ?_ _)); exact BK343.out)) : gb344 ≠ gb343))
   clear HO0_0
   clear HO1_1
   clear BK339
   clear BK340
   clear BK343
   clear HB
   have HO0_0 := n0_
   have HO1_1 := n1_
   have BK339 := n2_
   have BK340 := n3_
   have BK343 := n4_
   have HB := n5_
   have BK344 := n6_
   have GW344 := n7_
   have GE344 := n8_
   have NB339_344 := n9_
   have NB344_339 := n10_
   have NB340_344 := n11_
   have NB344_340 := n12_
   have NB343_344 := n13_
   have NB344_343 := n14_
   clear n0_ n1_ n2_ n3_ n4_ n5_ n6_ n7_ n8_ n9_ n10_ n11_ n12_ n13_ n14_
   clear hb hbox hg
   refine hK.out _ _ ⟨(b0_ BK339.out 0).trans rfl, (b0_ BK339.out 1).trans rfl, (b0_ BK339.out 2).trans rfl⟩ (fun hHeld => ?_)
   clear hK K
   refine norm_ (a' := ?_) ?_ ?_
   rotate_left
   ·show Act.put _ (some 9) _ = _
    simp only [Act.put, pb_, pc_, pd_, i64_w, i32_w]
    rfl
   exact norm_ (by simp only [putAll, Act.put, pb_, pc_, pd_]) (hCont (gb343, gb344) _ ⟨hHeld, (by (with_reducible repeat (first | apply q3_ | apply q1_ | apply q2_)); exact Kd.V_mono HO0_0.out (fun _ hk => ⟨hk.1.1.1.1, ⟨hk.1.1.1.2, ⟨hk.1.1.2, ⟨hk.1.2, hk.2⟩⟩⟩⟩)), (by (with_reducible repeat (first | apply q3_ | apply q1_ | apply q2_)); exact Kd.V_mono HO1_1.out (fun _ hk => ⟨hk.1.1.1.1, ⟨hk.1.1.1.2, ⟨hk.1.1.2, ⟨hk.1.2, hk.2⟩⟩⟩⟩)), (by (with_reducible repeat (first | refine b1_ ?_ _ | refine b3_ ?_ | refine b2_ ?_ _)); exact BK339.out), (by (with_reducible repeat (first | refine b1_ ?_ _ | refine b3_ ?_ | refine b2_ ?_ _)); exact BK340.out), (by (with_reducible repeat (first | refine b1_ ?_ _ | refine b3_ ?_ | refine b2_ ?_ _)); exact BK343.out), (by (with_reducible repeat (first | refine b1_ ?_ _ | refine b3_ ?_ | refine b2_ ?_ _)); exact BK344.out), GW343.out, GE343.out, NB339_343.out, NB343_339.out, NB340_343.out, NB343_340.out, NB344_343.out, NB343_344.out, GW344.out, GE344.out, NB339_344.out, NB344_339.out, NB340_344.out, NB344_340.out, (by repeat (first | (with_reducible first | exact HB.out | apply b7_ | apply b5_ | apply b6_ | refine b4_ ?_ GE339.out | refine b4_ ?_ GE340.out | refine b4_ ?_ GE343.out | refine b4_ ?_ GE344.out) | exact HB.out))⟩)
  ·skip
   refine box_step ?hg (N := 9) ?hd (cs := #[.slice none 0 0, .int .i64 0, .int .i64 0]) (t := 24) ?hr ?_; (case hd => rfl); (case hg => rfl); (case hr => first | (go_simp; done) | (go_simp; rfl))
   intro gb344 hg w29 hbox hb
   have n0_ := A_ (Kd.V_below (Kd.V_elderB (by (with_reducible repeat (first | apply q3_ | apply q1_ | apply q2_)); exact HO0_0.out) gb344 (Nat.le_of_eq hg.symm)) hb)
   have n1_ := A_ (Kd.V_below (Kd.V_elderB (by (with_reducible repeat (first | apply q3_ | apply q1_ | apply q2_)); exact HO1_1.out) gb344 (Nat.le_of_eq hg.symm)) hb)
   have n2_ := A_ (r6_ (by (with_reducible repeat (first | refine b1_ ?_ _ | refine b3_ ?_ | refine b2_ ?_ _)); exact BK339.out) hb)
   have n3_ := A_ (r6_ (by (with_reducible repeat (first | refine b1_ ?_ _ | refine b3_ ?_ | refine b2_ ?_ _)); exact BK340.out) hb)
   have n4_ := A_ (below_step (by repeat (first | (with_reducible first | exact HB.out | apply b7_ | apply b5_ | apply b6_ | refine b4_ ?_ GE339.out | refine b4_ ?_ GE340.out) | exact HB.out)) hb)
   have n5_ := A_ (hbox)
   have n6_ := A_ ((by rw [hg]; exact (below_size (by repeat (first | (with_reducible first | exact HB.out | apply b7_ | apply b5_ | apply b6_ | refine b4_ ?_ GE339.out | refine b4_ ?_ GE340.out) | exact HB.out))) : w.heap.size ≤ gb344))
   have n7_ := A_ ((by rw [hg]; exact (below_size (by repeat (first | (with_reducible first | exact HB.out | apply b7_ | apply b5_ | apply b6_ | refine b4_ ?_ GE339.out | refine b4_ ?_ GE340.out) | exact HB.out))) : w.heap.size ≤ gb344))
   have n8_ := A_ ((by rw [hg]; exact Nat.ne_of_lt (blk_lt (by (with_reducible repeat (first | refine b1_ ?_ _ | refine b3_ ?_ | refine b2_ ?_ _)); exact BK339.out)) : gb339 ≠ gb344))
   have n9_ := A_ ((by rw [hg]; exact Nat.ne_of_gt (blk_lt (by (with_reducible repeat (first | refine b1_ ?_ _ | refine b3_ ?_ | refine b2_ ?_ _)); exact BK339.out)) : gb344 ≠ gb339))
   have n10_ := A_ ((by rw [hg]; exact Nat.ne_of_lt (blk_lt (by (with_reducible repeat (first | refine b1_ ?_ _ | refine b3_ ?_ | refine b2_ ?_ _)); exact BK340.out)) : gb340 ≠ gb344))
   have n11_ := A_ ((by rw [hg]; exact Nat.ne_of_gt (blk_lt (by (with_reducible repeat (first | refine b1_ ?_ _ | refine b3_ ?_ | refine b2_ ?_ _)); exact BK340.out)) : gb344 ≠ gb340))
   clear HO0_0
   clear HO1_1
   clear BK339
   clear BK340
   clear HB
   have HO0_0 := n0_
   have HO1_1 := n1_
   have BK339 := n2_
   have BK340 := n3_
   have HB := n4_
   have BK344 := n5_
   have GW344 := n6_
   have GE344 := n7_
   have NB339_344 := n8_
   have NB344_339 := n9_
   have NB340_344 := n10_
   have NB344_340 := n11_
   clear n0_ n1_ n2_ n3_ n4_ n5_ n6_ n7_ n8_ n9_ n10_ n11_
   clear hb hbox hg
   refine hK.out _ _ ⟨(b0_ BK339.out 0).trans rfl, (b0_ BK339.out 1).trans rfl, (b0_ BK339.out 2).trans rfl⟩ (fun hHeld => ?_)
   clear hK K
   refine norm_ (a' := ?_) ?_ ?_
   rotate_left
   ·show Act.put _ (some 9) _ = _
    simp only [Act.put, pb_, pc_, pd_, i64_w, i32_w]
    rfl
   refine one_ (i := 2) (N := some 8) #[T_,T_,T_,T_,F_,F_] rfl rfl (by kernel_rfl) (by decide) (fun K hK => ?_)
   refine box_step ?hg (N := 8) ?hd (cs := #[.slice none 0 0, .int .i64 0, .int .i64 0]) (t := 24) ?hr ?_; (case hd => rfl); (case hg => rfl); (case hr => first | (go_simp; done) | (go_simp; rfl))
   intro gb343 hg w30 hbox hb
   have n0_ := A_ (Kd.V_below (Kd.V_elderB (by (with_reducible repeat (first | apply q3_ | apply q1_ | apply q2_)); exact HO0_0.out) gb343 (Nat.le_of_eq hg.symm)) hb)
   have n1_ := A_ (Kd.V_below (Kd.V_elderB (by (with_reducible repeat (first | apply q3_ | apply q1_ | apply q2_)); exact HO1_1.out) gb343 (Nat.le_of_eq hg.symm)) hb)
   have n2_ := A_ (r6_ (by (with_reducible repeat (first | refine b1_ ?_ _ | refine b3_ ?_ | refine b2_ ?_ _)); exact BK339.out) hb)
   have n3_ := A_ (r6_ (by (with_reducible repeat (first | refine b1_ ?_ _ | refine b3_ ?_ | refine b2_ ?_ _)); exact BK340.out) hb)
   have n4_ := A_ (r6_ (by (with_reducible repeat (first | refine b1_ ?_ _ | refine b3_ ?_ | refine b2_ ?_ _)); exact BK344.out) hb)
   have n5_ := A_ (below_step (by repeat (first | (with_reducible first | exact HB.out | apply b7_ | apply b5_ | apply b6_ | refine b4_ ?_ GE339.out | refine b4_ ?_ GE340.out | refine b4_ ?_ GE344.out) | exact HB.out)) hb)
   have n6_ := A_ (hbox)
   have n7_ := A_ ((by rw [hg]; exact (below_size (by repeat (first | (with_reducible first | exact HB.out | apply b7_ | apply b5_ | apply b6_ | refine b4_ ?_ GE339.out | refine b4_ ?_ GE340.out | refine b4_ ?_ GE344.out) | exact HB.out))) : w.heap.size ≤ gb343))
   have n8_ := A_ ((by rw [hg]; exact (below_size (by repeat (first | (with_reducible first | exact HB.out | apply b7_ | apply b5_ | apply b6_ | refine b4_ ?_ GE339.out | refine b4_ ?_ GE340.out | refine b4_ ?_ GE344.out) | exact HB.out))) : w.heap.size ≤ gb343))
   have n9_ := A_ ((by rw [hg]; exact Nat.ne_of_lt (blk_lt (by (with_reducible repeat (first | refine b1_ ?_ _ | refine b3_ ?_ | refine b2_ ?_ _)); exact BK339.out)) : gb339 ≠ gb343))
   have n10_ := A_ ((by rw [hg]; exact Nat.ne_of_gt (blk_lt (by (with_reducible repeat (first | refine b1_ ?_ _ | refine b3_ ?_ | refine b2_ ?_ _)); exact BK339.out)) : gb343 ≠ gb339))
   have n11_ := A_ ((by rw [hg]; exact Nat.ne_of_lt (blk_lt (by (with_reducible repeat (first | refine b1_ ?_ _ | refine b3_ ?_ | refine b2_ ?_ _)); exact BK340.out)) : gb340 ≠ gb343))
   have n12_ := A_ ((by rw [hg]; exact Nat.ne_of_gt (blk_lt (by (with_reducible repeat (first | refine b1_ ?_ _ | refine b3_ ?_ | refine b2_ ?_ _)); exact BK340.out)) : gb343 ≠ gb340))
   have n13_ := A_ ((by rw [hg]; exact Nat.ne_of_lt (blk_lt (by (with_reducible repeat (first | refine b1_ ?_ _ | refine b3_ ?_ | refine b2_ ?_ _)); exact BK344.out)) : gb344 ≠ gb343))
   have n14_ := A_ ((by rw [hg]; exact Nat.ne_of_gt (blk_lt (by (with_reducible repeat (first | refine b1_ ?_ _ | refine b3_ ?_ | refine b2_ ?_ _)); exact BK344.out)) : gb343 ≠ gb344))
   clear HO0_0
   clear HO1_1
   clear BK339
   clear BK340
   clear BK344
   clear HB
   have HO0_0 := n0_
   have HO1_1 := n1_
   have BK339 := n2_
   have BK340 := n3_
   have BK344 := n4_
   have HB := n5_
   have BK343 := n6_
   have GW343 := n7_
   have GE343 := n8_
   have NB339_343 := n9_
   have NB343_339 := n10_
   have NB340_343 := n11_
   have NB343_340 := n12_
   have NB344_343 := n13_
   have NB343_344 := n14_
   clear n0_ n1_ n2_ n3_ n4_ n5_ n6_ n7_ n8_ n9_ n10_ n11_ n12_ n13_ n14_
   clear hb hbox hg
   refine hK.out _ _ ⟨(b0_ BK339.out 0).trans rfl, (b0_ BK339.out 1).trans rfl, (b0_ BK339.out 2).trans rfl⟩ (fun hHeld => ?_)
   clear hK K
   refine norm_ (a' := ?_) ?_ ?_
   rotate_left
   ·show Act.put _ (some 8) _ = _
    simp only [Act.put, pb_, pc_, pd_, i64_w, i32_w]
    rfl
   exact norm_ (by simp only [putAll, Act.put, pb_, pc_, pd_]) (hCont (gb343, gb344) _ ⟨hHeld, (by (with_reducible repeat (first | apply q3_ | apply q1_ | apply q2_)); exact Kd.V_mono HO0_0.out (fun _ hk => ⟨hk.1.1.1.1, ⟨hk.1.1.1.2, ⟨hk.1.1.2, ⟨hk.2, hk.1.2⟩⟩⟩⟩)), (by (with_reducible repeat (first | apply q3_ | apply q1_ | apply q2_)); exact Kd.V_mono HO1_1.out (fun _ hk => ⟨hk.1.1.1.1, ⟨hk.1.1.1.2, ⟨hk.1.1.2, ⟨hk.2, hk.1.2⟩⟩⟩⟩)), (by (with_reducible repeat (first | refine b1_ ?_ _ | refine b3_ ?_ | refine b2_ ?_ _)); exact BK339.out), (by (with_reducible repeat (first | refine b1_ ?_ _ | refine b3_ ?_ | refine b2_ ?_ _)); exact BK340.out), (by (with_reducible repeat (first | refine b1_ ?_ _ | refine b3_ ?_ | refine b2_ ?_ _)); exact BK343.out), (by (with_reducible repeat (first | refine b1_ ?_ _ | refine b3_ ?_ | refine b2_ ?_ _)); exact BK344.out), GW343.out, GE343.out, NB339_343.out, NB343_339.out, NB340_343.out, NB343_340.out, NB344_343.out, NB343_344.out, GW344.out, GE344.out, NB339_344.out, NB344_339.out, NB340_344.out, NB344_340.out, (by repeat (first | (with_reducible first | exact HB.out | apply b7_ | apply b5_ | apply b6_ | refine b4_ ?_ GE339.out | refine b4_ ?_ GE340.out | refine b4_ ?_ GE344.out | refine b4_ ?_ GE343.out) | exact HB.out))⟩)
 rintro ⟨gb343, gb344⟩ w31 ⟨hS_, h0_, h1_, h2_, h3_, h4_, h5_, h6_, h7_, h8_, h9_, h10_, h11_, h12_, h13_, h14_, h15_, h16_, h17_, h18_, h19_, h20_⟩
 have n0_ : Aside0 (Kd.V k27 27 w31 w.heap.size (fun k_ => ((P0_0_ k_ ∨ P1_1_ k_) ∨ w.heap.size ≤ k_) ∧ k_ ≠ gb339 ∧ k_ ≠ gb340 ∧ k_ ≠ gb343 ∧ k_ ≠ gb344) (.slice A0_0 l0_0.length c0_0) l0_0) := ⟨h0_⟩
 have n1_ : Aside0 (Kd.V k46 46 w31 w.heap.size (fun k_ => ((P0_0_ k_ ∨ P1_1_ k_) ∨ w.heap.size ≤ k_) ∧ k_ ≠ gb339 ∧ k_ ≠ gb340 ∧ k_ ≠ gb343 ∧ k_ ≠ gb344) (.slice A1_1 l1_1.length c1_1) l1_1) := ⟨h1_⟩
 have n2_ : Aside0 (w31.heap[gb339]? = some (.cells #[.slice A0_0 l0_0.length c0_0, .int .i64 a0_1, .int .i64 a0_2] 24 (0, 0))) := ⟨h2_⟩
 have n3_ : Aside0 (w31.heap[gb340]? = some (.cells #[.string a1_0, .slice A1_1 l1_1.length c1_1, .int .i64 a1_2, .int .i64 a1_3, .int .i64 a1_4, .int .i64 a1_5, .int .i64 a1_6, .int .i64 a1_7, .int .i64 a1_8] 27 (0, 0))) := ⟨h3_⟩
 have n4_ : Aside0 (w31.heap[gb343]? = some (.cells #[.slice none 0 0, .int .i64 0, .int .i64 0] 24 (0, 0))) := ⟨h4_⟩
 have n5_ : Aside0 (w31.heap[gb344]? = some (.cells #[.slice none 0 0, .int .i64 0, .int .i64 0] 24 (0, 0))) := ⟨h5_⟩
 have n6_ : Aside0 (w.heap.size ≤ gb343) := ⟨h6_⟩
 have n7_ : Aside0 (w.heap.size ≤ gb343) := ⟨h7_⟩
 have n8_ : Aside0 (gb339 ≠ gb343) := ⟨h8_⟩
 have n9_ : Aside0 (gb343 ≠ gb339) := ⟨h9_⟩
 have n10_ : Aside0 (gb340 ≠ gb343) := ⟨h10_⟩
 have n11_ : Aside0 (gb343 ≠ gb340) := ⟨h11_⟩
 have n12_ : Aside0 (gb344 ≠ gb343) := ⟨h12_⟩
 have n13_ : Aside0 (gb343 ≠ gb344) := ⟨h13_⟩
 have n14_ : Aside0 (w.heap.size ≤ gb344) := ⟨h14_⟩
 have n15_ : Aside0 (w.heap.size ≤ gb344) := ⟨h15_⟩
 have n16_ : Aside0 (gb339 ≠ gb344) := ⟨h16_⟩
 have n17_ : Aside0 (gb344 ≠ gb339) := ⟨h17_⟩
 have n18_ : Aside0 (gb340 ≠ gb344) := ⟨h18_⟩
 have n19_ : Aside0 (gb344 ≠ gb340) := ⟨h19_⟩
 have n20_ : Aside0 (Below w.heap.size w w31) := ⟨h20_⟩
 clear HO0_0
 clear HO1_1
 clear BK339
 clear BK340
 clear HB
 clear h0_ h1_ h2_ h3_ h4_ h5_ h6_ h7_ h8_ h9_ h10_ h11_ h12_ h13_ h14_ h15_ h16_ h17_ h18_ h19_ h20_
 have HO0_0 := n0_
 have HO1_1 := n1_
 have BK339 := n2_
 have BK340 := n3_
 have BK343 := n4_
 have BK344 := n5_
 have GW343 := n6_
 have GE343 := n7_
 have NB339_343 := n8_
 have NB343_339 := n9_
 have NB340_343 := n10_
 have NB343_340 := n11_
 have NB344_343 := n12_
 have NB343_344 := n13_
 have GW344 := n14_
 have GE344 := n15_
 have NB339_344 := n16_
 have NB344_339 := n17_
 have NB340_344 := n18_
 have NB344_340 := n19_
 have HB := n20_
 clear n0_ n1_ n2_ n3_ n4_ n5_ n6_ n7_ n8_ n9_ n10_ n11_ n12_ n13_ n14_ n15_ n16_ n17_ n18_ n19_ n20_
 have hHeld : w31.cell? ⟨gb339, 0, none⟩ = some (.slice A0_0 l0_0.length c0_0) ∧ w31.cell? ⟨gb339, 1, none⟩ = some (.int .i64 a0_1) ∧ w31.cell? ⟨gb339, 2, none⟩ = some (.int .i64 a0_2) := hS_
 refine norm_ (a' := ?_) ?_ ?_
 rotate_left
 ·simp only [putAll, Act.put, pb_, pc_, pd_]
  rfl
 refine one_ (i := 4) (N := none) #[T_,T_,T_,T_,T_,F_] rfl rfl (by kernel_rfl) (by decide) (fun K hK => ?_)
 have hs32 : w31.cell? ⟨gb343, 0, none⟩ = some (.slice none 0 0) := (b0_ BK343.out 0).trans rfl
 have hfs32 := blk_frozen BK343.out 0
 have hns32_0 := NB339_343.out
 have hns32_1 := NB340_343.out
 have hns32_3 := NB344_343.out
 have hms32_0 := NB343_339.out
 have hms32_1 := NB343_340.out
 have hms32_3 := NB343_344.out
 have hs33 : w31.cell? ⟨gb343, 1, none⟩ = some (.int .i64 0) := (b0_ BK343.out 1).trans rfl
 have hfs33 := blk_frozen BK343.out 1
 have hns33_0 := NB339_343.out
 have hns33_1 := NB340_343.out
 have hns33_3 := NB344_343.out
 have hms33_0 := NB343_339.out
 have hms33_1 := NB343_340.out
 have hms33_3 := NB343_344.out
 have hs34 : w31.cell? ⟨gb343, 2, none⟩ = some (.int .i64 0) := (b0_ BK343.out 2).trans rfl
 have hfs34 := blk_frozen BK343.out 2
 have hns34_0 := NB339_343.out
 have hns34_1 := NB340_343.out
 have hns34_3 := NB344_343.out
 have hms34_0 := NB343_339.out
 have hms34_1 := NB343_340.out
 have hms34_3 := NB343_344.out
 refine skip_ (w1 := ?_) (by rfl) rfl ?_ ?_
 rotate_left
 ·go_simp
  rfl
 refine hK.out _ _ ⟨((cell_far (p := ⟨gb343, _, none⟩) NB339_343.out _).trans (((cell_far (p := ⟨gb343, _, none⟩) NB339_343.out _).trans (((cell_far (p := ⟨gb343, _, none⟩) NB339_343.out _).trans (hHeld.1)))))), ((cell_far (p := ⟨gb343, _, none⟩) NB339_343.out _).trans (((cell_far (p := ⟨gb343, _, none⟩) NB339_343.out _).trans (((cell_far (p := ⟨gb343, _, none⟩) NB339_343.out _).trans (hHeld.2.1)))))), ((cell_far (p := ⟨gb343, _, none⟩) NB339_343.out _).trans (((cell_far (p := ⟨gb343, _, none⟩) NB339_343.out _).trans (((cell_far (p := ⟨gb343, _, none⟩) NB339_343.out _).trans (hHeld.2.2))))))⟩ (fun hHeld => ?_)
 clear hK K
 refine one_ (i := 5) (N := none) #[T_,T_,T_,T_,T_,T_] rfl rfl (by kernel_rfl) (by decide) (fun K hK => ?_)
 have hs35 : w31.cell? ⟨gb344, 0, none⟩ = some (.slice none 0 0) := (b0_ BK344.out 0).trans rfl
 have hfs35 := blk_frozen BK344.out 0
 have hns35_0 := NB339_344.out
 have hns35_1 := NB340_344.out
 have hns35_2 := NB343_344.out
 have hms35_0 := NB344_339.out
 have hms35_1 := NB344_340.out
 have hms35_2 := NB344_343.out
 have hs36 : w31.cell? ⟨gb344, 1, none⟩ = some (.int .i64 0) := (b0_ BK344.out 1).trans rfl
 have hfs36 := blk_frozen BK344.out 1
 have hns36_0 := NB339_344.out
 have hns36_1 := NB340_344.out
 have hns36_2 := NB343_344.out
 have hms36_0 := NB344_339.out
 have hms36_1 := NB344_340.out
 have hms36_2 := NB344_343.out
 have hs37 : w31.cell? ⟨gb344, 2, none⟩ = some (.int .i64 0) := (b0_ BK344.out 2).trans rfl
 have hfs37 := blk_frozen BK344.out 2
 have hns37_0 := NB339_344.out
 have hns37_1 := NB340_344.out
 have hns37_2 := NB343_344.out
 have hms37_0 := NB344_339.out
 have hms37_1 := NB344_340.out
 have hms37_2 := NB344_343.out
 refine skip_ (w1 := ?_) (by rfl) rfl ?_ ?_
 rotate_left
 ·go_simp
  rfl
 refine hK.out _ _ ⟨((cell_far (p := ⟨gb344, _, none⟩) NB339_344.out _).trans (((cell_far (p := ⟨gb344, _, none⟩) NB339_344.out _).trans (((cell_far (p := ⟨gb344, _, none⟩) NB339_344.out _).trans (hHeld.1)))))), ((cell_far (p := ⟨gb344, _, none⟩) NB339_344.out _).trans (((cell_far (p := ⟨gb344, _, none⟩) NB339_344.out _).trans (((cell_far (p := ⟨gb344, _, none⟩) NB339_344.out _).trans (hHeld.2.1)))))), ((cell_far (p := ⟨gb344, _, none⟩) NB339_344.out _).trans (((cell_far (p := ⟨gb344, _, none⟩) NB339_344.out _).trans (((cell_far (p := ⟨gb344, _, none⟩) NB339_344.out _).trans (hHeld.2.2))))))⟩ (fun hHeld => ?_)
 clear hK K
 refine done_ (by kernel_rfl) ?_
 try go_wp2
 have n0_ : Aside0 (Kd.V k27 27 ((((((w31.setCell ⟨gb343, 0, none⟩ (.slice A0_0 l0_0.length c0_0)).setCell ⟨gb343, 1, none⟩ (.int .i64 a0_1)).setCell ⟨gb343, 2, none⟩ (.int .i64 a0_2)).setCell ⟨gb344, 0, none⟩ (.slice A0_0 l0_0.length c0_0)).setCell ⟨gb344, 1, none⟩ (.int .i64 a0_1)).setCell ⟨gb344, 2, none⟩ (.int .i64 a0_2)) w.heap.size (fun k_ => ((P0_0_ k_ ∨ P1_1_ k_) ∨ w.heap.size ≤ k_) ∧ k_ ≠ gb339 ∧ k_ ≠ gb340 ∧ k_ ≠ gb343 ∧ k_ ≠ gb344) (.slice A0_0 l0_0.length c0_0) l0_0) := ⟨by (with_reducible repeat (first | apply q3_ | apply q1_ | apply q2_)); exact Kd.V_mono (Kd.V_far (p := ⟨gb344, 2, none⟩) (Kd.V_far (p := ⟨gb344, 1, none⟩) (Kd.V_far (p := ⟨gb344, 0, none⟩) (Kd.V_far (p := ⟨gb343, 2, none⟩) (Kd.V_far (p := ⟨gb343, 1, none⟩) (Kd.V_far (p := ⟨gb343, 0, none⟩) (Kd.V_mono (Kd.V_mono HO0_0.out (fun k_ hk => (⟨hk, hk.2.2.2.1⟩ : _ ∧ k_ ≠ gb343))) (fun k_ hk => (⟨hk, hk.1.2.2.2.2⟩ : _ ∧ k_ ≠ gb344))) (fun _ hk => hk.1.2) (.slice A0_0 l0_0.length c0_0)) (fun _ hk => hk.1.2) (.int .i64 a0_1)) (fun _ hk => hk.1.2) (.int .i64 a0_2)) (fun _ hk => hk.2) (.slice A0_0 l0_0.length c0_0)) (fun _ hk => hk.2) (.int .i64 a0_1)) (fun _ hk => hk.2) (.int .i64 a0_2)) (fun _ hk => ⟨hk.1.1.1, ⟨hk.1.1.2.1, ⟨hk.1.1.2.2.1, ⟨hk.1.1.2.2.2.1, hk.1.1.2.2.2.2⟩⟩⟩⟩)⟩
 have n1_ : Aside0 (Kd.V k46 46 ((((((w31.setCell ⟨gb343, 0, none⟩ (.slice A0_0 l0_0.length c0_0)).setCell ⟨gb343, 1, none⟩ (.int .i64 a0_1)).setCell ⟨gb343, 2, none⟩ (.int .i64 a0_2)).setCell ⟨gb344, 0, none⟩ (.slice A0_0 l0_0.length c0_0)).setCell ⟨gb344, 1, none⟩ (.int .i64 a0_1)).setCell ⟨gb344, 2, none⟩ (.int .i64 a0_2)) w.heap.size (fun k_ => ((P0_0_ k_ ∨ P1_1_ k_) ∨ w.heap.size ≤ k_) ∧ k_ ≠ gb339 ∧ k_ ≠ gb340 ∧ k_ ≠ gb343 ∧ k_ ≠ gb344) (.slice A1_1 l1_1.length c1_1) l1_1) := ⟨by (with_reducible repeat (first | apply q3_ | apply q1_ | apply q2_)); exact Kd.V_mono (Kd.V_far (p := ⟨gb344, 2, none⟩) (Kd.V_far (p := ⟨gb344, 1, none⟩) (Kd.V_far (p := ⟨gb344, 0, none⟩) (Kd.V_far (p := ⟨gb343, 2, none⟩) (Kd.V_far (p := ⟨gb343, 1, none⟩) (Kd.V_far (p := ⟨gb343, 0, none⟩) (Kd.V_mono (Kd.V_mono HO1_1.out (fun k_ hk => (⟨hk, hk.2.2.2.1⟩ : _ ∧ k_ ≠ gb343))) (fun k_ hk => (⟨hk, hk.1.2.2.2.2⟩ : _ ∧ k_ ≠ gb344))) (fun _ hk => hk.1.2) (.slice A0_0 l0_0.length c0_0)) (fun _ hk => hk.1.2) (.int .i64 a0_1)) (fun _ hk => hk.1.2) (.int .i64 a0_2)) (fun _ hk => hk.2) (.slice A0_0 l0_0.length c0_0)) (fun _ hk => hk.2) (.int .i64 a0_1)) (fun _ hk => hk.2) (.int .i64 a0_2)) (fun _ hk => ⟨hk.1.1.1, ⟨hk.1.1.2.1, ⟨hk.1.1.2.2.1, ⟨hk.1.1.2.2.2.1, hk.1.1.2.2.2.2⟩⟩⟩⟩)⟩
 have n2_ : Aside0 (((((((w31.setCell ⟨gb343, 0, none⟩ (.slice A0_0 l0_0.length c0_0)).setCell ⟨gb343, 1, none⟩ (.int .i64 a0_1)).setCell ⟨gb343, 2, none⟩ (.int .i64 a0_2)).setCell ⟨gb344, 0, none⟩ (.slice A0_0 l0_0.length c0_0)).setCell ⟨gb344, 1, none⟩ (.int .i64 a0_1)).setCell ⟨gb344, 2, none⟩ (.int .i64 a0_2)).heap[gb339]? = some (.cells #[.slice A0_0 l0_0.length c0_0, .int .i64 a0_1, .int .i64 a0_2] 24 (0, 0))) := ⟨by (with_reducible repeat (first | refine b1_ ?_ _ | refine b3_ ?_ | refine b2_ ?_ _)); refine blk_far ?_ NB339_344.out _; (with_reducible repeat (first | refine b1_ ?_ _ | refine b3_ ?_ | refine b2_ ?_ _)); refine blk_far ?_ NB339_344.out _; (with_reducible repeat (first | refine b1_ ?_ _ | refine b3_ ?_ | refine b2_ ?_ _)); refine blk_far ?_ NB339_344.out _; (with_reducible repeat (first | refine b1_ ?_ _ | refine b3_ ?_ | refine b2_ ?_ _)); refine blk_far ?_ NB339_343.out _; (with_reducible repeat (first | refine b1_ ?_ _ | refine b3_ ?_ | refine b2_ ?_ _)); refine blk_far ?_ NB339_343.out _; (with_reducible repeat (first | refine b1_ ?_ _ | refine b3_ ?_ | refine b2_ ?_ _)); refine blk_far ?_ NB339_343.out _; (with_reducible repeat (first | refine b1_ ?_ _ | refine b3_ ?_ | refine b2_ ?_ _)); exact BK339.out⟩
 have n3_ : Aside0 (((((((w31.setCell ⟨gb343, 0, none⟩ (.slice A0_0 l0_0.length c0_0)).setCell ⟨gb343, 1, none⟩ (.int .i64 a0_1)).setCell ⟨gb343, 2, none⟩ (.int .i64 a0_2)).setCell ⟨gb344, 0, none⟩ (.slice A0_0 l0_0.length c0_0)).setCell ⟨gb344, 1, none⟩ (.int .i64 a0_1)).setCell ⟨gb344, 2, none⟩ (.int .i64 a0_2)).heap[gb340]? = some (.cells #[.string a1_0, .slice A1_1 l1_1.length c1_1, .int .i64 a1_2, .int .i64 a1_3, .int .i64 a1_4, .int .i64 a1_5, .int .i64 a1_6, .int .i64 a1_7, .int .i64 a1_8] 27 (0, 0))) := ⟨by (with_reducible repeat (first | refine b1_ ?_ _ | refine b3_ ?_ | refine b2_ ?_ _)); refine blk_far ?_ NB340_344.out _; (with_reducible repeat (first | refine b1_ ?_ _ | refine b3_ ?_ | refine b2_ ?_ _)); refine blk_far ?_ NB340_344.out _; (with_reducible repeat (first | refine b1_ ?_ _ | refine b3_ ?_ | refine b2_ ?_ _)); refine blk_far ?_ NB340_344.out _; (with_reducible repeat (first | refine b1_ ?_ _ | refine b3_ ?_ | refine b2_ ?_ _)); refine blk_far ?_ NB340_343.out _; (with_reducible repeat (first | refine b1_ ?_ _ | refine b3_ ?_ | refine b2_ ?_ _)); refine blk_far ?_ NB340_343.out _; (with_reducible repeat (first | refine b1_ ?_ _ | refine b3_ ?_ | refine b2_ ?_ _)); refine blk_far ?_ NB340_343.out _; (with_reducible repeat (first | refine b1_ ?_ _ | refine b3_ ?_ | refine b2_ ?_ _)); exact BK340.out⟩
 have n4_ : Aside0 (((((((w31.setCell ⟨gb343, 0, none⟩ (.slice A0_0 l0_0.length c0_0)).setCell ⟨gb343, 1, none⟩ (.int .i64 a0_1)).setCell ⟨gb343, 2, none⟩ (.int .i64 a0_2)).setCell ⟨gb344, 0, none⟩ (.slice A0_0 l0_0.length c0_0)).setCell ⟨gb344, 1, none⟩ (.int .i64 a0_1)).setCell ⟨gb344, 2, none⟩ (.int .i64 a0_2)).heap[gb343]? = some (.cells #[.slice A0_0 l0_0.length c0_0, .int .i64 a0_1, .int .i64 a0_2] 24 (0, 0))) := ⟨by (with_reducible repeat (first | refine b1_ ?_ _ | refine b3_ ?_ | refine b2_ ?_ _)); refine blk_far ?_ NB343_344.out _; (with_reducible repeat (first | refine b1_ ?_ _ | refine b3_ ?_ | refine b2_ ?_ _)); refine blk_far ?_ NB343_344.out _; (with_reducible repeat (first | refine b1_ ?_ _ | refine b3_ ?_ | refine b2_ ?_ _)); refine blk_far ?_ NB343_344.out _; (with_reducible repeat (first | refine b1_ ?_ _ | refine b3_ ?_ | refine b2_ ?_ _)); refine blk_put (cs := #[.slice A0_0 l0_0.length c0_0, .int .i64 a0_1, .int .i64 0]) ?_ 2 _ rfl; (with_reducible repeat (first | refine b1_ ?_ _ | refine b3_ ?_ | refine b2_ ?_ _)); refine blk_put (cs := #[.slice A0_0 l0_0.length c0_0, .int .i64 0, .int .i64 0]) ?_ 1 _ rfl; (with_reducible repeat (first | refine b1_ ?_ _ | refine b3_ ?_ | refine b2_ ?_ _)); refine blk_put (cs := #[.slice none 0 0, .int .i64 0, .int .i64 0]) ?_ 0 _ rfl; (with_reducible repeat (first | refine b1_ ?_ _ | refine b3_ ?_ | refine b2_ ?_ _)); exact BK343.out⟩
 have n5_ : Aside0 (((((((w31.setCell ⟨gb343, 0, none⟩ (.slice A0_0 l0_0.length c0_0)).setCell ⟨gb343, 1, none⟩ (.int .i64 a0_1)).setCell ⟨gb343, 2, none⟩ (.int .i64 a0_2)).setCell ⟨gb344, 0, none⟩ (.slice A0_0 l0_0.length c0_0)).setCell ⟨gb344, 1, none⟩ (.int .i64 a0_1)).setCell ⟨gb344, 2, none⟩ (.int .i64 a0_2)).heap[gb344]? = some (.cells #[.slice A0_0 l0_0.length c0_0, .int .i64 a0_1, .int .i64 a0_2] 24 (0, 0))) := ⟨by (with_reducible repeat (first | refine b1_ ?_ _ | refine b3_ ?_ | refine b2_ ?_ _)); refine blk_put (cs := #[.slice A0_0 l0_0.length c0_0, .int .i64 a0_1, .int .i64 0]) ?_ 2 _ rfl; (with_reducible repeat (first | refine b1_ ?_ _ | refine b3_ ?_ | refine b2_ ?_ _)); refine blk_put (cs := #[.slice A0_0 l0_0.length c0_0, .int .i64 0, .int .i64 0]) ?_ 1 _ rfl; (with_reducible repeat (first | refine b1_ ?_ _ | refine b3_ ?_ | refine b2_ ?_ _)); refine blk_put (cs := #[.slice none 0 0, .int .i64 0, .int .i64 0]) ?_ 0 _ rfl; (with_reducible repeat (first | refine b1_ ?_ _ | refine b3_ ?_ | refine b2_ ?_ _)); refine blk_far ?_ NB344_343.out _; (with_reducible repeat (first | refine b1_ ?_ _ | refine b3_ ?_ | refine b2_ ?_ _)); refine blk_far ?_ NB344_343.out _; (with_reducible repeat (first | refine b1_ ?_ _ | refine b3_ ?_ | refine b2_ ?_ _)); refine blk_far ?_ NB344_343.out _; (with_reducible repeat (first | refine b1_ ?_ _ | refine b3_ ?_ | refine b2_ ?_ _)); exact BK344.out⟩
 have n6_ : Aside0 (Below w.heap.size w ((((((w31.setCell ⟨gb343, 0, none⟩ (.slice A0_0 l0_0.length c0_0)).setCell ⟨gb343, 1, none⟩ (.int .i64 a0_1)).setCell ⟨gb343, 2, none⟩ (.int .i64 a0_2)).setCell ⟨gb344, 0, none⟩ (.slice A0_0 l0_0.length c0_0)).setCell ⟨gb344, 1, none⟩ (.int .i64 a0_1)).setCell ⟨gb344, 2, none⟩ (.int .i64 a0_2))) := ⟨by repeat (first | (with_reducible first | exact HB.out | apply b7_ | apply b5_ | apply b6_ | refine b4_ ?_ GE339.out | refine b4_ ?_ GE340.out | refine b4_ ?_ GE343.out | refine b4_ ?_ GE344.out) | exact HB.out)⟩
 (try clear HO0_0)
 (try clear HO1_1)
 (try clear BK339)
 (try clear BK340)
 (try clear BK343)
 (try clear BK344)
 (try clear HB)
 generalize ((((((w31.setCell ⟨gb343, 0, none⟩ (.slice A0_0 l0_0.length c0_0)).setCell ⟨gb343, 1, none⟩ (.int .i64 a0_1)).setCell ⟨gb343, 2, none⟩ (.int .i64 a0_2)).setCell ⟨gb344, 0, none⟩ (.slice A0_0 l0_0.length c0_0)).setCell ⟨gb344, 1, none⟩ (.int .i64 a0_1)).setCell ⟨gb344, 2, none⟩ (.int .i64 a0_2)) = w38 at n0_ n1_ n2_ n3_ n4_ n5_ n6_ ⊢
 have HO0_0 := n0_
 have HO1_1 := n1_
 have BK339 := n2_
 have BK340 := n3_
 have BK343 := n4_
 have BK344 := n5_
 have HB := n6_
 clear n0_ n1_ n2_ n3_ n4_ n5_ n6_
 have n0_ := A_ (q2_ HO0_0.out)
 have n1_ := A_ (q2_ HO1_1.out)
 have n2_ := A_ (b3_ BK339.out)
 have n3_ := A_ (b3_ BK340.out)
 have n4_ := A_ (b3_ BK343.out)
 have n5_ := A_ (b3_ BK344.out)
 have n6_ := A_ (b6_ HB.out)
 clear HO0_0
 clear HO1_1
 clear BK339
 clear BK340
 clear BK343
 clear BK344
 clear HB
 have HO0_0 := n0_
 have HO1_1 := n1_
 have BK339 := n2_
 have BK340 := n3_
 have BK343 := n4_
 have BK344 := n5_
 have HB := n6_
 clear n0_ n1_ n2_ n3_ n4_ n5_ n6_
 have q40 : ((ji7) : Int) ≤ ((l0_0.length : Int) : Int) := of_decide_eq_true (by first | (with_reducible assumption) | assumption)
 obtain ⟨i040, hi040, _, hsz40, _⟩ := info_parts info27
 have hroom40 : l0_0.length ≤ c0_0 := (Kd.V_reads' HO0_0.out).2.1
 have hC40 : Kd.F k27 _ _ A0_0 l0_0.length l0_0 := (Kd.V_at (base := w.heap.size) HO0_0.out).2.2
 have hcut40 := cut_to (P := Tryz.prog) 22 27 .i64 Tryz.underlying22 hi040 A0_0 l0_0.length c0_0 (ji7) (of_decide_eq_true (by first | (with_reducible assumption) | assumption)) q40 hroom40
 have hr40 := Kd.F_take (m := ((ji7) : Int).toNat) hC40 (by omega)
 have hy40 : y345.length = ((ji7) : Int).toNat := (by rw [Ny345.out, List.length_take]; omega)
 rw [← Ny345.out] at hr40
 rw [← hy40] at hcut40
 have HO349 := A_ (show Kd.V k27 27 _ w.heap.size _ (.slice A0_0 y345.length c0_0) y345 from Kd.V_mk (by omega) hr40)
 have HC349 := A_ (show y345.length ≤ c0_0 from by omega)
 clear hr40 hC40 hroom40 hi040 hsz40
 have KY40 := A_ hy40
 clear hy40
 replace q40 := eq_true q40
 have q41 : ((ji11) : Int) ≤ ((l0_0.length : Int) : Int) := of_decide_eq_true (by first | (with_reducible assumption) | assumption)
 obtain ⟨i041, hi041, _, hsz41, _⟩ := info_parts info27
 have hroom41 : l0_0.length ≤ c0_0 := (Kd.V_reads' HO0_0.out).2.1
 have hC41 : Kd.F k27 _ _ A0_0 l0_0.length l0_0 := (Kd.V_at (base := w.heap.size) HO0_0.out).2.2
 have q041 : (0 : Int) ≤ ((ji11) : Int) := of_decide_eq_true (by first | (with_reducible assumption) | assumption)
 have hcut41 := cut_from (P := Tryz.prog) 22 27 .i64 Tryz.underlying22 hi041 9 hsz41 A0_0 l0_0.length c0_0 (ji11) q041 q41
 have hr41 := Kd.F_cut (m := ((ji11) : Int).toNat) (c := c0_0) hC41 (by omega) hroom41
 obtain ⟨A41, hA41⟩ : ∃ Az_ : Option Addr, Az_ = (if c0_0 = ((ji11) : Int).toNat then A0_0 else (A0_0 : Option Addr).map (·.add (((ji11) : Int).toNat * 9))) := ⟨_, rfl⟩
 obtain ⟨c41, hc41⟩ : ∃ c1, c1 = c0_0 - ((ji11) : Int).toNat := ⟨_, rfl⟩
 have hy41 : y353.length = l0_0.length - ((ji11) : Int).toNat := (by rw [Ny353.out, List.length_drop] <;> omega)
 rw [show (l0_0).drop ((ji11) : Int).toNat = y353 from Ny353.out.symm] at hr41
 replace hr41 : Kd.F k27 _ _ A41 y353.length y353 := (by rw [hA41]; exact hr41)
 rw [← hy41, ← hA41, ← hc41] at hcut41
 have HO357 := A_ (show Kd.V k27 27 _ w.heap.size _ (.slice A41 y353.length c41) y353 from Kd.V_mk (by rw [hy41, hc41]; exact Nat.sub_le_sub_right hroom41 _) hr41)
 have HC357 := A_ (show y353.length ≤ c41 from by rw [hy41, hc41]; exact Nat.sub_le_sub_right hroom41 _)
 clear hr41 hC41 hroom41 hi041 hsz41 hc41
 have KY41 := A_ hy41
 have KA41 := A_ hA41
 clear hy41 hA41
 replace q41 := eq_true q41
 refine start_ (n := 13) (S := fun w' => w'.cell? ⟨gb339, 0, none⟩ = some (.slice A0_0 l0_0.length c0_0) ∧ w'.cell? ⟨gb339, 1, none⟩ = some (.int .i64 a0_1) ∧ w'.cell? ⟨gb339, 2, none⟩ = some (.int .i64 a0_2)) (ds := []) #[F_,F_,F_,F_,F_,F_,F_,F_,F_,F_,F_,F_,F_] (by kernel_rfl) rfl rfl ⟨(b0_ BK339.out 0).trans rfl, (b0_ BK339.out 1).trans rfl, (b0_ BK339.out 2).trans rfl⟩ (fun hHeld => ?_); refine with_tabW tollhouselaw15_AuthLess.tab5 tollhouselaw15_AuthLess.bits5 (fun HT_ HW_ => ?_)
 generalize w38.drew = w39 at HO0_0 HO1_1 BK339 BK340 BK343 BK344 HB HO349 HO357 hHeld ⊢
 refine pure_ (i := 0) (N := some 24) (v := ?_) (a' := ?_) #[T_,F_,F_,F_,F_,F_,F_,F_,F_,F_,F_,F_,F_] rfl rfl (any_of HT_.out (by kernel_rfl)) (fun _ _ _ h => h) (Or.inl ⟨by rfl, ?_⟩) ?_ ?_
 rotate_left
 ·intro w'
  go_simp
  with_reducible rfl
 rotate_left
 ·simp only [Act.put, pb_, pc_, pd_, i64_w, i32_w]
  rfl
 refine pure_ (i := 2) (N := some 26) (v := ?_) (a' := ?_) #[T_,F_,T_,F_,F_,F_,F_,F_,F_,F_,F_,F_,F_] rfl rfl (any_of HT_.out (by kernel_rfl)) (fun _ _ _ h => h) (Or.inl ⟨by rfl, ?_⟩) ?_ ?_
 rotate_left
 ·intro w'
  go_simp
  with_reducible rfl
 rotate_left
 ·simp only [Act.put, pb_, pc_, pd_, i64_w, i32_w]
  rfl
 refine pure_ (i := 5) (N := some 29) (v := ?_) (a' := ?_) #[T_,F_,T_,F_,F_,T_,F_,F_,F_,F_,F_,F_,F_] rfl rfl (any_of HT_.out (by kernel_rfl)) (fun _ _ _ h => h) (Or.inl ⟨by rfl, ?_⟩) ?_ ?_
 rotate_left
 ·intro w'
  go_simp
  with_reducible rfl
 rotate_left
 ·simp only [Act.put, pb_, pc_, pd_, i64_w, i32_w]
  rfl
 refine pure_ (i := 7) (N := some 31) (v := ?_) (a' := ?_) #[T_,F_,T_,F_,F_,T_,F_,T_,F_,F_,F_,F_,F_] rfl rfl (any_of HT_.out (by kernel_rfl)) (fun _ _ _ h => h) (Or.inl ⟨by rfl, ?_⟩) ?_ ?_
 rotate_left
 ·intro w'
  go_simp
  with_reducible rfl
 rotate_left
 ·simp only [Act.put, pb_, pc_, pd_, i64_w, i32_w]
  rfl
 refine pure_ (i := 8) (N := some 32) (v := ?_) (a' := ?_) #[T_,F_,T_,F_,F_,T_,F_,T_,T_,F_,F_,F_,F_] rfl rfl (any_of HT_.out (by kernel_rfl)) (fun _ _ _ h => h) (Or.inl ⟨by rfl, ?_⟩) ?_ ?_
 rotate_left
 ·intro w'
  go_simp
  with_reducible rfl
 rotate_left
 ·simp only [Act.put, pb_, pc_, pd_, i64_w, i32_w]
  rfl
 refine take_ (i := 1) (N := some 25) (v := ?_) (a' := ?_) #[T_,T_,T_,F_,F_,T_,F_,T_,T_,F_,F_,F_,F_] rfl rfl (take_ofW HT_.out HW_.out (by kernel_rfl)) (fun _ _ _ h => h) (Or.inl ⟨by rfl, ?_⟩) hHeld ?_ ?_
 rotate_left
 ·rintro w' ⟨s0, s1, s2⟩
  go_simp
  with_reducible rfl
 rotate_left
 ·simp only [Act.put, pb_, pc_, pd_, i64_w, i32_w]
  rfl
 refine pure_ (i := 3) (N := some 27) (v := ?_) (a' := ?_) #[T_,T_,T_,T_,F_,T_,F_,T_,T_,F_,F_,F_,F_] rfl rfl (any_of HT_.out (by kernel_rfl)) (fun _ _ _ h => h) (Or.inl ⟨by rfl, ?_⟩) ?_ ?_
 rotate_left
 ·intro w'
  go_simp
  with_reducible rfl
 rotate_left
 ·simp only [Act.put, pb_, pc_, pd_, i64_w, i32_w]
  rfl
 refine take_ (i := 6) (N := some 30) (v := ?_) (a' := ?_) #[T_,T_,T_,T_,F_,T_,T_,T_,T_,F_,F_,F_,F_] rfl rfl (take_ofW HT_.out HW_.out (by kernel_rfl)) (fun _ _ _ h => h) (Or.inl ⟨by rfl, ?_⟩) hHeld ?_ ?_
 rotate_left
 ·rintro w' ⟨s0, s1, s2⟩
  go_simp
  with_reducible rfl
 rotate_left
 ·simp only [Act.put, pb_, pc_, pd_, i64_w, i32_w]
  rfl
 refine pure_ (i := 9) (N := some 33) (v := ?_) (a' := ?_) #[T_,T_,T_,T_,F_,T_,T_,T_,T_,T_,F_,F_,F_] rfl rfl (any_of HT_.out (by kernel_rfl)) (fun _ _ _ h => h) (Or.inl ⟨by rfl, ?_⟩) ?_ ?_
 rotate_left
 ·intro w'
  go_simp
  with_reducible rfl
 rotate_left
 ·simp only [Act.put, pb_, pc_, pd_, i64_w, i32_w]
  rfl
 refine one_ (i := 4) (N := some 28) #[T_,T_,T_,T_,T_,T_,T_,T_,T_,T_,F_,F_,F_] rfl rfl (one_of HT_.out (by kernel_rfl)) (by decide) (fun K hK => ?_)
 refine Kd.N_append_rows_step k27 (w0 := w) w.heap.size rfl (.const (.slice none 0 0)) (.tmp 27) 22 27 (.agg #[(.string ⟨#[]⟩), (.slice none 0 0), (.int .i64 0), (.int .i64 0), (.int .i64 0), (.int .i64 0), (.int .i64 0), (.int .i64 0), (.int .i64 0)]) 96 rfl Tryz.underlying22 info27 rfl (by decide) (by omega) (.slice none 0 0) ([] : List (S27)) y345 _ _ _ (fun k_ => ((P0_0_ k_ ∨ P1_1_ k_) ∨ w.heap.size ≤ k_) ∧ k_ ≠ gb339 ∧ k_ ≠ gb340 ∧ k_ ≠ gb343 ∧ k_ ≠ gb344) (fun k_ => ((fun k_ => ((P0_0_ k_ ∨ P1_1_ k_) ∨ w.heap.size ≤ k_) ∧ k_ ≠ gb339 ∧ k_ ≠ gb340 ∧ k_ ≠ gb343 ∧ k_ ≠ gb344)) k_ ∧ some k_ ≠ (.slice none 0 0 : Value).ownBlock) rfl rfl ?aO ?aR (fun _ hk => hk) ?aF ?aB ?aS ?aL ?_
 (case aR => exact (by skip; exact Kd.V_F (Kd.V_mono (ok' := (fun k_ => ((fun k_ => ((P0_0_ k_ ∨ P1_1_ k_) ∨ w.heap.size ≤ k_) ∧ k_ ≠ gb339 ∧ k_ ≠ gb340 ∧ k_ ≠ gb343 ∧ k_ ≠ gb344)) k_ ∧ some k_ ≠ (.slice none 0 0 : Value).ownBlock)) (HO349.out) (fun k_ hk => ⟨⟨hk.1, ⟨hk.2.1, ⟨hk.2.2.1, ⟨hk.2.2.2.1, hk.2.2.2.2⟩⟩⟩⟩, (by simp [Value.ownBlock])⟩))))
 (case aB => exact (by repeat (first | (with_reducible first | exact HB.out | apply b7_ | apply b5_ | apply b6_ | refine b4_ ?_ GE339.out | refine b4_ ?_ GE340.out | refine b4_ ?_ GE343.out | refine b4_ ?_ GE344.out) | exact HB.out)))
 (case aF => exact (fun k_ hk => ⟨(.inr (Nat.le_trans (below_size (by repeat (first | (with_reducible first | exact HB.out | apply b7_ | apply b5_ | apply b6_ | refine b4_ ?_ GE339.out | refine b4_ ?_ GE340.out | refine b4_ ?_ GE343.out | refine b4_ ?_ GE344.out) | exact HB.out))) hk)), Kd.freshB (g := gb339) (o := .cells #[.slice A0_0 l0_0.length c0_0, .int .i64 a0_1, .int .i64 a0_2] 24 (0, 0)) (by (with_reducible repeat (first | refine b1_ ?_ _ | refine b3_ ?_ | refine b2_ ?_ _)); exact BK339.out) k_ hk, Kd.freshB (g := gb340) (o := .cells #[.string a1_0, .slice A1_1 l1_1.length c1_1, .int .i64 a1_2, .int .i64 a1_3, .int .i64 a1_4, .int .i64 a1_5, .int .i64 a1_6, .int .i64 a1_7, .int .i64 a1_8] 27 (0, 0)) (by (with_reducible repeat (first | refine b1_ ?_ _ | refine b3_ ?_ | refine b2_ ?_ _)); exact BK340.out) k_ hk, Kd.freshB (g := gb343) (o := .cells #[.slice A0_0 l0_0.length c0_0, .int .i64 a0_1, .int .i64 a0_2] 24 (0, 0)) (by (with_reducible repeat (first | refine b1_ ?_ _ | refine b3_ ?_ | refine b2_ ?_ _)); exact BK343.out) k_ hk, Kd.freshB (g := gb344) (o := .cells #[.slice A0_0 l0_0.length c0_0, .int .i64 a0_1, .int .i64 a0_2] 24 (0, 0)) (by (with_reducible repeat (first | refine b1_ ?_ _ | refine b3_ ?_ | refine b2_ ?_ _)); exact BK344.out) k_ hk⟩))
 (case aO => exact ((Kd.N_nil _ _ _ _ (fun k_ => ((P0_0_ k_ ∨ P1_1_ k_) ∨ w.heap.size ≤ k_) ∧ k_ ≠ gb339 ∧ k_ ≠ gb340 ∧ k_ ≠ gb343 ∧ k_ ≠ gb344))))
 (case aS => exact (below_size (by repeat (first | (with_reducible first | exact HB.out | apply b7_ | apply b5_ | apply b6_ | refine b4_ ?_ GE339.out | refine b4_ ?_ GE340.out | refine b4_ ?_ GE343.out | refine b4_ ?_ GE344.out) | exact HB.out))))
 (case aL => have := LMc10.out; omega)
 intro v351 w42 ho hb hg hat
 rw [← Ny350.out] at ho
 have n0_ := A_ (Kd.V_afterv (Kd.V_apart_nil (by (with_reducible repeat (first | apply q3_ | apply q1_ | apply q2_)); exact HO0_0.out)) hg hat)
 have n1_ := A_ (Kd.V_afterv (Kd.V_apart_nil (by (with_reducible repeat (first | apply q3_ | apply q1_ | apply q2_)); exact HO1_1.out)) hg hat)
 have n2_ := A_ (blk_grown (by (with_reducible repeat (first | refine b1_ ?_ _ | refine b3_ ?_ | refine b2_ ?_ _)); exact BK339.out) hg (by simp [Value.ownBlock]))
 have n3_ := A_ (blk_grown (by (with_reducible repeat (first | refine b1_ ?_ _ | refine b3_ ?_ | refine b2_ ?_ _)); exact BK340.out) hg (by simp [Value.ownBlock]))
 have n4_ := A_ (blk_grown (by (with_reducible repeat (first | refine b1_ ?_ _ | refine b3_ ?_ | refine b2_ ?_ _)); exact BK343.out) hg (by simp [Value.ownBlock]))
 have n5_ := A_ (blk_grown (by (with_reducible repeat (first | refine b1_ ?_ _ | refine b3_ ?_ | refine b2_ ?_ _)); exact BK344.out) hg (by simp [Value.ownBlock]))
 have n6_ := A_ (Kd.V_afterv (Kd.V_apart_nil (by (with_reducible repeat (first | apply q3_ | apply q1_ | apply q2_)); exact HO349.out)) hg hat)
 have n7_ := A_ (Kd.V_afterv (Kd.V_apart_nil (by (with_reducible repeat (first | apply q3_ | apply q1_ | apply q2_)); exact HO357.out)) hg hat)
 have n8_ := A_ (hb)
 have n9_ := A_ (ho)
 clear HO0_0
 clear HO1_1
 clear BK339
 clear BK340
 clear BK343
 clear BK344
 clear HO349
 clear HO357
 clear HB
 have HO0_0 := n0_
 have HO1_1 := n1_
 have BK339 := n2_
 have BK340 := n3_
 have BK343 := n4_
 have BK344 := n5_
 have HO349 := n6_
 have HO357 := n7_
 have HB := n8_
 have HO352 := n9_
 clear n0_ n1_ n2_ n3_ n4_ n5_ n6_ n7_ n8_ n9_
 clear ho hb hg hat
 refine hK.out _ _ ⟨(b0_ BK339.out 0).trans rfl, (b0_ BK339.out 1).trans rfl, (b0_ BK339.out 2).trans rfl⟩ (fun hHeld => ?_)
 clear hK K
 refine norm_ (a' := ?_) ?_ ?_
 rotate_left
 ·show Act.put _ (some 28) _ = _
  simp only [Act.put, pb_, pc_, pd_, i64_w, i32_w]
  rfl
 refine one_ (i := 10) (N := some 34) #[T_,T_,T_,T_,T_,T_,T_,T_,T_,T_,T_,F_,F_] rfl rfl (one_of HT_.out (by kernel_rfl)) (by decide) (fun K hK => ?_)
 refine Kd.N_append_rows_step k27 (w0 := w) w.heap.size (by rfl) (.tmp 28) (.tmp 33) 22 27 (.agg #[(.string ⟨#[]⟩), (.slice none 0 0), (.int .i64 0), (.int .i64 0), (.int .i64 0), (.int .i64 0), (.int .i64 0), (.int .i64 0), (.int .i64 0)]) 96 rfl Tryz.underlying22 info27 rfl (by decide) (by omega) v351 y350 y353 _ _ _ (fun k_ => ((P0_0_ k_ ∨ P1_1_ k_) ∨ w.heap.size ≤ k_) ∧ k_ ≠ gb339 ∧ k_ ≠ gb340 ∧ k_ ≠ gb343 ∧ k_ ≠ gb344) (fun k_ => ((fun k_ => ((P0_0_ k_ ∨ P1_1_ k_) ∨ w.heap.size ≤ k_) ∧ k_ ≠ gb339 ∧ k_ ≠ gb340 ∧ k_ ≠ gb343 ∧ k_ ≠ gb344)) k_ ∧ some k_ ≠ (v351 : Value).ownBlock) rfl rfl ?aO ?aR (fun _ hk => hk) ?aF ?aB ?aS ?aL ?_
 (case aR => exact (by skip; exact Kd.V_F (Kd.V_mono (ok' := (fun k_ => ((fun k_ => ((P0_0_ k_ ∨ P1_1_ k_) ∨ w.heap.size ≤ k_) ∧ k_ ≠ gb339 ∧ k_ ≠ gb340 ∧ k_ ≠ gb343 ∧ k_ ≠ gb344)) k_ ∧ some k_ ≠ (v351 : Value).ownBlock)) (HO357.out) (fun k_ hk => ⟨⟨hk.1.1, ⟨hk.1.2.1, ⟨hk.1.2.2.1, ⟨hk.1.2.2.2.1, hk.1.2.2.2.2⟩⟩⟩⟩, hk.2⟩))))
 (case aB => exact (by repeat (first | (with_reducible first | exact HB.out | apply b7_ | apply b5_ | apply b6_ | refine b4_ ?_ GE339.out | refine b4_ ?_ GE340.out | refine b4_ ?_ GE343.out | refine b4_ ?_ GE344.out) | exact HB.out)))
 (case aF => exact (fun k_ hk => ⟨(.inr (Nat.le_trans (below_size (by repeat (first | (with_reducible first | exact HB.out | apply b7_ | apply b5_ | apply b6_ | refine b4_ ?_ GE339.out | refine b4_ ?_ GE340.out | refine b4_ ?_ GE343.out | refine b4_ ?_ GE344.out) | exact HB.out))) hk)), Kd.freshB (g := gb339) (o := .cells #[.slice A0_0 l0_0.length c0_0, .int .i64 a0_1, .int .i64 a0_2] 24 (0, 0)) (by (with_reducible repeat (first | refine b1_ ?_ _ | refine b3_ ?_ | refine b2_ ?_ _)); exact BK339.out) k_ hk, Kd.freshB (g := gb340) (o := .cells #[.string a1_0, .slice A1_1 l1_1.length c1_1, .int .i64 a1_2, .int .i64 a1_3, .int .i64 a1_4, .int .i64 a1_5, .int .i64 a1_6, .int .i64 a1_7, .int .i64 a1_8] 27 (0, 0)) (by (with_reducible repeat (first | refine b1_ ?_ _ | refine b3_ ?_ | refine b2_ ?_ _)); exact BK340.out) k_ hk, Kd.freshB (g := gb343) (o := .cells #[.slice A0_0 l0_0.length c0_0, .int .i64 a0_1, .int .i64 a0_2] 24 (0, 0)) (by (with_reducible repeat (first | refine b1_ ?_ _ | refine b3_ ?_ | refine b2_ ?_ _)); exact BK343.out) k_ hk, Kd.freshB (g := gb344) (o := .cells #[.slice A0_0 l0_0.length c0_0, .int .i64 a0_1, .int .i64 a0_2] 24 (0, 0)) (by (with_reducible repeat (first | refine b1_ ?_ _ | refine b3_ ?_ | refine b2_ ?_ _)); exact BK344.out) k_ hk⟩))
 (case aO => exact (by (with_reducible repeat (first | apply q6_ | apply q4_ | apply q5_)); exact HO352.out))
 (case aS => exact (below_size (by repeat (first | (with_reducible first | exact HB.out | apply b7_ | apply b5_ | apply b6_ | refine b4_ ?_ GE339.out | refine b4_ ?_ GE340.out | refine b4_ ?_ GE343.out | refine b4_ ?_ GE344.out) | exact HB.out))))
 (case aL => have := LMc14.out; omega)
 intro v359 w43 ho hb hg hat
 rw [← Ny358.out] at ho
 have n0_ := A_ (Kd.V_afterv (ok := (fun k_ => ((P0_0_ k_ ∨ P1_1_ k_) ∨ w.heap.size ≤ k_) ∧ k_ ≠ gb339 ∧ k_ ≠ gb340 ∧ k_ ≠ gb343 ∧ k_ ≠ gb344)) (by (with_reducible repeat (first | apply q3_ | apply q1_ | apply q2_)); exact HO0_0.out) hg hat)
 have n1_ := A_ (Kd.V_afterv (ok := (fun k_ => ((P0_0_ k_ ∨ P1_1_ k_) ∨ w.heap.size ≤ k_) ∧ k_ ≠ gb339 ∧ k_ ≠ gb340 ∧ k_ ≠ gb343 ∧ k_ ≠ gb344)) (by (with_reducible repeat (first | apply q3_ | apply q1_ | apply q2_)); exact HO1_1.out) hg hat)
 have n2_ := A_ (blk_grown (by (with_reducible repeat (first | refine b1_ ?_ _ | refine b3_ ?_ | refine b2_ ?_ _)); exact BK339.out) hg (Kd.N_ne HO352.out BK339.out (by decide)))
 have n3_ := A_ (blk_grown (by (with_reducible repeat (first | refine b1_ ?_ _ | refine b3_ ?_ | refine b2_ ?_ _)); exact BK340.out) hg (Kd.N_away HO352.out (fun _ hk => hk.2.2.1)))
 have n4_ := A_ (blk_grown (by (with_reducible repeat (first | refine b1_ ?_ _ | refine b3_ ?_ | refine b2_ ?_ _)); exact BK343.out) hg (Kd.N_ne HO352.out BK343.out (by decide)))
 have n5_ := A_ (blk_grown (by (with_reducible repeat (first | refine b1_ ?_ _ | refine b3_ ?_ | refine b2_ ?_ _)); exact BK344.out) hg (Kd.N_ne HO352.out BK344.out (by decide)))
 have n6_ := A_ (Kd.V_afterv (ok := (fun k_ => ((P0_0_ k_ ∨ P1_1_ k_) ∨ w.heap.size ≤ k_) ∧ k_ ≠ gb339 ∧ k_ ≠ gb340 ∧ k_ ≠ gb343 ∧ k_ ≠ gb344)) (by (with_reducible repeat (first | apply q3_ | apply q1_ | apply q2_)); exact HO349.out) hg hat)
 have n7_ := A_ (Kd.V_afterv (ok := (fun k_ => ((P0_0_ k_ ∨ P1_1_ k_) ∨ w.heap.size ≤ k_) ∧ k_ ≠ gb339 ∧ k_ ≠ gb340 ∧ k_ ≠ gb343 ∧ k_ ≠ gb344)) (by (with_reducible repeat (first | apply q3_ | apply q1_ | apply q2_)); exact HO357.out) hg hat)
 have n8_ := A_ (hb)
 have n9_ := A_ (ho)
 clear HO0_0
 clear HO1_1
 clear BK339
 clear BK340
 clear BK343
 clear BK344
 clear HO349
 clear HO357
 clear HB
 clear HO352
 have HO0_0 := n0_
 have HO1_1 := n1_
 have BK339 := n2_
 have BK340 := n3_
 have BK343 := n4_
 have BK344 := n5_
 have HO349 := n6_
 have HO357 := n7_
 have HB := n8_
 have HO360 := n9_
 clear n0_ n1_ n2_ n3_ n4_ n5_ n6_ n7_ n8_ n9_
 clear ho hb hg hat
 obtain ⟨Ao44, co44, eo44⟩ := Kd.N_slice HO360.out
 (first | subst eo44 | (injection eo44 with f1_ f2_ f3_; have f4_ := f1_.symm; have f5_ := f3_.symm; clear f1_ f2_ f3_; subst f4_; subst f5_))
 refine hK.out _ _ ⟨(b0_ BK339.out 0).trans rfl, (b0_ BK339.out 1).trans rfl, (b0_ BK339.out 2).trans rfl⟩ (fun hHeld => ?_)
 clear hK K
 refine norm_ (a' := ?_) ?_ ?_
 rotate_left
 ·show Act.put _ (some 34) _ = _
  simp only [Act.put, pb_, pc_, pd_, i64_w, i32_w]
  rfl
 refine pure_ (i := 11) (N := some 35) (v := ?_) (a' := ?_) #[T_,T_,T_,T_,T_,T_,T_,T_,T_,T_,T_,T_,F_] rfl rfl (any_of HT_.out (by kernel_rfl)) (fun _ _ _ h => h) (Or.inl ⟨by rfl, ?_⟩) ?_ ?_
 rotate_left
 ·intro w'
  go_simp
  with_reducible rfl
 rotate_left
 ·simp only [Act.put, pb_, pc_, pd_, i64_w, i32_w]
  rfl
 refine one_ (i := 12) (N := none) #[T_,T_,T_,T_,T_,T_,T_,T_,T_,T_,T_,T_,T_] rfl rfl (one_of HT_.out (by kernel_rfl)) (by decide) (fun K hK => ?_)
 have hs45 : w43.cell? ⟨gb343, 0, none⟩ = some (.slice A0_0 l0_0.length c0_0) := (b0_ BK343.out 0).trans rfl
 have hfs45 := blk_frozen BK343.out 0
 have hns45_0 := NB339_343.out
 have hns45_1 := NB340_343.out
 have hns45_3 := NB344_343.out
 have hms45_0 := NB343_339.out
 have hms45_1 := NB343_340.out
 have hms45_3 := NB343_344.out
 refine skip_ (w1 := ?_) (by rfl) rfl ?_ ?_
 rotate_left
 ·go_simp
  rfl
 refine hK.out _ _ ⟨((cell_far (p := ⟨gb343, _, none⟩) NB339_343.out _).trans (hHeld.1)), ((cell_far (p := ⟨gb343, _, none⟩) NB339_343.out _).trans (hHeld.2.1)), ((cell_far (p := ⟨gb343, _, none⟩) NB339_343.out _).trans (hHeld.2.2))⟩ (fun hHeld => ?_)
 clear hK K
 refine done_ (done_of HT_.out (by kernel_rfl)) ?_
 try go_wp2
 have n0_ : Aside0 (Kd.V k27 27 (w43.setCell ⟨gb343, 0, none⟩ (.slice Ao44 y358.length co44)) w.heap.size (fun k_ => ((P0_0_ k_ ∨ P1_1_ k_) ∨ w.heap.size ≤ k_) ∧ some k_ ≠ (.slice Ao44 y358.length co44 : Value).ownBlock ∧ k_ ≠ gb339 ∧ k_ ≠ gb340 ∧ k_ ≠ gb343 ∧ k_ ≠ gb344) (.slice A0_0 l0_0.length c0_0) l0_0) := ⟨by (with_reducible repeat (first | apply q3_ | apply q1_ | apply q2_)); exact Kd.V_mono (Kd.V_far (p := ⟨gb343, 0, none⟩) (Kd.V_mono HO0_0.out (fun k_ hk => (⟨hk, hk.1.2.2.2.1⟩ : _ ∧ k_ ≠ gb343))) (fun _ hk => hk.2) (.slice Ao44 y358.length co44)) (fun _ hk => ⟨hk.1.1.1, ⟨hk.1.2, ⟨hk.1.1.2.1, ⟨hk.1.1.2.2.1, ⟨hk.1.1.2.2.2.1, hk.1.1.2.2.2.2⟩⟩⟩⟩⟩)⟩
 have n1_ : Aside0 (Kd.V k46 46 (w43.setCell ⟨gb343, 0, none⟩ (.slice Ao44 y358.length co44)) w.heap.size (fun k_ => ((P0_0_ k_ ∨ P1_1_ k_) ∨ w.heap.size ≤ k_) ∧ some k_ ≠ (.slice Ao44 y358.length co44 : Value).ownBlock ∧ k_ ≠ gb339 ∧ k_ ≠ gb340 ∧ k_ ≠ gb343 ∧ k_ ≠ gb344) (.slice A1_1 l1_1.length c1_1) l1_1) := ⟨by (with_reducible repeat (first | apply q3_ | apply q1_ | apply q2_)); exact Kd.V_mono (Kd.V_far (p := ⟨gb343, 0, none⟩) (Kd.V_mono HO1_1.out (fun k_ hk => (⟨hk, hk.1.2.2.2.1⟩ : _ ∧ k_ ≠ gb343))) (fun _ hk => hk.2) (.slice Ao44 y358.length co44)) (fun _ hk => ⟨hk.1.1.1, ⟨hk.1.2, ⟨hk.1.1.2.1, ⟨hk.1.1.2.2.1, ⟨hk.1.1.2.2.2.1, hk.1.1.2.2.2.2⟩⟩⟩⟩⟩)⟩
 have n2_ : Aside0 (Kd.V k27 27 (w43.setCell ⟨gb343, 0, none⟩ (.slice Ao44 y358.length co44)) w.heap.size (fun k_ => ((P0_0_ k_ ∨ P1_1_ k_) ∨ w.heap.size ≤ k_) ∧ some k_ ≠ (.slice Ao44 y358.length co44 : Value).ownBlock ∧ k_ ≠ gb339 ∧ k_ ≠ gb340 ∧ k_ ≠ gb343 ∧ k_ ≠ gb344) (.slice A0_0 y345.length c0_0) y345) := ⟨by (with_reducible repeat (first | apply q3_ | apply q1_ | apply q2_)); exact Kd.V_mono (Kd.V_far (p := ⟨gb343, 0, none⟩) (Kd.V_mono HO349.out (fun k_ hk => (⟨hk, hk.1.2.2.2.1⟩ : _ ∧ k_ ≠ gb343))) (fun _ hk => hk.2) (.slice Ao44 y358.length co44)) (fun _ hk => ⟨hk.1.1.1, ⟨hk.1.2, ⟨hk.1.1.2.1, ⟨hk.1.1.2.2.1, ⟨hk.1.1.2.2.2.1, hk.1.1.2.2.2.2⟩⟩⟩⟩⟩)⟩
 have n3_ : Aside0 (Kd.V k27 27 (w43.setCell ⟨gb343, 0, none⟩ (.slice Ao44 y358.length co44)) w.heap.size (fun k_ => ((P0_0_ k_ ∨ P1_1_ k_) ∨ w.heap.size ≤ k_) ∧ some k_ ≠ (.slice Ao44 y358.length co44 : Value).ownBlock ∧ k_ ≠ gb339 ∧ k_ ≠ gb340 ∧ k_ ≠ gb343 ∧ k_ ≠ gb344) (.slice A41 y353.length c41) y353) := ⟨by (with_reducible repeat (first | apply q3_ | apply q1_ | apply q2_)); exact Kd.V_mono (Kd.V_far (p := ⟨gb343, 0, none⟩) (Kd.V_mono HO357.out (fun k_ hk => (⟨hk, hk.1.2.2.2.1⟩ : _ ∧ k_ ≠ gb343))) (fun _ hk => hk.2) (.slice Ao44 y358.length co44)) (fun _ hk => ⟨hk.1.1.1, ⟨hk.1.2, ⟨hk.1.1.2.1, ⟨hk.1.1.2.2.1, ⟨hk.1.1.2.2.2.1, hk.1.1.2.2.2.2⟩⟩⟩⟩⟩)⟩
 have n4_ : Aside0 (Kd.N k27 27 (w43.setCell ⟨gb343, 0, none⟩ (.slice Ao44 y358.length co44)) w.heap.size (fun k_ => ((P0_0_ k_ ∨ P1_1_ k_) ∨ w.heap.size ≤ k_) ∧ k_ ≠ gb339 ∧ k_ ≠ gb340 ∧ k_ ≠ gb343 ∧ k_ ≠ gb344) (.slice Ao44 y358.length co44) y358) := ⟨by (with_reducible repeat (first | apply q6_ | apply q4_ | apply q5_)); exact Kd.N_mono (Kd.N_far (p := ⟨gb343, 0, none⟩) (Kd.N_mono HO360.out (fun k_ hk => (⟨hk, hk.2.2.2.1⟩ : _ ∧ k_ ≠ gb343))) (fun _ hk => hk.2) (.slice Ao44 y358.length co44)) (fun _ hk => ⟨hk.1.1, ⟨hk.1.2.1, ⟨hk.1.2.2.1, ⟨hk.1.2.2.2.1, hk.1.2.2.2.2⟩⟩⟩⟩)⟩
 have n5_ : Aside0 ((w43.setCell ⟨gb343, 0, none⟩ (.slice Ao44 y358.length co44)).heap[gb339]? = some (.cells #[.slice A0_0 l0_0.length c0_0, .int .i64 a0_1, .int .i64 a0_2] 24 (0, 0))) := ⟨by (with_reducible repeat (first | refine b1_ ?_ _ | refine b3_ ?_ | refine b2_ ?_ _)); refine blk_far ?_ NB339_343.out _; (with_reducible repeat (first | refine b1_ ?_ _ | refine b3_ ?_ | refine b2_ ?_ _)); exact BK339.out⟩
 have n6_ : Aside0 ((w43.setCell ⟨gb343, 0, none⟩ (.slice Ao44 y358.length co44)).heap[gb340]? = some (.cells #[.string a1_0, .slice A1_1 l1_1.length c1_1, .int .i64 a1_2, .int .i64 a1_3, .int .i64 a1_4, .int .i64 a1_5, .int .i64 a1_6, .int .i64 a1_7, .int .i64 a1_8] 27 (0, 0))) := ⟨by (with_reducible repeat (first | refine b1_ ?_ _ | refine b3_ ?_ | refine b2_ ?_ _)); refine blk_far ?_ NB340_343.out _; (with_reducible repeat (first | refine b1_ ?_ _ | refine b3_ ?_ | refine b2_ ?_ _)); exact BK340.out⟩
 have n7_ : Aside0 ((w43.setCell ⟨gb343, 0, none⟩ (.slice Ao44 y358.length co44)).heap[gb343]? = some (.cells #[.slice Ao44 y358.length co44, .int .i64 a0_1, .int .i64 a0_2] 24 (0, 0))) := ⟨by (with_reducible repeat (first | refine b1_ ?_ _ | refine b3_ ?_ | refine b2_ ?_ _)); refine blk_put (cs := #[.slice A0_0 l0_0.length c0_0, .int .i64 a0_1, .int .i64 a0_2]) ?_ 0 _ rfl; (with_reducible repeat (first | refine b1_ ?_ _ | refine b3_ ?_ | refine b2_ ?_ _)); exact BK343.out⟩
 have n8_ : Aside0 ((w43.setCell ⟨gb343, 0, none⟩ (.slice Ao44 y358.length co44)).heap[gb344]? = some (.cells #[.slice A0_0 l0_0.length c0_0, .int .i64 a0_1, .int .i64 a0_2] 24 (0, 0))) := ⟨by (with_reducible repeat (first | refine b1_ ?_ _ | refine b3_ ?_ | refine b2_ ?_ _)); refine blk_far ?_ NB344_343.out _; (with_reducible repeat (first | refine b1_ ?_ _ | refine b3_ ?_ | refine b2_ ?_ _)); exact BK344.out⟩
 have n9_ : Aside0 (Below w.heap.size w (w43.setCell ⟨gb343, 0, none⟩ (.slice Ao44 y358.length co44))) := ⟨by repeat (first | (with_reducible first | exact HB.out | apply b7_ | apply b5_ | apply b6_ | refine b4_ ?_ GE339.out | refine b4_ ?_ GE340.out | refine b4_ ?_ GE343.out | refine b4_ ?_ GE344.out) | exact HB.out)⟩
 (try clear HO0_0)
 (try clear HO1_1)
 (try clear HO349)
 (try clear HO357)
 (try clear HO360)
 (try clear BK339)
 (try clear BK340)
 (try clear BK343)
 (try clear BK344)
 (try clear HB)
 generalize (w43.setCell ⟨gb343, 0, none⟩ (.slice Ao44 y358.length co44)) = w46 at n0_ n1_ n2_ n3_ n4_ n5_ n6_ n7_ n8_ n9_ ⊢
 have HO0_0 := n0_
 have HO1_1 := n1_
 have HO349 := n2_
 have HO357 := n3_
 have HO360 := n4_
 have BK339 := n5_
 have BK340 := n6_
 have BK343 := n7_
 have BK344 := n8_
 have HB := n9_
 clear n0_ n1_ n2_ n3_ n4_ n5_ n6_ n7_ n8_ n9_
 have n0_ := A_ (q2_ HO0_0.out)
 have n1_ := A_ (q2_ HO1_1.out)
 have n2_ := A_ (q2_ HO349.out)
 have n3_ := A_ (q2_ HO357.out)
 have n4_ := A_ (q5_ HO360.out)
 have n5_ := A_ (b3_ BK339.out)
 have n6_ := A_ (b3_ BK340.out)
 have n7_ := A_ (b3_ BK343.out)
 have n8_ := A_ (b3_ BK344.out)
 have n9_ := A_ (b6_ HB.out)
 clear HO0_0
 clear HO1_1
 clear HO349
 clear HO357
 clear HO360
 clear BK339
 clear BK340
 clear BK343
 clear BK344
 clear HB
 have HO0_0 := n0_
 have HO1_1 := n1_
 have HO349 := n2_
 have HO357 := n3_
 have HO360 := n4_
 have BK339 := n5_
 have BK340 := n6_
 have BK343 := n7_
 have BK344 := n8_
 have HB := n9_
 clear n0_ n1_ n2_ n3_ n4_ n5_ n6_ n7_ n8_ n9_
 have q48 : ((ji7) : Int) ≤ ((l0_0.length : Int) : Int) := of_decide_eq_true (by first | (with_reducible assumption) | assumption)
 obtain ⟨i048, hi048, _, hsz48, _⟩ := info_parts info27
 have hroom48 : l0_0.length ≤ c0_0 := (Kd.V_reads' HO0_0.out).2.1
 have hC48 : Kd.F k27 _ _ A0_0 l0_0.length l0_0 := (Kd.V_at (base := w.heap.size) HO0_0.out).2.2
 have hcut48 := cut_to (P := Tryz.prog) 22 27 .i64 Tryz.underlying22 hi048 A0_0 l0_0.length c0_0 (ji7) (of_decide_eq_true (by first | (with_reducible assumption) | assumption)) q48 hroom48
 have hr48 := Kd.F_take (m := ((ji7) : Int).toNat) hC48 (by omega)
 have hy48 : y345.length = ((ji7) : Int).toNat := (by rw [Ny345.out, List.length_take]; omega)
 rw [← Ny345.out] at hr48
 rw [← hy48] at hcut48
 have HO365 := A_ (show Kd.V k27 27 _ w.heap.size _ (.slice A0_0 y345.length c0_0) y345 from Kd.V_mk (by omega) hr48)
 have HC365 := A_ (show y345.length ≤ c0_0 from by omega)
 clear hr48 hC48 hroom48 hi048 hsz48
 have KY48 := A_ hy48
 clear hy48
 replace q48 := eq_true q48
 have q49 : ((ji7) : Int) ≤ ((l0_0.length : Int) : Int) := of_decide_eq_true (by first | (with_reducible assumption) | assumption)
 obtain ⟨i049, hi049, _, hsz49, _⟩ := info_parts info27
 have hroom49 : l0_0.length ≤ c0_0 := (Kd.V_reads' HO0_0.out).2.1
 have hC49 : Kd.F k27 _ _ A0_0 l0_0.length l0_0 := (Kd.V_at (base := w.heap.size) HO0_0.out).2.2
 have q049 : (0 : Int) ≤ ((ji7) : Int) := of_decide_eq_true (by first | (with_reducible assumption) | assumption)
 have hcut49 := cut_from (P := Tryz.prog) 22 27 .i64 Tryz.underlying22 hi049 9 hsz49 A0_0 l0_0.length c0_0 (ji7) q049 q49
 have hr49 := Kd.F_cut (m := ((ji7) : Int).toNat) (c := c0_0) hC49 (by omega) hroom49
 obtain ⟨A49, hA49⟩ : ∃ Az_ : Option Addr, Az_ = (if c0_0 = ((ji7) : Int).toNat then A0_0 else (A0_0 : Option Addr).map (·.add (((ji7) : Int).toNat * 9))) := ⟨_, rfl⟩
 obtain ⟨c49, hc49⟩ : ∃ c1, c1 = c0_0 - ((ji7) : Int).toNat := ⟨_, rfl⟩
 have hy49 : y375.length = l0_0.length - ((ji7) : Int).toNat := (by rw [Ny375.out, List.length_drop] <;> omega)
 rw [show (l0_0).drop ((ji7) : Int).toNat = y375 from Ny375.out.symm] at hr49
 replace hr49 : Kd.F k27 _ _ A49 y375.length y375 := (by rw [hA49]; exact hr49)
 rw [← hy49, ← hA49, ← hc49] at hcut49
 have HO379 := A_ (show Kd.V k27 27 _ w.heap.size _ (.slice A49 y375.length c49) y375 from Kd.V_mk (by rw [hy49, hc49]; exact Nat.sub_le_sub_right hroom49 _) hr49)
 have HC379 := A_ (show y375.length ≤ c49 from by rw [hy49, hc49]; exact Nat.sub_le_sub_right hroom49 _)
 clear hr49 hC49 hroom49 hi049 hsz49 hc49
 have KY49 := A_ hy49
 have KA49 := A_ hA49
 clear hy49 hA49
 replace q49 := eq_true q49
 refine start_ (n := 15) (S := fun w' => w'.cell? ⟨gb339, 0, none⟩ = some (.slice A0_0 l0_0.length c0_0) ∧ w'.cell? ⟨gb339, 1, none⟩ = some (.int .i64 a0_1) ∧ w'.cell? ⟨gb339, 2, none⟩ = some (.int .i64 a0_2) ∧ w'.cell? ⟨gb340, 0, none⟩ = some (.string a1_0) ∧ w'.cell? ⟨gb340, 1, none⟩ = some (.slice A1_1 l1_1.length c1_1) ∧ w'.cell? ⟨gb340, 2, none⟩ = some (.int .i64 a1_2) ∧ w'.cell? ⟨gb340, 3, none⟩ = some (.int .i64 a1_3) ∧ w'.cell? ⟨gb340, 4, none⟩ = some (.int .i64 a1_4) ∧ w'.cell? ⟨gb340, 5, none⟩ = some (.int .i64 a1_5) ∧ w'.cell? ⟨gb340, 6, none⟩ = some (.int .i64 a1_6) ∧ w'.cell? ⟨gb340, 7, none⟩ = some (.int .i64 a1_7) ∧ w'.cell? ⟨gb340, 8, none⟩ = some (.int .i64 a1_8)) (ds := []) #[F_,F_,F_,F_,F_,F_,F_,F_,F_,F_,F_,F_,F_,F_,F_] (by kernel_rfl) rfl rfl ⟨(b0_ BK339.out 0).trans rfl, (b0_ BK339.out 1).trans rfl, (b0_ BK339.out 2).trans rfl, (b0_ BK340.out 0).trans rfl, (b0_ BK340.out 1).trans rfl, (b0_ BK340.out 2).trans rfl, (b0_ BK340.out 3).trans rfl, (b0_ BK340.out 4).trans rfl, (b0_ BK340.out 5).trans rfl, (b0_ BK340.out 6).trans rfl, (b0_ BK340.out 7).trans rfl, (b0_ BK340.out 8).trans rfl⟩ (fun hHeld => ?_); refine with_tabW tollhouselaw15_AuthLess.tab6 tollhouselaw15_AuthLess.bits6 (fun HT_ HW_ => ?_)
 generalize w46.drew = w47 at HO0_0 HO1_1 HO349 HO357 HO360 BK339 BK340 BK343 BK344 HB HO365 HO379 hHeld ⊢
 refine pure_ (i := 0) (N := some 36) (v := ?_) (a' := ?_) #[T_,F_,F_,F_,F_,F_,F_,F_,F_,F_,F_,F_,F_,F_,F_] rfl rfl (any_of HT_.out (by kernel_rfl)) (fun _ _ _ h => h) (Or.inl ⟨by rfl, ?_⟩) ?_ ?_
 rotate_left
 ·intro w'
  go_simp
  with_reducible rfl
 rotate_left
 ·simp only [Act.put, pb_, pc_, pd_, i64_w, i32_w]
  rfl
 refine pure_ (i := 2) (N := some 38) (v := ?_) (a' := ?_) #[T_,F_,T_,F_,F_,F_,F_,F_,F_,F_,F_,F_,F_,F_,F_] rfl rfl (any_of HT_.out (by kernel_rfl)) (fun _ _ _ h => h) (Or.inl ⟨by rfl, ?_⟩) ?_ ?_
 rotate_left
 ·intro w'
  go_simp
  with_reducible rfl
 rotate_left
 ·simp only [Act.put, pb_, pc_, pd_, i64_w, i32_w]
  rfl
 refine pure_ (i := 8) (N := some 44) (v := ?_) (a' := ?_) #[T_,F_,T_,F_,F_,F_,F_,F_,T_,F_,F_,F_,F_,F_,F_] rfl rfl (any_of HT_.out (by kernel_rfl)) (fun _ _ _ h => h) (Or.inl ⟨by rfl, ?_⟩) ?_ ?_
 rotate_left
 ·intro w'
  go_simp
  with_reducible rfl
 rotate_left
 ·simp only [Act.put, pb_, pc_, pd_, i64_w, i32_w]
  rfl
 refine pure_ (i := 10) (N := some 46) (v := ?_) (a' := ?_) #[T_,F_,T_,F_,F_,F_,F_,F_,T_,F_,T_,F_,F_,F_,F_] rfl rfl (any_of HT_.out (by kernel_rfl)) (fun _ _ _ h => h) (Or.inl ⟨by rfl, ?_⟩) ?_ ?_
 rotate_left
 ·intro w'
  go_simp
  with_reducible rfl
 rotate_left
 ·simp only [Act.put, pb_, pc_, pd_, i64_w, i32_w]
  rfl
 refine take_ (i := 1) (N := some 37) (v := ?_) (a' := ?_) #[T_,T_,T_,F_,F_,F_,F_,F_,T_,F_,T_,F_,F_,F_,F_] rfl rfl (take_ofW HT_.out HW_.out (by kernel_rfl)) (fun _ _ _ h => h) (Or.inl ⟨by rfl, ?_⟩) hHeld ?_ ?_
 rotate_left
 ·rintro w' ⟨s0, s1, s2, s3, s4, s5, s6, s7, s8, s9, s10, s11⟩
  go_simp
  with_reducible rfl
 rotate_left
 ·simp only [Act.put, pb_, pc_, pd_, i64_w, i32_w]
  rfl
 refine pure_ (i := 3) (N := some 39) (v := ?_) (a' := ?_) #[T_,T_,T_,T_,F_,F_,F_,F_,T_,F_,T_,F_,F_,F_,F_] rfl rfl (any_of HT_.out (by kernel_rfl)) (fun _ _ _ h => h) (Or.inl ⟨by rfl, ?_⟩) ?_ ?_
 rotate_left
 ·intro w'
  go_simp
  with_reducible rfl
 rotate_left
 ·simp only [Act.put, pb_, pc_, pd_, i64_w, i32_w]
  rfl
 refine take_ (i := 5) (N := some 41) (v := ?_) (a' := ?_) #[T_,T_,T_,T_,F_,T_,F_,F_,T_,F_,T_,F_,F_,F_,F_] rfl rfl (take_ofW HT_.out HW_.out (by kernel_rfl)) (fun _ _ _ h => h) (Or.inl ⟨by rfl, ?_⟩) hHeld ?_ ?_
 rotate_left
 ·rintro w' ⟨s0, s1, s2, s3, s4, s5, s6, s7, s8, s9, s10, s11⟩
  go_simp
  with_reducible rfl
 rotate_left
 ·simp only [Act.put, pb_, pc_, pd_, i64_w, i32_w]
  rfl
 refine take_ (i := 9) (N := some 45) (v := ?_) (a' := ?_) #[T_,T_,T_,T_,F_,T_,F_,F_,T_,T_,T_,F_,F_,F_,F_] rfl rfl (take_ofW HT_.out HW_.out (by kernel_rfl)) (fun _ _ _ h => h) (Or.inl ⟨by rfl, ?_⟩) hHeld ?_ ?_
 rotate_left
 ·rintro w' ⟨s0, s1, s2, s3, s4, s5, s6, s7, s8, s9, s10, s11⟩
  go_simp
  with_reducible rfl
 rotate_left
 ·simp only [Act.put, pb_, pc_, pd_, i64_w, i32_w]
  rfl
 refine pure_ (i := 11) (N := some 47) (v := ?_) (a' := ?_) #[T_,T_,T_,T_,F_,T_,F_,F_,T_,T_,T_,T_,F_,F_,F_] rfl rfl (any_of HT_.out (by kernel_rfl)) (fun _ _ _ h => h) (Or.inl ⟨by rfl, ?_⟩) ?_ ?_
 rotate_left
 ·intro w'
  go_simp
  with_reducible rfl
 rotate_left
 ·simp only [Act.put, pb_, pc_, pd_, i64_w, i32_w]
  rfl
 refine join_ (σ := Value × Value) 4 #[T_,T_,T_,T_,T_,T_,T_,F_,T_,T_,T_,T_,F_,F_,F_] (fun s_ => [(40, s_.1), (42, s_.2)]) (fun s_ w' => (w'.cell? ⟨gb339, 0, none⟩ = some (.slice A0_0 l0_0.length c0_0) ∧ w'.cell? ⟨gb339, 1, none⟩ = some (.int .i64 a0_1) ∧ w'.cell? ⟨gb339, 2, none⟩ = some (.int .i64 a0_2) ∧ w'.cell? ⟨gb340, 0, none⟩ = some (.string a1_0) ∧ w'.cell? ⟨gb340, 1, none⟩ = some (.slice A1_1 l1_1.length c1_1) ∧ w'.cell? ⟨gb340, 2, none⟩ = some (.int .i64 a1_2) ∧ w'.cell? ⟨gb340, 3, none⟩ = some (.int .i64 a1_3) ∧ w'.cell? ⟨gb340, 4, none⟩ = some (.int .i64 a1_4) ∧ w'.cell? ⟨gb340, 5, none⟩ = some (.int .i64 a1_5) ∧ w'.cell? ⟨gb340, 6, none⟩ = some (.int .i64 a1_6) ∧ w'.cell? ⟨gb340, 7, none⟩ = some (.int .i64 a1_7) ∧ w'.cell? ⟨gb340, 8, none⟩ = some (.int .i64 a1_8)) ∧ (Kd.V k27 27 w' w.heap.size (fun k_ => ((P0_0_ k_ ∨ P1_1_ k_) ∨ w.heap.size ≤ k_) ∧ some k_ ≠ (.slice Ao44 y358.length co44 : Value).ownBlock ∧ some k_ ≠ (s_.1 : Value).ownBlock ∧ some k_ ≠ (s_.2 : Value).ownBlock ∧ k_ ≠ gb339 ∧ k_ ≠ gb340 ∧ k_ ≠ gb343 ∧ k_ ≠ gb344) (.slice A0_0 l0_0.length c0_0) l0_0) ∧ (Kd.V k46 46 w' w.heap.size (fun k_ => ((P0_0_ k_ ∨ P1_1_ k_) ∨ w.heap.size ≤ k_) ∧ some k_ ≠ (.slice Ao44 y358.length co44 : Value).ownBlock ∧ some k_ ≠ (s_.1 : Value).ownBlock ∧ some k_ ≠ (s_.2 : Value).ownBlock ∧ k_ ≠ gb339 ∧ k_ ≠ gb340 ∧ k_ ≠ gb343 ∧ k_ ≠ gb344) (.slice A1_1 l1_1.length c1_1) l1_1) ∧ (Kd.V k27 27 w' w.heap.size (fun k_ => ((P0_0_ k_ ∨ P1_1_ k_) ∨ w.heap.size ≤ k_) ∧ some k_ ≠ (.slice Ao44 y358.length co44 : Value).ownBlock ∧ some k_ ≠ (s_.1 : Value).ownBlock ∧ some k_ ≠ (s_.2 : Value).ownBlock ∧ k_ ≠ gb339 ∧ k_ ≠ gb340 ∧ k_ ≠ gb343 ∧ k_ ≠ gb344) (.slice A0_0 y345.length c0_0) y345) ∧ (Kd.V k27 27 w' w.heap.size (fun k_ => ((P0_0_ k_ ∨ P1_1_ k_) ∨ w.heap.size ≤ k_) ∧ some k_ ≠ (.slice Ao44 y358.length co44 : Value).ownBlock ∧ some k_ ≠ (s_.1 : Value).ownBlock ∧ some k_ ≠ (s_.2 : Value).ownBlock ∧ k_ ≠ gb339 ∧ k_ ≠ gb340 ∧ k_ ≠ gb343 ∧ k_ ≠ gb344) (.slice A41 y353.length c41) y353) ∧ (Kd.N k27 27 w' w.heap.size (fun k_ => ((P0_0_ k_ ∨ P1_1_ k_) ∨ w.heap.size ≤ k_) ∧ some k_ ≠ (s_.1 : Value).ownBlock ∧ some k_ ≠ (s_.2 : Value).ownBlock ∧ k_ ≠ gb339 ∧ k_ ≠ gb340 ∧ k_ ≠ gb343 ∧ k_ ≠ gb344) (.slice Ao44 y358.length co44) y358) ∧ (Kd.V k27 27 w' w.heap.size (fun k_ => ((P0_0_ k_ ∨ P1_1_ k_) ∨ w.heap.size ≤ k_) ∧ some k_ ≠ (.slice Ao44 y358.length co44 : Value).ownBlock ∧ some k_ ≠ (s_.1 : Value).ownBlock ∧ some k_ ≠ (s_.2 : Value).ownBlock ∧ k_ ≠ gb339 ∧ k_ ≠ gb340 ∧ k_ ≠ gb343 ∧ k_ ≠ gb344) (.slice A0_0 y345.length c0_0) y345) ∧ (Kd.N k27 27 w' w.heap.size (fun k_ => ((P0_0_ k_ ∨ P1_1_ k_) ∨ w.heap.size ≤ k_) ∧ some k_ ≠ (.slice Ao44 y358.length co44 : Value).ownBlock ∧ some k_ ≠ (s_.2 : Value).ownBlock ∧ k_ ≠ gb339 ∧ k_ ≠ gb340 ∧ k_ ≠ gb343 ∧ k_ ≠ gb344) s_.1 y366) ∧ (Kd.N k27 27 w' w.heap.size (fun k_ => ((P0_0_ k_ ∨ P1_1_ k_) ∨ w.heap.size ≤ k_) ∧ some k_ ≠ (.slice Ao44 y358.length co44 : Value).ownBlock ∧ some k_ ≠ (s_.1 : Value).ownBlock ∧ k_ ≠ gb339 ∧ k_ ≠ gb340 ∧ k_ ≠ gb343 ∧ k_ ≠ gb344) s_.2 y369) ∧ (Kd.V k27 27 w' w.heap.size (fun k_ => ((P0_0_ k_ ∨ P1_1_ k_) ∨ w.heap.size ≤ k_) ∧ some k_ ≠ (.slice Ao44 y358.length co44 : Value).ownBlock ∧ some k_ ≠ (s_.1 : Value).ownBlock ∧ some k_ ≠ (s_.2 : Value).ownBlock ∧ k_ ≠ gb339 ∧ k_ ≠ gb340 ∧ k_ ≠ gb343 ∧ k_ ≠ gb344) (.slice A49 y375.length c49) y375) ∧ (w'.heap[gb339]? = some (.cells #[.slice A0_0 l0_0.length c0_0, .int .i64 a0_1, .int .i64 a0_2] 24 (0, 0))) ∧ (w'.heap[gb340]? = some (.cells #[.string a1_0, .slice A1_1 l1_1.length c1_1, .int .i64 a1_2, .int .i64 a1_3, .int .i64 a1_4, .int .i64 a1_5, .int .i64 a1_6, .int .i64 a1_7, .int .i64 a1_8] 27 (0, 0))) ∧ (w'.heap[gb343]? = some (.cells #[.slice Ao44 y358.length co44, .int .i64 a0_1, .int .i64 a0_2] 24 (0, 0))) ∧ (w'.heap[gb344]? = some (.cells #[.slice A0_0 l0_0.length c0_0, .int .i64 a0_1, .int .i64 a0_2] 24 (0, 0))) ∧ (Below w.heap.size w w')) ?_ ?_
 rotate_left
 ·intro hCont
  refine two_ (i := 4) (j := 6) (Ni := some 40) (Nj := some 42) #[T_,T_,T_,T_,T_,T_,F_,F_,T_,T_,T_,T_,F_,F_,F_] #[T_,T_,T_,T_,F_,T_,T_,F_,T_,T_,T_,T_,F_,F_,F_] rfl rfl rfl rfl (two_of HT_.out (by kernel_rfl)) (by decide) (by decide) (fun K hK => ?_) (fun K hK => ?_)
  ·skip
   refine Kd.N_append_rows_step k27 (w0 := w) w.heap.size rfl (.const (.slice none 0 0)) (.tmp 39) 22 27 (.agg #[(.string ⟨#[]⟩), (.slice none 0 0), (.int .i64 0), (.int .i64 0), (.int .i64 0), (.int .i64 0), (.int .i64 0), (.int .i64 0), (.int .i64 0)]) 96 rfl Tryz.underlying22 info27 rfl (by decide) (by omega) (.slice none 0 0) ([] : List (S27)) y345 _ _ _ (fun k_ => ((P0_0_ k_ ∨ P1_1_ k_) ∨ w.heap.size ≤ k_) ∧ some k_ ≠ (.slice Ao44 y358.length co44 : Value).ownBlock ∧ k_ ≠ gb339 ∧ k_ ≠ gb340 ∧ k_ ≠ gb343 ∧ k_ ≠ gb344) (fun k_ => ((fun k_ => ((P0_0_ k_ ∨ P1_1_ k_) ∨ w.heap.size ≤ k_) ∧ some k_ ≠ (.slice Ao44 y358.length co44 : Value).ownBlock ∧ k_ ≠ gb339 ∧ k_ ≠ gb340 ∧ k_ ≠ gb343 ∧ k_ ≠ gb344)) k_ ∧ some k_ ≠ (.slice none 0 0 : Value).ownBlock) rfl rfl ?aO ?aR (fun _ hk => hk) ?aF ?aB ?aS ?aL ?_
   (case aR => exact (by skip; exact Kd.V_F (Kd.V_mono (ok' := (fun k_ => ((fun k_ => ((P0_0_ k_ ∨ P1_1_ k_) ∨ w.heap.size ≤ k_) ∧ some k_ ≠ (.slice Ao44 y358.length co44 : Value).ownBlock ∧ k_ ≠ gb339 ∧ k_ ≠ gb340 ∧ k_ ≠ gb343 ∧ k_ ≠ gb344)) k_ ∧ some k_ ≠ (.slice none 0 0 : Value).ownBlock)) (HO365.out) (fun k_ hk => ⟨⟨hk.1, ⟨hk.2.1, ⟨hk.2.2.1, ⟨hk.2.2.2.1, ⟨hk.2.2.2.2.1, hk.2.2.2.2.2⟩⟩⟩⟩⟩, (by simp [Value.ownBlock])⟩))))
   (case aB => exact (by repeat (first | (with_reducible first | exact HB.out | apply b7_ | apply b5_ | apply b6_ | refine b4_ ?_ GE339.out | refine b4_ ?_ GE340.out | refine b4_ ?_ GE343.out | refine b4_ ?_ GE344.out) | exact HB.out)))
   (case aF => exact (fun k_ hk => ⟨(.inr (Nat.le_trans (below_size (by repeat (first | (with_reducible first | exact HB.out | apply b7_ | apply b5_ | apply b6_ | refine b4_ ?_ GE339.out | refine b4_ ?_ GE340.out | refine b4_ ?_ GE343.out | refine b4_ ?_ GE344.out) | exact HB.out))) hk)), Kd.fresh' (Kd.N_lt (by (with_reducible repeat (first | apply q6_ | apply q4_ | apply q5_)); exact HO360.out)) k_ hk, Kd.freshB (g := gb339) (o := .cells #[.slice A0_0 l0_0.length c0_0, .int .i64 a0_1, .int .i64 a0_2] 24 (0, 0)) (by (with_reducible repeat (first | refine b1_ ?_ _ | refine b3_ ?_ | refine b2_ ?_ _)); exact BK339.out) k_ hk, Kd.freshB (g := gb340) (o := .cells #[.string a1_0, .slice A1_1 l1_1.length c1_1, .int .i64 a1_2, .int .i64 a1_3, .int .i64 a1_4, .int .i64 a1_5, .int .i64 a1_6, .int .i64 a1_7, .int .i64 a1_8] 27 (0, 0)) (by (with_reducible repeat (first | refine b1_ ?_ _ | refine b3_ ?_ | refine b2_ ?_ _)); exact BK340.out) k_ hk, Kd.freshB (g := gb343) (o := .cells #[.slice Ao44 y358.length co44, .int .i64 a0_1, .int .i64 a0_2] 24 (0, 0)) (by (with_reducible repeat (first | refine b1_ ?_ _ | refine b3_ ?_ | refine b2_ ?_ _)); exact BK343.out) k_ hk, Kd.freshB (g := gb344) (o := .cells #[.slice A0_0 l0_0.length c0_0, .int .i64 a0_1, .int .i64 a0_2] 24 (0, 0)) (by (with_reducible repeat (first | refine b1_ ?_ _ | refine b3_ ?_ | refine b2_ ?_ _)); exact BK344.out) k_ hk⟩))
   (case aO => exact ((Kd.N_nil _ _ _ _ (fun k_ => ((P0_0_ k_ ∨ P1_1_ k_) ∨ w.heap.size ≤ k_) ∧ some k_ ≠ (.slice Ao44 y358.length co44 : Value).ownBlock ∧ k_ ≠ gb339 ∧ k_ ≠ gb340 ∧ k_ ≠ gb343 ∧ k_ ≠ gb344))))
   (case aS => exact (below_size (by repeat (first | (with_reducible first | exact HB.out | apply b7_ | apply b5_ | apply b6_ | refine b4_ ?_ GE339.out | refine b4_ ?_ GE340.out | refine b4_ ?_ GE343.out | refine b4_ ?_ GE344.out) | exact HB.out))))
   (case aL => have := LMc17.out; omega)
   intro v367 w50 ho hb hg hat
   rw [← Ny366.out] at ho
   have n0_ := A_ (Kd.V_afterv (Kd.V_apart_nil (by (with_reducible repeat (first | apply q3_ | apply q1_ | apply q2_)); exact HO0_0.out)) hg hat)
   have n1_ := A_ (Kd.V_afterv (Kd.V_apart_nil (by (with_reducible repeat (first | apply q3_ | apply q1_ | apply q2_)); exact HO1_1.out)) hg hat)
   have n2_ := A_ (blk_grown (by (with_reducible repeat (first | refine b1_ ?_ _ | refine b3_ ?_ | refine b2_ ?_ _)); exact BK339.out) hg (by simp [Value.ownBlock]))
   have n3_ := A_ (blk_grown (by (with_reducible repeat (first | refine b1_ ?_ _ | refine b3_ ?_ | refine b2_ ?_ _)); exact BK340.out) hg (by simp [Value.ownBlock]))
   have n4_ := A_ (blk_grown (by (with_reducible repeat (first | refine b1_ ?_ _ | refine b3_ ?_ | refine b2_ ?_ _)); exact BK343.out) hg (by simp [Value.ownBlock]))
   have n5_ := A_ (blk_grown (by (with_reducible repeat (first | refine b1_ ?_ _ | refine b3_ ?_ | refine b2_ ?_ _)); exact BK344.out) hg (by simp [Value.ownBlock]))
   have n6_ := A_ (Kd.V_afterv (Kd.V_apart_nil (by (with_reducible repeat (first | apply q3_ | apply q1_ | apply q2_)); exact HO349.out)) hg hat)
   have n7_ := A_ (Kd.V_afterv (Kd.V_apart_nil (by (with_reducible repeat (first | apply q3_ | apply q1_ | apply q2_)); exact HO357.out)) hg hat)
   have n8_ := A_ (Kd.N_afterv (Kd.N_apart_nil (by (with_reducible repeat (first | apply q6_ | apply q4_ | apply q5_)); exact HO360.out)) hg hat)
   have n9_ := A_ (Kd.V_afterv (Kd.V_apart_nil (by (with_reducible repeat (first | apply q3_ | apply q1_ | apply q2_)); exact HO365.out)) hg hat)
   have n10_ := A_ (Kd.V_afterv (Kd.V_apart_nil (by (with_reducible repeat (first | apply q3_ | apply q1_ | apply q2_)); exact HO379.out)) hg hat)
   have n11_ := A_ (hb)
   have n12_ := A_ (ho)
   clear HO0_0
   clear HO1_1
   clear BK339
   clear BK340
   clear BK343
   clear BK344
   clear HO349
   clear HO357
   clear HO360
   clear HO365
   clear HO379
   clear HB
   have HO0_0 := n0_
   have HO1_1 := n1_
   have BK339 := n2_
   have BK340 := n3_
   have BK343 := n4_
   have BK344 := n5_
   have HO349 := n6_
   have HO357 := n7_
   have HO360 := n8_
   have HO365 := n9_
   have HO379 := n10_
   have HB := n11_
   have HO368 := n12_
   clear n0_ n1_ n2_ n3_ n4_ n5_ n6_ n7_ n8_ n9_ n10_ n11_ n12_
   clear ho hb hg hat
   refine hK.out _ _ ⟨(b0_ BK339.out 0).trans rfl, (b0_ BK339.out 1).trans rfl, (b0_ BK339.out 2).trans rfl, (b0_ BK340.out 0).trans rfl, (b0_ BK340.out 1).trans rfl, (b0_ BK340.out 2).trans rfl, (b0_ BK340.out 3).trans rfl, (b0_ BK340.out 4).trans rfl, (b0_ BK340.out 5).trans rfl, (b0_ BK340.out 6).trans rfl, (b0_ BK340.out 7).trans rfl, (b0_ BK340.out 8).trans rfl⟩ (fun hHeld => ?_)
   clear hK K
   refine norm_ (a' := ?_) ?_ ?_
   rotate_left
   ·show Act.put _ (some 40) _ = _
    simp only [Act.put, pb_, pc_, pd_, i64_w, i32_w]
    rfl
   refine one_ (i := 6) (N := some 42) #[T_,T_,T_,T_,T_,T_,T_,F_,T_,T_,T_,T_,F_,F_,F_] rfl rfl (one_of HT_.out (by kernel_rfl)) (by decide) (fun K hK => ?_)
   refine Kd.N_lit_step k27 _ 27 ?hg (N' := 42) ?hd (xs := ([(⟨a1_0, l1_1, a1_2, a1_3, a1_4, a1_5, a1_6, a1_7, a1_8⟩ : S27)] : List (S27))) (inner := [.string a1_0, .slice A1_1 l1_1.length c1_1, .int .i64 a1_2, .int .i64 a1_3, .int .i64 a1_4, .int .i64 a1_5, .int .i64 a1_6, .int .i64 a1_7, .int .i64 a1_8]) (ok := (fun k_ => ((P0_0_ k_ ∨ P1_1_ k_) ∨ w.heap.size ≤ k_) ∧ some k_ ≠ (.slice Ao44 y358.length co44 : Value).ownBlock ∧ some k_ ≠ (v367 : Value).ownBlock ∧ k_ ≠ gb339 ∧ k_ ≠ gb340 ∧ k_ ≠ gb343 ∧ k_ ≠ gb344)) (okp := (fun k_ => ((P0_0_ k_ ∨ P1_1_ k_) ∨ w.heap.size ≤ k_) ∧ some k_ ≠ (.slice Ao44 y358.length co44 : Value).ownBlock ∧ some k_ ≠ (v367 : Value).ownBlock ∧ k_ ≠ gb339 ∧ k_ ≠ gb340 ∧ k_ ≠ gb343 ∧ k_ ≠ gb344)) ?hr ?hp (fun _ hk => hk) ((show ∀ k_, w50.heap.size ≤ k_ → (fun k_ => ((P0_0_ k_ ∨ P1_1_ k_) ∨ w.heap.size ≤ k_) ∧ some k_ ≠ (.slice Ao44 y358.length co44 : Value).ownBlock ∧ some k_ ≠ (v367 : Value).ownBlock ∧ k_ ≠ gb339 ∧ k_ ≠ gb340 ∧ k_ ≠ gb343 ∧ k_ ≠ gb344) k_ from fun k_ hk => ⟨(.inr (Nat.le_trans (below_size (by repeat (first | (with_reducible first | exact HB.out | apply b7_ | apply b5_ | apply b6_ | refine b4_ ?_ GE339.out | refine b4_ ?_ GE340.out | refine b4_ ?_ GE343.out | refine b4_ ?_ GE344.out) | exact HB.out))) hk)), Kd.fresh' (Kd.N_lt (by (with_reducible repeat (first | apply q6_ | apply q4_ | apply q5_)); exact HO360.out)) k_ hk, Kd.fresh' (Kd.N_lt (by (with_reducible repeat (first | apply q6_ | apply q4_ | apply q5_)); exact HO368.out)) k_ hk, Kd.freshB (g := gb339) (o := .cells #[.slice A0_0 l0_0.length c0_0, .int .i64 a0_1, .int .i64 a0_2] 24 (0, 0)) (by (with_reducible repeat (first | refine b1_ ?_ _ | refine b3_ ?_ | refine b2_ ?_ _)); exact BK339.out) k_ hk, Kd.freshB (g := gb340) (o := .cells #[.string a1_0, .slice A1_1 l1_1.length c1_1, .int .i64 a1_2, .int .i64 a1_3, .int .i64 a1_4, .int .i64 a1_5, .int .i64 a1_6, .int .i64 a1_7, .int .i64 a1_8] 27 (0, 0)) (by (with_reducible repeat (first | refine b1_ ?_ _ | refine b3_ ?_ | refine b2_ ?_ _)); exact BK340.out) k_ hk, Kd.freshB (g := gb343) (o := .cells #[.slice Ao44 y358.length co44, .int .i64 a0_1, .int .i64 a0_2] 24 (0, 0)) (by (with_reducible repeat (first | refine b1_ ?_ _ | refine b3_ ?_ | refine b2_ ?_ _)); exact BK343.out) k_ hk, Kd.freshB (g := gb344) (o := .cells #[.slice A0_0 l0_0.length c0_0, .int .i64 a0_1, .int .i64 a0_2] 24 (0, 0)) (by (with_reducible repeat (first | refine b1_ ?_ _ | refine b3_ ?_ | refine b2_ ?_ _)); exact BK344.out) k_ hk⟩) _ (Nat.le_refl _)) (Below.refl _ _) (Nat.le_refl _) (by simp) ?_; (case hd => rfl); (case hg => rfl); (case hr => first | (go_simp; done) | (go_simp; rfl)); (case hp => exact (Reps.c9 (show Kd.FK k27 _ _ (⟨a1_0, l1_1, a1_2, a1_3, a1_4, a1_5, a1_6, a1_7, a1_8⟩ : S27) [.string a1_0, .slice A1_1 l1_1.length c1_1, .int .i64 a1_2, .int .i64 a1_3, .int .i64 a1_4, .int .i64 a1_5, .int .i64 a1_6, .int .i64 a1_7, .int .i64 a1_8] from (k27_mkF _ _ (⟨a1_0, l1_1, a1_2, a1_3, a1_4, a1_5, a1_6, a1_7, a1_8⟩ : S27) (Kd.V_reads' (Kd.V_mono (ok' := (fun k_ => ((P0_0_ k_ ∨ P1_1_ k_) ∨ w.heap.size ≤ k_) ∧ some k_ ≠ (.slice Ao44 y358.length co44 : Value).ownBlock ∧ some k_ ≠ (v367 : Value).ownBlock ∧ k_ ≠ gb339 ∧ k_ ≠ gb340 ∧ k_ ≠ gb343 ∧ k_ ≠ gb344)) (HO1_1.out) (fun k_ hk => ⟨hk.1.1, ⟨hk.1.2.1, ⟨hk.2, ⟨hk.1.2.2.1, ⟨hk.1.2.2.2.1, ⟨hk.1.2.2.2.2.1, hk.1.2.2.2.2.2⟩⟩⟩⟩⟩⟩))).2.1 (Kd.V_F (Kd.V_mono (ok' := (fun k_ => ((P0_0_ k_ ∨ P1_1_ k_) ∨ w.heap.size ≤ k_) ∧ some k_ ≠ (.slice Ao44 y358.length co44 : Value).ownBlock ∧ some k_ ≠ (v367 : Value).ownBlock ∧ k_ ≠ gb339 ∧ k_ ≠ gb340 ∧ k_ ≠ gb343 ∧ k_ ≠ gb344)) (HO1_1.out) (fun k_ hk => ⟨hk.1.1, ⟨hk.1.2.1, ⟨hk.2, ⟨hk.1.2.2.1, ⟨hk.1.2.2.2.1, ⟨hk.1.2.2.2.2.1, hk.1.2.2.2.2.2⟩⟩⟩⟩⟩⟩))))) (Reps.none _ _)))
   intro v370 w51 ho52 hb hg_ hnew_
   clear hg_ hnew_
   (first | rw [← Ny369.out] at ho52 | (simp only [Int.reduceToNat] at ho52; rw [← Ny369.out] at ho52))
   have n0_ := A_ (Kd.V_elder' (by (with_reducible repeat (first | apply q3_ | apply q1_ | apply q2_)); exact HO0_0.out) (Kd.N_base ho52) hb)
   have n1_ := A_ (Kd.V_elder' (by (with_reducible repeat (first | apply q3_ | apply q1_ | apply q2_)); exact HO1_1.out) (Kd.N_base ho52) hb)
   have n2_ := A_ (Kd.V_elder' (by (with_reducible repeat (first | apply q3_ | apply q1_ | apply q2_)); exact HO349.out) (Kd.N_base ho52) hb)
   have n3_ := A_ (Kd.V_elder' (by (with_reducible repeat (first | apply q3_ | apply q1_ | apply q2_)); exact HO357.out) (Kd.N_base ho52) hb)
   have n4_ := A_ (Kd.N_elder' (by (with_reducible repeat (first | apply q6_ | apply q4_ | apply q5_)); exact HO360.out) (Kd.N_base ho52) hb)
   have n5_ := A_ (Kd.V_elder' (by (with_reducible repeat (first | apply q3_ | apply q1_ | apply q2_)); exact HO365.out) (Kd.N_base ho52) hb)
   have n6_ := A_ (Kd.V_elder' (by (with_reducible repeat (first | apply q3_ | apply q1_ | apply q2_)); exact HO379.out) (Kd.N_base ho52) hb)
   have n7_ := A_ (Kd.N_elder' (by (with_reducible repeat (first | apply q6_ | apply q4_ | apply q5_)); exact HO368.out) (Kd.N_base ho52) hb)
   have n8_ := A_ (Kd.N_lower ho52 (below_size (by repeat (first | (with_reducible first | exact HB.out | apply b7_ | apply b5_ | apply b6_ | refine b4_ ?_ GE339.out | refine b4_ ?_ GE340.out | refine b4_ ?_ GE343.out | refine b4_ ?_ GE344.out) | exact HB.out))))
   have n9_ := A_ (r6_ (by (with_reducible repeat (first | refine b1_ ?_ _ | refine b3_ ?_ | refine b2_ ?_ _)); exact BK339.out) hb)
   have n10_ := A_ (r6_ (by (with_reducible repeat (first | refine b1_ ?_ _ | refine b3_ ?_ | refine b2_ ?_ _)); exact BK340.out) hb)
   have n11_ := A_ (r6_ (by (with_reducible repeat (first | refine b1_ ?_ _ | refine b3_ ?_ | refine b2_ ?_ _)); exact BK343.out) hb)
   have n12_ := A_ (r6_ (by (with_reducible repeat (first | refine b1_ ?_ _ | refine b3_ ?_ | refine b2_ ?_ _)); exact BK344.out) hb)
   have n13_ := A_ (below_step (by repeat (first | (with_reducible first | exact HB.out | apply b7_ | apply b5_ | apply b6_ | refine b4_ ?_ GE339.out | refine b4_ ?_ GE340.out | refine b4_ ?_ GE343.out | refine b4_ ?_ GE344.out) | exact HB.out)) hb)
   clear HO0_0
   clear HO1_1
   clear HO349
   clear HO357
   clear HO360
   clear HO365
   clear HO379
   clear HO368
   clear BK339
   clear BK340
   clear BK343
   clear BK344
   clear HB
   have HO0_0 := n0_
   have HO1_1 := n1_
   have HO349 := n2_
   have HO357 := n3_
   have HO360 := n4_
   have HO365 := n5_
   have HO379 := n6_
   have HO368 := n7_
   have HO371 := n8_
   have BK339 := n9_
   have BK340 := n10_
   have BK343 := n11_
   have BK344 := n12_
   have HB := n13_
   clear n0_ n1_ n2_ n3_ n4_ n5_ n6_ n7_ n8_ n9_ n10_ n11_ n12_ n13_
   clear hb ho52
   refine hK.out _ _ ⟨(b0_ BK339.out 0).trans rfl, (b0_ BK339.out 1).trans rfl, (b0_ BK339.out 2).trans rfl, (b0_ BK340.out 0).trans rfl, (b0_ BK340.out 1).trans rfl, (b0_ BK340.out 2).trans rfl, (b0_ BK340.out 3).trans rfl, (b0_ BK340.out 4).trans rfl, (b0_ BK340.out 5).trans rfl, (b0_ BK340.out 6).trans rfl, (b0_ BK340.out 7).trans rfl, (b0_ BK340.out 8).trans rfl⟩ (fun hHeld => ?_)
   clear hK K
   refine norm_ (a' := ?_) ?_ ?_
   rotate_left
   ·show Act.put _ (some 42) _ = _
    simp only [Act.put, pb_, pc_, pd_, i64_w, i32_w]
    rfl
   exact norm_ (by simp only [putAll, Act.put, pb_, pc_, pd_]) (hCont (v367, v370) _ ⟨hHeld, (by (with_reducible repeat (first | apply q3_ | apply q1_ | apply q2_)); exact Kd.V_mono HO0_0.out (fun _ hk => ⟨hk.1.1.1, ⟨hk.1.1.2.1, ⟨hk.1.2, ⟨hk.2, ⟨hk.1.1.2.2.1, ⟨hk.1.1.2.2.2.1, ⟨hk.1.1.2.2.2.2.1, hk.1.1.2.2.2.2.2⟩⟩⟩⟩⟩⟩⟩)), (by (with_reducible repeat (first | apply q3_ | apply q1_ | apply q2_)); exact Kd.V_mono HO1_1.out (fun _ hk => ⟨hk.1.1.1, ⟨hk.1.1.2.1, ⟨hk.1.2, ⟨hk.2, ⟨hk.1.1.2.2.1, ⟨hk.1.1.2.2.2.1, ⟨hk.1.1.2.2.2.2.1, hk.1.1.2.2.2.2.2⟩⟩⟩⟩⟩⟩⟩)), (by (with_reducible repeat (first | apply q3_ | apply q1_ | apply q2_)); exact Kd.V_mono HO349.out (fun _ hk => ⟨hk.1.1.1, ⟨hk.1.1.2.1, ⟨hk.1.2, ⟨hk.2, ⟨hk.1.1.2.2.1, ⟨hk.1.1.2.2.2.1, ⟨hk.1.1.2.2.2.2.1, hk.1.1.2.2.2.2.2⟩⟩⟩⟩⟩⟩⟩)), (by (with_reducible repeat (first | apply q3_ | apply q1_ | apply q2_)); exact Kd.V_mono HO357.out (fun _ hk => ⟨hk.1.1.1, ⟨hk.1.1.2.1, ⟨hk.1.2, ⟨hk.2, ⟨hk.1.1.2.2.1, ⟨hk.1.1.2.2.2.1, ⟨hk.1.1.2.2.2.2.1, hk.1.1.2.2.2.2.2⟩⟩⟩⟩⟩⟩⟩)), (by (with_reducible repeat (first | apply q6_ | apply q4_ | apply q5_)); exact Kd.N_mono HO360.out (fun _ hk => ⟨hk.1.1.1, ⟨hk.1.2, ⟨hk.2, ⟨hk.1.1.2.1, ⟨hk.1.1.2.2.1, ⟨hk.1.1.2.2.2.1, hk.1.1.2.2.2.2⟩⟩⟩⟩⟩⟩)), (by (with_reducible repeat (first | apply q3_ | apply q1_ | apply q2_)); exact Kd.V_mono HO365.out (fun _ hk => ⟨hk.1.1.1, ⟨hk.1.1.2.1, ⟨hk.1.2, ⟨hk.2, ⟨hk.1.1.2.2.1, ⟨hk.1.1.2.2.2.1, ⟨hk.1.1.2.2.2.2.1, hk.1.1.2.2.2.2.2⟩⟩⟩⟩⟩⟩⟩)), (by (with_reducible repeat (first | apply q6_ | apply q4_ | apply q5_)); exact Kd.N_mono HO368.out (fun _ hk => ⟨hk.1.1, ⟨hk.1.2.1, ⟨hk.2, ⟨hk.1.2.2.1, ⟨hk.1.2.2.2.1, ⟨hk.1.2.2.2.2.1, hk.1.2.2.2.2.2⟩⟩⟩⟩⟩⟩)), (by (with_reducible repeat (first | apply q6_ | apply q4_ | apply q5_)); exact HO371.out), (by (with_reducible repeat (first | apply q3_ | apply q1_ | apply q2_)); exact Kd.V_mono HO379.out (fun _ hk => ⟨hk.1.1.1, ⟨hk.1.1.2.1, ⟨hk.1.2, ⟨hk.2, ⟨hk.1.1.2.2.1, ⟨hk.1.1.2.2.2.1, ⟨hk.1.1.2.2.2.2.1, hk.1.1.2.2.2.2.2⟩⟩⟩⟩⟩⟩⟩)), (by (with_reducible repeat (first | refine b1_ ?_ _ | refine b3_ ?_ | refine b2_ ?_ _)); exact BK339.out), (by (with_reducible repeat (first | refine b1_ ?_ _ | refine b3_ ?_ | refine b2_ ?_ _)); exact BK340.out), (by (with_reducible repeat (first | refine b1_ ?_ _ | refine b3_ ?_ | refine b2_ ?_ _)); exact BK343.out), (by (with_reducible repeat (first | refine b1_ ?_ _ | refine b3_ ?_ | refine b2_ ?_ _)); exact BK344.out), (by repeat (first | (with_reducible first | exact HB.out | apply b7_ | apply b5_ | apply b6_ | refine b4_ ?_ GE339.out | refine b4_ ?_ GE340.out | refine b4_ ?_ GE343.out | refine b4_ ?_ GE344.out) | exact HB.out))⟩)
  ·skip
   refine Kd.N_lit_step k27 _ 27 ?hg (N' := 42) ?hd (xs := ([(⟨a1_0, l1_1, a1_2, a1_3, a1_4, a1_5, a1_6, a1_7, a1_8⟩ : S27)] : List (S27))) (inner := [.string a1_0, .slice A1_1 l1_1.length c1_1, .int .i64 a1_2, .int .i64 a1_3, .int .i64 a1_4, .int .i64 a1_5, .int .i64 a1_6, .int .i64 a1_7, .int .i64 a1_8]) (ok := (fun k_ => ((P0_0_ k_ ∨ P1_1_ k_) ∨ w.heap.size ≤ k_) ∧ some k_ ≠ (.slice Ao44 y358.length co44 : Value).ownBlock ∧ k_ ≠ gb339 ∧ k_ ≠ gb340 ∧ k_ ≠ gb343 ∧ k_ ≠ gb344)) (okp := (fun k_ => ((P0_0_ k_ ∨ P1_1_ k_) ∨ w.heap.size ≤ k_) ∧ some k_ ≠ (.slice Ao44 y358.length co44 : Value).ownBlock ∧ k_ ≠ gb339 ∧ k_ ≠ gb340 ∧ k_ ≠ gb343 ∧ k_ ≠ gb344)) ?hr ?hp (fun _ hk => hk) ((show ∀ k_, w47.heap.size ≤ k_ → (fun k_ => ((P0_0_ k_ ∨ P1_1_ k_) ∨ w.heap.size ≤ k_) ∧ some k_ ≠ (.slice Ao44 y358.length co44 : Value).ownBlock ∧ k_ ≠ gb339 ∧ k_ ≠ gb340 ∧ k_ ≠ gb343 ∧ k_ ≠ gb344) k_ from fun k_ hk => ⟨(.inr (Nat.le_trans (below_size (by repeat (first | (with_reducible first | exact HB.out | apply b7_ | apply b5_ | apply b6_ | refine b4_ ?_ GE339.out | refine b4_ ?_ GE340.out | refine b4_ ?_ GE343.out | refine b4_ ?_ GE344.out) | exact HB.out))) hk)), Kd.fresh' (Kd.N_lt (by (with_reducible repeat (first | apply q6_ | apply q4_ | apply q5_)); exact HO360.out)) k_ hk, Kd.freshB (g := gb339) (o := .cells #[.slice A0_0 l0_0.length c0_0, .int .i64 a0_1, .int .i64 a0_2] 24 (0, 0)) (by (with_reducible repeat (first | refine b1_ ?_ _ | refine b3_ ?_ | refine b2_ ?_ _)); exact BK339.out) k_ hk, Kd.freshB (g := gb340) (o := .cells #[.string a1_0, .slice A1_1 l1_1.length c1_1, .int .i64 a1_2, .int .i64 a1_3, .int .i64 a1_4, .int .i64 a1_5, .int .i64 a1_6, .int .i64 a1_7, .int .i64 a1_8] 27 (0, 0)) (by (with_reducible repeat (first | refine b1_ ?_ _ | refine b3_ ?_ | refine b2_ ?_ _)); exact BK340.out) k_ hk, Kd.freshB (g := gb343) (o := .cells #[.slice Ao44 y358.length co44, .int .i64 a0_1, .int .i64 a0_2] 24 (0, 0)) (by (with_reducible repeat (first | refine b1_ ?_ _ | refine b3_ ?_ | refine b2_ ?_ _)); exact BK343.out) k_ hk, Kd.freshB (g := gb344) (o := .cells #[.slice A0_0 l0_0.length c0_0, .int .i64 a0_1, .int .i64 a0_2] 24 (0, 0)) (by (with_reducible repeat (first | refine b1_ ?_ _ | refine b3_ ?_ | refine b2_ ?_ _)); exact BK344.out) k_ hk⟩) _ (Nat.le_refl _)) (Below.refl _ _) (Nat.le_refl _) (by simp) ?_; (case hd => rfl); (case hg => rfl); (case hr => first | (go_simp; done) | (go_simp; rfl)); (case hp => exact (Reps.c9 (show Kd.FK k27 _ _ (⟨a1_0, l1_1, a1_2, a1_3, a1_4, a1_5, a1_6, a1_7, a1_8⟩ : S27) [.string a1_0, .slice A1_1 l1_1.length c1_1, .int .i64 a1_2, .int .i64 a1_3, .int .i64 a1_4, .int .i64 a1_5, .int .i64 a1_6, .int .i64 a1_7, .int .i64 a1_8] from (k27_mkF _ _ (⟨a1_0, l1_1, a1_2, a1_3, a1_4, a1_5, a1_6, a1_7, a1_8⟩ : S27) (Kd.V_reads' (Kd.V_mono (ok' := (fun k_ => ((P0_0_ k_ ∨ P1_1_ k_) ∨ w.heap.size ≤ k_) ∧ some k_ ≠ (.slice Ao44 y358.length co44 : Value).ownBlock ∧ k_ ≠ gb339 ∧ k_ ≠ gb340 ∧ k_ ≠ gb343 ∧ k_ ≠ gb344)) (HO1_1.out) (fun k_ hk => ⟨hk.1, ⟨hk.2.1, ⟨hk.2.2.1, ⟨hk.2.2.2.1, ⟨hk.2.2.2.2.1, hk.2.2.2.2.2⟩⟩⟩⟩⟩))).2.1 (Kd.V_F (Kd.V_mono (ok' := (fun k_ => ((P0_0_ k_ ∨ P1_1_ k_) ∨ w.heap.size ≤ k_) ∧ some k_ ≠ (.slice Ao44 y358.length co44 : Value).ownBlock ∧ k_ ≠ gb339 ∧ k_ ≠ gb340 ∧ k_ ≠ gb343 ∧ k_ ≠ gb344)) (HO1_1.out) (fun k_ hk => ⟨hk.1, ⟨hk.2.1, ⟨hk.2.2.1, ⟨hk.2.2.2.1, ⟨hk.2.2.2.2.1, hk.2.2.2.2.2⟩⟩⟩⟩⟩))))) (Reps.none _ _)))
   intro v370 w50 ho51 hb hg_ hnew_
   clear hg_ hnew_
   (first | rw [← Ny369.out] at ho51 | (simp only [Int.reduceToNat] at ho51; rw [← Ny369.out] at ho51))
   have n0_ := A_ (Kd.V_elder' (by (with_reducible repeat (first | apply q3_ | apply q1_ | apply q2_)); exact HO0_0.out) (Kd.N_base ho51) hb)
   have n1_ := A_ (Kd.V_elder' (by (with_reducible repeat (first | apply q3_ | apply q1_ | apply q2_)); exact HO1_1.out) (Kd.N_base ho51) hb)
   have n2_ := A_ (Kd.V_elder' (by (with_reducible repeat (first | apply q3_ | apply q1_ | apply q2_)); exact HO349.out) (Kd.N_base ho51) hb)
   have n3_ := A_ (Kd.V_elder' (by (with_reducible repeat (first | apply q3_ | apply q1_ | apply q2_)); exact HO357.out) (Kd.N_base ho51) hb)
   have n4_ := A_ (Kd.N_elder' (by (with_reducible repeat (first | apply q6_ | apply q4_ | apply q5_)); exact HO360.out) (Kd.N_base ho51) hb)
   have n5_ := A_ (Kd.V_elder' (by (with_reducible repeat (first | apply q3_ | apply q1_ | apply q2_)); exact HO365.out) (Kd.N_base ho51) hb)
   have n6_ := A_ (Kd.V_elder' (by (with_reducible repeat (first | apply q3_ | apply q1_ | apply q2_)); exact HO379.out) (Kd.N_base ho51) hb)
   have n7_ := A_ (Kd.N_lower ho51 (below_size (by repeat (first | (with_reducible first | exact HB.out | apply b7_ | apply b5_ | apply b6_ | refine b4_ ?_ GE339.out | refine b4_ ?_ GE340.out | refine b4_ ?_ GE343.out | refine b4_ ?_ GE344.out) | exact HB.out))))
   have n8_ := A_ (r6_ (by (with_reducible repeat (first | refine b1_ ?_ _ | refine b3_ ?_ | refine b2_ ?_ _)); exact BK339.out) hb)
   have n9_ := A_ (r6_ (by (with_reducible repeat (first | refine b1_ ?_ _ | refine b3_ ?_ | refine b2_ ?_ _)); exact BK340.out) hb)
   have n10_ := A_ (r6_ (by (with_reducible repeat (first | refine b1_ ?_ _ | refine b3_ ?_ | refine b2_ ?_ _)); exact BK343.out) hb)
   have n11_ := A_ (r6_ (by (with_reducible repeat (first | refine b1_ ?_ _ | refine b3_ ?_ | refine b2_ ?_ _)); exact BK344.out) hb)
   have n12_ := A_ (below_step (by repeat (first | (with_reducible first | exact HB.out | apply b7_ | apply b5_ | apply b6_ | refine b4_ ?_ GE339.out | refine b4_ ?_ GE340.out | refine b4_ ?_ GE343.out | refine b4_ ?_ GE344.out) | exact HB.out)) hb)
   clear HO0_0
   clear HO1_1
   clear HO349
   clear HO357
   clear HO360
   clear HO365
   clear HO379
   clear BK339
   clear BK340
   clear BK343
   clear BK344
   clear HB
   have HO0_0 := n0_
   have HO1_1 := n1_
   have HO349 := n2_
   have HO357 := n3_
   have HO360 := n4_
   have HO365 := n5_
   have HO379 := n6_
   have HO371 := n7_
   have BK339 := n8_
   have BK340 := n9_
   have BK343 := n10_
   have BK344 := n11_
   have HB := n12_
   clear n0_ n1_ n2_ n3_ n4_ n5_ n6_ n7_ n8_ n9_ n10_ n11_ n12_
   clear hb ho51
   refine hK.out _ _ ⟨(b0_ BK339.out 0).trans rfl, (b0_ BK339.out 1).trans rfl, (b0_ BK339.out 2).trans rfl, (b0_ BK340.out 0).trans rfl, (b0_ BK340.out 1).trans rfl, (b0_ BK340.out 2).trans rfl, (b0_ BK340.out 3).trans rfl, (b0_ BK340.out 4).trans rfl, (b0_ BK340.out 5).trans rfl, (b0_ BK340.out 6).trans rfl, (b0_ BK340.out 7).trans rfl, (b0_ BK340.out 8).trans rfl⟩ (fun hHeld => ?_)
   clear hK K
   refine norm_ (a' := ?_) ?_ ?_
   rotate_left
   ·show Act.put _ (some 42) _ = _
    simp only [Act.put, pb_, pc_, pd_, i64_w, i32_w]
    rfl
   refine one_ (i := 4) (N := some 40) #[T_,T_,T_,T_,T_,T_,T_,F_,T_,T_,T_,T_,F_,F_,F_] rfl rfl (one_of HT_.out (by kernel_rfl)) (by decide) (fun K hK => ?_)
   refine Kd.N_append_rows_step k27 (w0 := w) w.heap.size rfl (.const (.slice none 0 0)) (.tmp 39) 22 27 (.agg #[(.string ⟨#[]⟩), (.slice none 0 0), (.int .i64 0), (.int .i64 0), (.int .i64 0), (.int .i64 0), (.int .i64 0), (.int .i64 0), (.int .i64 0)]) 96 rfl Tryz.underlying22 info27 rfl (by decide) (by omega) (.slice none 0 0) ([] : List (S27)) y345 _ _ _ (fun k_ => ((P0_0_ k_ ∨ P1_1_ k_) ∨ w.heap.size ≤ k_) ∧ some k_ ≠ (.slice Ao44 y358.length co44 : Value).ownBlock ∧ some k_ ≠ (v370 : Value).ownBlock ∧ k_ ≠ gb339 ∧ k_ ≠ gb340 ∧ k_ ≠ gb343 ∧ k_ ≠ gb344) (fun k_ => ((fun k_ => ((P0_0_ k_ ∨ P1_1_ k_) ∨ w.heap.size ≤ k_) ∧ some k_ ≠ (.slice Ao44 y358.length co44 : Value).ownBlock ∧ some k_ ≠ (v370 : Value).ownBlock ∧ k_ ≠ gb339 ∧ k_ ≠ gb340 ∧ k_ ≠ gb343 ∧ k_ ≠ gb344)) k_ ∧ some k_ ≠ (.slice none 0 0 : Value).ownBlock) rfl rfl ?aO ?aR (fun _ hk => hk) ?aF ?aB ?aS ?aL ?_
   (case aR => exact (by skip; exact Kd.V_F (Kd.V_mono (ok' := (fun k_ => ((fun k_ => ((P0_0_ k_ ∨ P1_1_ k_) ∨ w.heap.size ≤ k_) ∧ some k_ ≠ (.slice Ao44 y358.length co44 : Value).ownBlock ∧ some k_ ≠ (v370 : Value).ownBlock ∧ k_ ≠ gb339 ∧ k_ ≠ gb340 ∧ k_ ≠ gb343 ∧ k_ ≠ gb344)) k_ ∧ some k_ ≠ (.slice none 0 0 : Value).ownBlock)) (HO365.out) (fun k_ hk => ⟨⟨hk.1.1, ⟨hk.1.2.1, ⟨hk.2, ⟨hk.1.2.2.1, ⟨hk.1.2.2.2.1, ⟨hk.1.2.2.2.2.1, hk.1.2.2.2.2.2⟩⟩⟩⟩⟩⟩, (by simp [Value.ownBlock])⟩))))
   (case aB => exact (by repeat (first | (with_reducible first | exact HB.out | apply b7_ | apply b5_ | apply b6_ | refine b4_ ?_ GE339.out | refine b4_ ?_ GE340.out | refine b4_ ?_ GE343.out | refine b4_ ?_ GE344.out) | exact HB.out)))
   (case aF => exact (fun k_ hk => ⟨(.inr (Nat.le_trans (below_size (by repeat (first | (with_reducible first | exact HB.out | apply b7_ | apply b5_ | apply b6_ | refine b4_ ?_ GE339.out | refine b4_ ?_ GE340.out | refine b4_ ?_ GE343.out | refine b4_ ?_ GE344.out) | exact HB.out))) hk)), Kd.fresh' (Kd.N_lt (by (with_reducible repeat (first | apply q6_ | apply q4_ | apply q5_)); exact HO360.out)) k_ hk, Kd.fresh' (Kd.N_lt (by (with_reducible repeat (first | apply q6_ | apply q4_ | apply q5_)); exact HO371.out)) k_ hk, Kd.freshB (g := gb339) (o := .cells #[.slice A0_0 l0_0.length c0_0, .int .i64 a0_1, .int .i64 a0_2] 24 (0, 0)) (by (with_reducible repeat (first | refine b1_ ?_ _ | refine b3_ ?_ | refine b2_ ?_ _)); exact BK339.out) k_ hk, Kd.freshB (g := gb340) (o := .cells #[.string a1_0, .slice A1_1 l1_1.length c1_1, .int .i64 a1_2, .int .i64 a1_3, .int .i64 a1_4, .int .i64 a1_5, .int .i64 a1_6, .int .i64 a1_7, .int .i64 a1_8] 27 (0, 0)) (by (with_reducible repeat (first | refine b1_ ?_ _ | refine b3_ ?_ | refine b2_ ?_ _)); exact BK340.out) k_ hk, Kd.freshB (g := gb343) (o := .cells #[.slice Ao44 y358.length co44, .int .i64 a0_1, .int .i64 a0_2] 24 (0, 0)) (by (with_reducible repeat (first | refine b1_ ?_ _ | refine b3_ ?_ | refine b2_ ?_ _)); exact BK343.out) k_ hk, Kd.freshB (g := gb344) (o := .cells #[.slice A0_0 l0_0.length c0_0, .int .i64 a0_1, .int .i64 a0_2] 24 (0, 0)) (by (with_reducible repeat (first | refine b1_ ?_ _ | refine b3_ ?_ | refine b2_ ?_ _)); exact BK344.out) k_ hk⟩))
   (case aO => exact ((Kd.N_nil _ _ _ _ (fun k_ => ((P0_0_ k_ ∨ P1_1_ k_) ∨ w.heap.size ≤ k_) ∧ some k_ ≠ (.slice Ao44 y358.length co44 : Value).ownBlock ∧ some k_ ≠ (v370 : Value).ownBlock ∧ k_ ≠ gb339 ∧ k_ ≠ gb340 ∧ k_ ≠ gb343 ∧ k_ ≠ gb344))))
   (case aS => exact (below_size (by repeat (first | (with_reducible first | exact HB.out | apply b7_ | apply b5_ | apply b6_ | refine b4_ ?_ GE339.out | refine b4_ ?_ GE340.out | refine b4_ ?_ GE343.out | refine b4_ ?_ GE344.out) | exact HB.out))))
   (case aL => have := LMc17.out; omega)
   intro v367 w52 ho hb hg hat
   rw [← Ny366.out] at ho
   have n0_ := A_ (Kd.V_afterv (Kd.V_apart_nil (by (with_reducible repeat (first | apply q3_ | apply q1_ | apply q2_)); exact HO0_0.out)) hg hat)
   have n1_ := A_ (Kd.V_afterv (Kd.V_apart_nil (by (with_reducible repeat (first | apply q3_ | apply q1_ | apply q2_)); exact HO1_1.out)) hg hat)
   have n2_ := A_ (blk_grown (by (with_reducible repeat (first | refine b1_ ?_ _ | refine b3_ ?_ | refine b2_ ?_ _)); exact BK339.out) hg (by simp [Value.ownBlock]))
   have n3_ := A_ (blk_grown (by (with_reducible repeat (first | refine b1_ ?_ _ | refine b3_ ?_ | refine b2_ ?_ _)); exact BK340.out) hg (by simp [Value.ownBlock]))
   have n4_ := A_ (blk_grown (by (with_reducible repeat (first | refine b1_ ?_ _ | refine b3_ ?_ | refine b2_ ?_ _)); exact BK343.out) hg (by simp [Value.ownBlock]))
   have n5_ := A_ (blk_grown (by (with_reducible repeat (first | refine b1_ ?_ _ | refine b3_ ?_ | refine b2_ ?_ _)); exact BK344.out) hg (by simp [Value.ownBlock]))
   have n6_ := A_ (Kd.V_afterv (Kd.V_apart_nil (by (with_reducible repeat (first | apply q3_ | apply q1_ | apply q2_)); exact HO349.out)) hg hat)
   have n7_ := A_ (Kd.V_afterv (Kd.V_apart_nil (by (with_reducible repeat (first | apply q3_ | apply q1_ | apply q2_)); exact HO357.out)) hg hat)
   have n8_ := A_ (Kd.N_afterv (Kd.N_apart_nil (by (with_reducible repeat (first | apply q6_ | apply q4_ | apply q5_)); exact HO360.out)) hg hat)
   have n9_ := A_ (Kd.V_afterv (Kd.V_apart_nil (by (with_reducible repeat (first | apply q3_ | apply q1_ | apply q2_)); exact HO365.out)) hg hat)
   have n10_ := A_ (Kd.V_afterv (Kd.V_apart_nil (by (with_reducible repeat (first | apply q3_ | apply q1_ | apply q2_)); exact HO379.out)) hg hat)
   have n11_ := A_ (Kd.N_afterv (Kd.N_apart_nil (by (with_reducible repeat (first | apply q6_ | apply q4_ | apply q5_)); exact HO371.out)) hg hat)
   have n12_ := A_ (hb)
   have n13_ := A_ (ho)
   clear HO0_0
   clear HO1_1
   clear BK339
   clear BK340
   clear BK343
   clear BK344
   clear HO349
   clear HO357
   clear HO360
   clear HO365
   clear HO379
   clear HO371
   clear HB
   have HO0_0 := n0_
   have HO1_1 := n1_
   have BK339 := n2_
   have BK340 := n3_
   have BK343 := n4_
   have BK344 := n5_
   have HO349 := n6_
   have HO357 := n7_
   have HO360 := n8_
   have HO365 := n9_
   have HO379 := n10_
   have HO371 := n11_
   have HB := n12_
   have HO368 := n13_
   clear n0_ n1_ n2_ n3_ n4_ n5_ n6_ n7_ n8_ n9_ n10_ n11_ n12_ n13_
   clear ho hb hg hat
   refine hK.out _ _ ⟨(b0_ BK339.out 0).trans rfl, (b0_ BK339.out 1).trans rfl, (b0_ BK339.out 2).trans rfl, (b0_ BK340.out 0).trans rfl, (b0_ BK340.out 1).trans rfl, (b0_ BK340.out 2).trans rfl, (b0_ BK340.out 3).trans rfl, (b0_ BK340.out 4).trans rfl, (b0_ BK340.out 5).trans rfl, (b0_ BK340.out 6).trans rfl, (b0_ BK340.out 7).trans rfl, (b0_ BK340.out 8).trans rfl⟩ (fun hHeld => ?_)
   clear hK K
   refine norm_ (a' := ?_) ?_ ?_
   rotate_left
   ·show Act.put _ (some 40) _ = _
    simp only [Act.put, pb_, pc_, pd_, i64_w, i32_w]
    rfl
   exact norm_ (by simp only [putAll, Act.put, pb_, pc_, pd_]) (hCont (v367, v370) _ ⟨hHeld, (by (with_reducible repeat (first | apply q3_ | apply q1_ | apply q2_)); exact Kd.V_mono HO0_0.out (fun _ hk => ⟨hk.1.1.1, ⟨hk.1.1.2.1, ⟨hk.2, ⟨hk.1.2, ⟨hk.1.1.2.2.1, ⟨hk.1.1.2.2.2.1, ⟨hk.1.1.2.2.2.2.1, hk.1.1.2.2.2.2.2⟩⟩⟩⟩⟩⟩⟩)), (by (with_reducible repeat (first | apply q3_ | apply q1_ | apply q2_)); exact Kd.V_mono HO1_1.out (fun _ hk => ⟨hk.1.1.1, ⟨hk.1.1.2.1, ⟨hk.2, ⟨hk.1.2, ⟨hk.1.1.2.2.1, ⟨hk.1.1.2.2.2.1, ⟨hk.1.1.2.2.2.2.1, hk.1.1.2.2.2.2.2⟩⟩⟩⟩⟩⟩⟩)), (by (with_reducible repeat (first | apply q3_ | apply q1_ | apply q2_)); exact Kd.V_mono HO349.out (fun _ hk => ⟨hk.1.1.1, ⟨hk.1.1.2.1, ⟨hk.2, ⟨hk.1.2, ⟨hk.1.1.2.2.1, ⟨hk.1.1.2.2.2.1, ⟨hk.1.1.2.2.2.2.1, hk.1.1.2.2.2.2.2⟩⟩⟩⟩⟩⟩⟩)), (by (with_reducible repeat (first | apply q3_ | apply q1_ | apply q2_)); exact Kd.V_mono HO357.out (fun _ hk => ⟨hk.1.1.1, ⟨hk.1.1.2.1, ⟨hk.2, ⟨hk.1.2, ⟨hk.1.1.2.2.1, ⟨hk.1.1.2.2.2.1, ⟨hk.1.1.2.2.2.2.1, hk.1.1.2.2.2.2.2⟩⟩⟩⟩⟩⟩⟩)), (by (with_reducible repeat (first | apply q6_ | apply q4_ | apply q5_)); exact Kd.N_mono HO360.out (fun _ hk => ⟨hk.1.1.1, ⟨hk.2, ⟨hk.1.2, ⟨hk.1.1.2.1, ⟨hk.1.1.2.2.1, ⟨hk.1.1.2.2.2.1, hk.1.1.2.2.2.2⟩⟩⟩⟩⟩⟩)), (by (with_reducible repeat (first | apply q3_ | apply q1_ | apply q2_)); exact Kd.V_mono HO365.out (fun _ hk => ⟨hk.1.1.1, ⟨hk.1.1.2.1, ⟨hk.2, ⟨hk.1.2, ⟨hk.1.1.2.2.1, ⟨hk.1.1.2.2.2.1, ⟨hk.1.1.2.2.2.2.1, hk.1.1.2.2.2.2.2⟩⟩⟩⟩⟩⟩⟩)), (by (with_reducible repeat (first | apply q6_ | apply q4_ | apply q5_)); exact HO368.out), (by (with_reducible repeat (first | apply q6_ | apply q4_ | apply q5_)); exact Kd.N_mono HO371.out (fun _ hk => ⟨hk.1.1, ⟨hk.1.2.1, ⟨hk.2, ⟨hk.1.2.2.1, ⟨hk.1.2.2.2.1, ⟨hk.1.2.2.2.2.1, hk.1.2.2.2.2.2⟩⟩⟩⟩⟩⟩)), (by (with_reducible repeat (first | apply q3_ | apply q1_ | apply q2_)); exact Kd.V_mono HO379.out (fun _ hk => ⟨hk.1.1.1, ⟨hk.1.1.2.1, ⟨hk.2, ⟨hk.1.2, ⟨hk.1.1.2.2.1, ⟨hk.1.1.2.2.2.1, ⟨hk.1.1.2.2.2.2.1, hk.1.1.2.2.2.2.2⟩⟩⟩⟩⟩⟩⟩)), (by (with_reducible repeat (first | refine b1_ ?_ _ | refine b3_ ?_ | refine b2_ ?_ _)); exact BK339.out), (by (with_reducible repeat (first | refine b1_ ?_ _ | refine b3_ ?_ | refine b2_ ?_ _)); exact BK340.out), (by (with_reducible repeat (first | refine b1_ ?_ _ | refine b3_ ?_ | refine b2_ ?_ _)); exact BK343.out), (by (with_reducible repeat (first | refine b1_ ?_ _ | refine b3_ ?_ | refine b2_ ?_ _)); exact BK344.out), (by repeat (first | (with_reducible first | exact HB.out | apply b7_ | apply b5_ | apply b6_ | refine b4_ ?_ GE339.out | refine b4_ ?_ GE340.out | refine b4_ ?_ GE343.out | refine b4_ ?_ GE344.out) | exact HB.out))⟩)
 rintro ⟨v367, v370⟩ w53 ⟨hS_, h0_, h1_, h2_, h3_, h4_, h5_, h6_, h7_, h8_, h9_, h10_, h11_, h12_, h13_⟩
 have n0_ : Aside0 (Kd.V k27 27 w53 w.heap.size (fun k_ => ((P0_0_ k_ ∨ P1_1_ k_) ∨ w.heap.size ≤ k_) ∧ some k_ ≠ (.slice Ao44 y358.length co44 : Value).ownBlock ∧ some k_ ≠ (v367 : Value).ownBlock ∧ some k_ ≠ (v370 : Value).ownBlock ∧ k_ ≠ gb339 ∧ k_ ≠ gb340 ∧ k_ ≠ gb343 ∧ k_ ≠ gb344) (.slice A0_0 l0_0.length c0_0) l0_0) := ⟨h0_⟩
 have n1_ : Aside0 (Kd.V k46 46 w53 w.heap.size (fun k_ => ((P0_0_ k_ ∨ P1_1_ k_) ∨ w.heap.size ≤ k_) ∧ some k_ ≠ (.slice Ao44 y358.length co44 : Value).ownBlock ∧ some k_ ≠ (v367 : Value).ownBlock ∧ some k_ ≠ (v370 : Value).ownBlock ∧ k_ ≠ gb339 ∧ k_ ≠ gb340 ∧ k_ ≠ gb343 ∧ k_ ≠ gb344) (.slice A1_1 l1_1.length c1_1) l1_1) := ⟨h1_⟩
 have n2_ : Aside0 (Kd.V k27 27 w53 w.heap.size (fun k_ => ((P0_0_ k_ ∨ P1_1_ k_) ∨ w.heap.size ≤ k_) ∧ some k_ ≠ (.slice Ao44 y358.length co44 : Value).ownBlock ∧ some k_ ≠ (v367 : Value).ownBlock ∧ some k_ ≠ (v370 : Value).ownBlock ∧ k_ ≠ gb339 ∧ k_ ≠ gb340 ∧ k_ ≠ gb343 ∧ k_ ≠ gb344) (.slice A0_0 y345.length c0_0) y345) := ⟨h2_⟩
 have n3_ : Aside0 (Kd.V k27 27 w53 w.heap.size (fun k_ => ((P0_0_ k_ ∨ P1_1_ k_) ∨ w.heap.size ≤ k_) ∧ some k_ ≠ (.slice Ao44 y358.length co44 : Value).ownBlock ∧ some k_ ≠ (v367 : Value).ownBlock ∧ some k_ ≠ (v370 : Value).ownBlock ∧ k_ ≠ gb339 ∧ k_ ≠ gb340 ∧ k_ ≠ gb343 ∧ k_ ≠ gb344) (.slice A41 y353.length c41) y353) := ⟨h3_⟩
 have n4_ : Aside0 (Kd.N k27 27 w53 w.heap.size (fun k_ => ((P0_0_ k_ ∨ P1_1_ k_) ∨ w.heap.size ≤ k_) ∧ some k_ ≠ (v367 : Value).ownBlock ∧ some k_ ≠ (v370 : Value).ownBlock ∧ k_ ≠ gb339 ∧ k_ ≠ gb340 ∧ k_ ≠ gb343 ∧ k_ ≠ gb344) (.slice Ao44 y358.length co44) y358) := ⟨h4_⟩
 have n5_ : Aside0 (Kd.V k27 27 w53 w.heap.size (fun k_ => ((P0_0_ k_ ∨ P1_1_ k_) ∨ w.heap.size ≤ k_) ∧ some k_ ≠ (.slice Ao44 y358.length co44 : Value).ownBlock ∧ some k_ ≠ (v367 : Value).ownBlock ∧ some k_ ≠ (v370 : Value).ownBlock ∧ k_ ≠ gb339 ∧ k_ ≠ gb340 ∧ k_ ≠ gb343 ∧ k_ ≠ gb344) (.slice A0_0 y345.length c0_0) y345) := ⟨h5_⟩
 have n6_ : Aside0 (Kd.N k27 27 w53 w.heap.size (fun k_ => ((P0_0_ k_ ∨ P1_1_ k_) ∨ w.heap.size ≤ k_) ∧ some k_ ≠ (.slice Ao44 y358.length co44 : Value).ownBlock ∧ some k_ ≠ (v370 : Value).ownBlock ∧ k_ ≠ gb339 ∧ k_ ≠ gb340 ∧ k_ ≠ gb343 ∧ k_ ≠ gb344) v367 y366) := ⟨h6_⟩
 have n7_ : Aside0 (Kd.N k27 27 w53 w.heap.size (fun k_ => ((P0_0_ k_ ∨ P1_1_ k_) ∨ w.heap.size ≤ k_) ∧ some k_ ≠ (.slice Ao44 y358.length co44 : Value).ownBlock ∧ some k_ ≠ (v367 : Value).ownBlock ∧ k_ ≠ gb339 ∧ k_ ≠ gb340 ∧ k_ ≠ gb343 ∧ k_ ≠ gb344) v370 y369) := ⟨h7_⟩
 have n8_ : Aside0 (Kd.V k27 27 w53 w.heap.size (fun k_ => ((P0_0_ k_ ∨ P1_1_ k_) ∨ w.heap.size ≤ k_) ∧ some k_ ≠ (.slice Ao44 y358.length co44 : Value).ownBlock ∧ some k_ ≠ (v367 : Value).ownBlock ∧ some k_ ≠ (v370 : Value).ownBlock ∧ k_ ≠ gb339 ∧ k_ ≠ gb340 ∧ k_ ≠ gb343 ∧ k_ ≠ gb344) (.slice A49 y375.length c49) y375) := ⟨h8_⟩
 have n9_ : Aside0 (w53.heap[gb339]? = some (.cells #[.slice A0_0 l0_0.length c0_0, .int .i64 a0_1, .int .i64 a0_2] 24 (0, 0))) := ⟨h9_⟩
 have n10_ : Aside0 (w53.heap[gb340]? = some (.cells #[.string a1_0, .slice A1_1 l1_1.length c1_1, .int .i64 a1_2, .int .i64 a1_3, .int .i64 a1_4, .int .i64 a1_5, .int .i64 a1_6, .int .i64 a1_7, .int .i64 a1_8] 27 (0, 0))) := ⟨h10_⟩
 have n11_ : Aside0 (w53.heap[gb343]? = some (.cells #[.slice Ao44 y358.length co44, .int .i64 a0_1, .int .i64 a0_2] 24 (0, 0))) := ⟨h11_⟩
 have n12_ : Aside0 (w53.heap[gb344]? = some (.cells #[.slice A0_0 l0_0.length c0_0, .int .i64 a0_1, .int .i64 a0_2] 24 (0, 0))) := ⟨h12_⟩
 have n13_ : Aside0 (Below w.heap.size w w53) := ⟨h13_⟩
 clear HO0_0
 clear HO1_1
 clear HO349
 clear HO357
 clear HO360
 clear BK339
 clear BK340
 clear BK343
 clear BK344
 clear HB
 clear h0_ h1_ h2_ h3_ h4_ h5_ h6_ h7_ h8_ h9_ h10_ h11_ h12_ h13_
 have HO0_0 := n0_
 have HO1_1 := n1_
 have HO349 := n2_
 have HO357 := n3_
 have HO360 := n4_
 have HO365 := n5_
 have HO368 := n6_
 have HO371 := n7_
 have HO379 := n8_
 have BK339 := n9_
 have BK340 := n10_
 have BK343 := n11_
 have BK344 := n12_
 have HB := n13_
 clear n0_ n1_ n2_ n3_ n4_ n5_ n6_ n7_ n8_ n9_ n10_ n11_ n12_ n13_
 have hHeld : w53.cell? ⟨gb339, 0, none⟩ = some (.slice A0_0 l0_0.length c0_0) ∧ w53.cell? ⟨gb339, 1, none⟩ = some (.int .i64 a0_1) ∧ w53.cell? ⟨gb339, 2, none⟩ = some (.int .i64 a0_2) ∧ w53.cell? ⟨gb340, 0, none⟩ = some (.string a1_0) ∧ w53.cell? ⟨gb340, 1, none⟩ = some (.slice A1_1 l1_1.length c1_1) ∧ w53.cell? ⟨gb340, 2, none⟩ = some (.int .i64 a1_2) ∧ w53.cell? ⟨gb340, 3, none⟩ = some (.int .i64 a1_3) ∧ w53.cell? ⟨gb340, 4, none⟩ = some (.int .i64 a1_4) ∧ w53.cell? ⟨gb340, 5, none⟩ = some (.int .i64 a1_5) ∧ w53.cell? ⟨gb340, 6, none⟩ = some (.int .i64 a1_6) ∧ w53.cell? ⟨gb340, 7, none⟩ = some (.int .i64 a1_7) ∧ w53.cell? ⟨gb340, 8, none⟩ = some (.int .i64 a1_8) := hS_
 obtain ⟨Ao55, co55, eo55⟩ := Kd.N_slice HO371.out
 (first | subst eo55 | (injection eo55 with f1_ f2_ f3_; have f4_ := f1_.symm; have f5_ := f3_.symm; clear f1_ f2_ f3_; subst f4_; subst f5_))
 refine norm_ (a' := ?_) ?_ ?_
 rotate_left
 ·simp only [putAll, Act.put, pb_, pc_, pd_]
  rfl
 refine one_ (i := 7) (N := some 43) #[T_,T_,T_,T_,T_,T_,T_,T_,T_,T_,T_,T_,F_,F_,F_] rfl rfl (one_of HT_.out (by kernel_rfl)) (by decide) (fun K hK => ?_)
 refine Kd.N_append_rows_step k27 (w0 := w) w.heap.size (by rfl) (.tmp 40) (.tmp 42) 22 27 (.agg #[(.string ⟨#[]⟩), (.slice none 0 0), (.int .i64 0), (.int .i64 0), (.int .i64 0), (.int .i64 0), (.int .i64 0), (.int .i64 0), (.int .i64 0)]) 96 rfl Tryz.underlying22 info27 rfl (by decide) (by omega) v367 y366 y369 _ _ _ (fun k_ => ((P0_0_ k_ ∨ P1_1_ k_) ∨ w.heap.size ≤ k_) ∧ some k_ ≠ (.slice Ao44 y358.length co44 : Value).ownBlock ∧ k_ ≠ gb339 ∧ k_ ≠ gb340 ∧ k_ ≠ gb343 ∧ k_ ≠ gb344) (fun k_ => ((fun k_ => ((P0_0_ k_ ∨ P1_1_ k_) ∨ w.heap.size ≤ k_) ∧ some k_ ≠ (.slice Ao44 y358.length co44 : Value).ownBlock ∧ k_ ≠ gb339 ∧ k_ ≠ gb340 ∧ k_ ≠ gb343 ∧ k_ ≠ gb344)) k_ ∧ some k_ ≠ (v367 : Value).ownBlock) rfl rfl ?aO ?aR (fun _ hk => hk) ?aF ?aB ?aS ?aL ?_
 (case aR => exact (by skip; exact Kd.N_F (Kd.N_mono (ok' := (fun k_ => ((fun k_ => ((P0_0_ k_ ∨ P1_1_ k_) ∨ w.heap.size ≤ k_) ∧ some k_ ≠ (.slice Ao44 y358.length co44 : Value).ownBlock ∧ k_ ≠ gb339 ∧ k_ ≠ gb340 ∧ k_ ≠ gb343 ∧ k_ ≠ gb344)) k_ ∧ some k_ ≠ (v367 : Value).ownBlock)) (HO371.out) (fun k_ hk => ⟨⟨hk.1, ⟨hk.2.1, ⟨hk.2.2.2.1, ⟨hk.2.2.2.2.1, ⟨hk.2.2.2.2.2.1, hk.2.2.2.2.2.2⟩⟩⟩⟩⟩, hk.2.2.1⟩))))
 (case aB => exact (by repeat (first | (with_reducible first | exact HB.out | apply b7_ | apply b5_ | apply b6_ | refine b4_ ?_ GE339.out | refine b4_ ?_ GE340.out | refine b4_ ?_ GE343.out | refine b4_ ?_ GE344.out) | exact HB.out)))
 (case aF => exact (fun k_ hk => ⟨(.inr (Nat.le_trans (below_size (by repeat (first | (with_reducible first | exact HB.out | apply b7_ | apply b5_ | apply b6_ | refine b4_ ?_ GE339.out | refine b4_ ?_ GE340.out | refine b4_ ?_ GE343.out | refine b4_ ?_ GE344.out) | exact HB.out))) hk)), Kd.fresh' (Kd.N_lt (by (with_reducible repeat (first | apply q6_ | apply q4_ | apply q5_)); exact HO360.out)) k_ hk, Kd.freshB (g := gb339) (o := .cells #[.slice A0_0 l0_0.length c0_0, .int .i64 a0_1, .int .i64 a0_2] 24 (0, 0)) (by (with_reducible repeat (first | refine b1_ ?_ _ | refine b3_ ?_ | refine b2_ ?_ _)); exact BK339.out) k_ hk, Kd.freshB (g := gb340) (o := .cells #[.string a1_0, .slice A1_1 l1_1.length c1_1, .int .i64 a1_2, .int .i64 a1_3, .int .i64 a1_4, .int .i64 a1_5, .int .i64 a1_6, .int .i64 a1_7, .int .i64 a1_8] 27 (0, 0)) (by (with_reducible repeat (first | refine b1_ ?_ _ | refine b3_ ?_ | refine b2_ ?_ _)); exact BK340.out) k_ hk, Kd.freshB (g := gb343) (o := .cells #[.slice Ao44 y358.length co44, .int .i64 a0_1, .int .i64 a0_2] 24 (0, 0)) (by (with_reducible repeat (first | refine b1_ ?_ _ | refine b3_ ?_ | refine b2_ ?_ _)); exact BK343.out) k_ hk, Kd.freshB (g := gb344) (o := .cells #[.slice A0_0 l0_0.length c0_0, .int .i64 a0_1, .int .i64 a0_2] 24 (0, 0)) (by (with_reducible repeat (first | refine b1_ ?_ _ | refine b3_ ?_ | refine b2_ ?_ _)); exact BK344.out) k_ hk⟩))
 (case aO => exact (by (with_reducible repeat (first | apply q6_ | apply q4_ | apply q5_)); exact Kd.N_mono HO368.out (fun _ hk => ⟨hk.1, ⟨hk.2.1, ⟨hk.2.2.2.1, ⟨hk.2.2.2.2.1, ⟨hk.2.2.2.2.2.1, hk.2.2.2.2.2.2⟩⟩⟩⟩⟩)))
 (case aS => exact (below_size (by repeat (first | (with_reducible first | exact HB.out | apply b7_ | apply b5_ | apply b6_ | refine b4_ ?_ GE339.out | refine b4_ ?_ GE340.out | refine b4_ ?_ GE343.out | refine b4_ ?_ GE344.out) | exact HB.out))))
 (case aL => have := LMc18.out; omega)
 intro v373 w54 ho hb hg hat
 rw [← Ny372.out] at ho
 have n0_ := A_ (Kd.V_afterv (ok := (fun k_ => ((P0_0_ k_ ∨ P1_1_ k_) ∨ w.heap.size ≤ k_) ∧ some k_ ≠ (.slice Ao44 y358.length co44 : Value).ownBlock ∧ some k_ ≠ (.slice Ao55 y369.length co55 : Value).ownBlock ∧ k_ ≠ gb339 ∧ k_ ≠ gb340 ∧ k_ ≠ gb343 ∧ k_ ≠ gb344)) (by (with_reducible repeat (first | apply q3_ | apply q1_ | apply q2_)); exact Kd.V_mono HO0_0.out (fun _ hk => ⟨⟨hk.1, ⟨hk.2.1, ⟨hk.2.2.2.1, ⟨hk.2.2.2.2.1, ⟨hk.2.2.2.2.2.1, ⟨hk.2.2.2.2.2.2.1, hk.2.2.2.2.2.2.2⟩⟩⟩⟩⟩⟩, hk.2.2.1⟩)) hg hat)
 have n1_ := A_ (Kd.V_afterv (ok := (fun k_ => ((P0_0_ k_ ∨ P1_1_ k_) ∨ w.heap.size ≤ k_) ∧ some k_ ≠ (.slice Ao44 y358.length co44 : Value).ownBlock ∧ some k_ ≠ (.slice Ao55 y369.length co55 : Value).ownBlock ∧ k_ ≠ gb339 ∧ k_ ≠ gb340 ∧ k_ ≠ gb343 ∧ k_ ≠ gb344)) (by (with_reducible repeat (first | apply q3_ | apply q1_ | apply q2_)); exact Kd.V_mono HO1_1.out (fun _ hk => ⟨⟨hk.1, ⟨hk.2.1, ⟨hk.2.2.2.1, ⟨hk.2.2.2.2.1, ⟨hk.2.2.2.2.2.1, ⟨hk.2.2.2.2.2.2.1, hk.2.2.2.2.2.2.2⟩⟩⟩⟩⟩⟩, hk.2.2.1⟩)) hg hat)
 have n2_ := A_ (blk_grown (by (with_reducible repeat (first | refine b1_ ?_ _ | refine b3_ ?_ | refine b2_ ?_ _)); exact BK339.out) hg (Kd.N_ne HO368.out BK339.out (by decide)))
 have n3_ := A_ (blk_grown (by (with_reducible repeat (first | refine b1_ ?_ _ | refine b3_ ?_ | refine b2_ ?_ _)); exact BK340.out) hg (Kd.N_away HO368.out (fun _ hk => hk.2.2.2.2.1)))
 have n4_ := A_ (blk_grown (by (with_reducible repeat (first | refine b1_ ?_ _ | refine b3_ ?_ | refine b2_ ?_ _)); exact BK343.out) hg (Kd.N_ne HO368.out BK343.out (by decide)))
 have n5_ := A_ (blk_grown (by (with_reducible repeat (first | refine b1_ ?_ _ | refine b3_ ?_ | refine b2_ ?_ _)); exact BK344.out) hg (Kd.N_ne HO368.out BK344.out (by decide)))
 have n6_ := A_ (Kd.V_afterv (ok := (fun k_ => ((P0_0_ k_ ∨ P1_1_ k_) ∨ w.heap.size ≤ k_) ∧ some k_ ≠ (.slice Ao44 y358.length co44 : Value).ownBlock ∧ some k_ ≠ (.slice Ao55 y369.length co55 : Value).ownBlock ∧ k_ ≠ gb339 ∧ k_ ≠ gb340 ∧ k_ ≠ gb343 ∧ k_ ≠ gb344)) (by (with_reducible repeat (first | apply q3_ | apply q1_ | apply q2_)); exact Kd.V_mono HO349.out (fun _ hk => ⟨⟨hk.1, ⟨hk.2.1, ⟨hk.2.2.2.1, ⟨hk.2.2.2.2.1, ⟨hk.2.2.2.2.2.1, ⟨hk.2.2.2.2.2.2.1, hk.2.2.2.2.2.2.2⟩⟩⟩⟩⟩⟩, hk.2.2.1⟩)) hg hat)
 have n7_ := A_ (Kd.V_afterv (ok := (fun k_ => ((P0_0_ k_ ∨ P1_1_ k_) ∨ w.heap.size ≤ k_) ∧ some k_ ≠ (.slice Ao44 y358.length co44 : Value).ownBlock ∧ some k_ ≠ (.slice Ao55 y369.length co55 : Value).ownBlock ∧ k_ ≠ gb339 ∧ k_ ≠ gb340 ∧ k_ ≠ gb343 ∧ k_ ≠ gb344)) (by (with_reducible repeat (first | apply q3_ | apply q1_ | apply q2_)); exact Kd.V_mono HO357.out (fun _ hk => ⟨⟨hk.1, ⟨hk.2.1, ⟨hk.2.2.2.1, ⟨hk.2.2.2.2.1, ⟨hk.2.2.2.2.2.1, ⟨hk.2.2.2.2.2.2.1, hk.2.2.2.2.2.2.2⟩⟩⟩⟩⟩⟩, hk.2.2.1⟩)) hg hat)
 have n8_ := A_ (Kd.N_afterv (ok := (fun k_ => ((P0_0_ k_ ∨ P1_1_ k_) ∨ w.heap.size ≤ k_) ∧ some k_ ≠ (.slice Ao55 y369.length co55 : Value).ownBlock ∧ k_ ≠ gb339 ∧ k_ ≠ gb340 ∧ k_ ≠ gb343 ∧ k_ ≠ gb344)) (by (with_reducible repeat (first | apply q6_ | apply q4_ | apply q5_)); exact Kd.N_mono HO360.out (fun _ hk => ⟨⟨hk.1, ⟨hk.2.2.1, ⟨hk.2.2.2.1, ⟨hk.2.2.2.2.1, ⟨hk.2.2.2.2.2.1, hk.2.2.2.2.2.2⟩⟩⟩⟩⟩, hk.2.1⟩)) hg hat)
 have n9_ := A_ (Kd.V_afterv (ok := (fun k_ => ((P0_0_ k_ ∨ P1_1_ k_) ∨ w.heap.size ≤ k_) ∧ some k_ ≠ (.slice Ao44 y358.length co44 : Value).ownBlock ∧ some k_ ≠ (.slice Ao55 y369.length co55 : Value).ownBlock ∧ k_ ≠ gb339 ∧ k_ ≠ gb340 ∧ k_ ≠ gb343 ∧ k_ ≠ gb344)) (by (with_reducible repeat (first | apply q3_ | apply q1_ | apply q2_)); exact Kd.V_mono HO365.out (fun _ hk => ⟨⟨hk.1, ⟨hk.2.1, ⟨hk.2.2.2.1, ⟨hk.2.2.2.2.1, ⟨hk.2.2.2.2.2.1, ⟨hk.2.2.2.2.2.2.1, hk.2.2.2.2.2.2.2⟩⟩⟩⟩⟩⟩, hk.2.2.1⟩)) hg hat)
 have n10_ := A_ (Kd.V_afterv (ok := (fun k_ => ((P0_0_ k_ ∨ P1_1_ k_) ∨ w.heap.size ≤ k_) ∧ some k_ ≠ (.slice Ao44 y358.length co44 : Value).ownBlock ∧ some k_ ≠ (.slice Ao55 y369.length co55 : Value).ownBlock ∧ k_ ≠ gb339 ∧ k_ ≠ gb340 ∧ k_ ≠ gb343 ∧ k_ ≠ gb344)) (by (with_reducible repeat (first | apply q3_ | apply q1_ | apply q2_)); exact Kd.V_mono HO379.out (fun _ hk => ⟨⟨hk.1, ⟨hk.2.1, ⟨hk.2.2.2.1, ⟨hk.2.2.2.2.1, ⟨hk.2.2.2.2.2.1, ⟨hk.2.2.2.2.2.2.1, hk.2.2.2.2.2.2.2⟩⟩⟩⟩⟩⟩, hk.2.2.1⟩)) hg hat)
 have n11_ := A_ (Kd.N_afterv (ok := (fun k_ => ((P0_0_ k_ ∨ P1_1_ k_) ∨ w.heap.size ≤ k_) ∧ some k_ ≠ (.slice Ao44 y358.length co44 : Value).ownBlock ∧ k_ ≠ gb339 ∧ k_ ≠ gb340 ∧ k_ ≠ gb343 ∧ k_ ≠ gb344)) (by (with_reducible repeat (first | apply q6_ | apply q4_ | apply q5_)); exact Kd.N_mono HO371.out (fun _ hk => ⟨⟨hk.1, ⟨hk.2.1, ⟨hk.2.2.2.1, ⟨hk.2.2.2.2.1, ⟨hk.2.2.2.2.2.1, hk.2.2.2.2.2.2⟩⟩⟩⟩⟩, hk.2.2.1⟩)) hg hat)
 have n12_ := A_ (hb)
 have n13_ := A_ (ho)
 clear HO0_0
 clear HO1_1
 clear BK339
 clear BK340
 clear BK343
 clear BK344
 clear HO349
 clear HO357
 clear HO360
 clear HO365
 clear HO379
 clear HO371
 clear HB
 clear HO368
 have HO0_0 := n0_
 have HO1_1 := n1_
 have BK339 := n2_
 have BK340 := n3_
 have BK343 := n4_
 have BK344 := n5_
 have HO349 := n6_
 have HO357 := n7_
 have HO360 := n8_
 have HO365 := n9_
 have HO379 := n10_
 have HO371 := n11_
 have HB := n12_
 have HO374 := n13_
 clear n0_ n1_ n2_ n3_ n4_ n5_ n6_ n7_ n8_ n9_ n10_ n11_ n12_ n13_
 clear ho hb hg hat
 refine hK.out _ _ ⟨(b0_ BK339.out 0).trans rfl, (b0_ BK339.out 1).trans rfl, (b0_ BK339.out 2).trans rfl, (b0_ BK340.out 0).trans rfl, (b0_ BK340.out 1).trans rfl, (b0_ BK340.out 2).trans rfl, (b0_ BK340.out 3).trans rfl, (b0_ BK340.out 4).trans rfl, (b0_ BK340.out 5).trans rfl, (b0_ BK340.out 6).trans rfl, (b0_ BK340.out 7).trans rfl, (b0_ BK340.out 8).trans rfl⟩ (fun hHeld => ?_)
 clear hK K
 refine norm_ (a' := ?_) ?_ ?_
 rotate_left
 ·show Act.put _ (some 43) _ = _
  simp only [Act.put, pb_, pc_, pd_, i64_w, i32_w]
  rfl
 refine one_ (i := 12) (N := some 48) #[T_,T_,T_,T_,T_,T_,T_,T_,T_,T_,T_,T_,T_,F_,F_] rfl rfl (one_of HT_.out (by kernel_rfl)) (by decide) (fun K hK => ?_)
 refine Kd.N_append_rows_step k27 (w0 := w) w.heap.size (by rfl) (.tmp 43) (.tmp 47) 22 27 (.agg #[(.string ⟨#[]⟩), (.slice none 0 0), (.int .i64 0), (.int .i64 0), (.int .i64 0), (.int .i64 0), (.int .i64 0), (.int .i64 0), (.int .i64 0)]) 96 rfl Tryz.underlying22 info27 rfl (by decide) (by omega) v373 y372 y375 _ _ _ (fun k_ => ((P0_0_ k_ ∨ P1_1_ k_) ∨ w.heap.size ≤ k_) ∧ some k_ ≠ (.slice Ao44 y358.length co44 : Value).ownBlock ∧ k_ ≠ gb339 ∧ k_ ≠ gb340 ∧ k_ ≠ gb343 ∧ k_ ≠ gb344) (fun k_ => ((fun k_ => ((P0_0_ k_ ∨ P1_1_ k_) ∨ w.heap.size ≤ k_) ∧ some k_ ≠ (.slice Ao44 y358.length co44 : Value).ownBlock ∧ k_ ≠ gb339 ∧ k_ ≠ gb340 ∧ k_ ≠ gb343 ∧ k_ ≠ gb344)) k_ ∧ some k_ ≠ (v373 : Value).ownBlock) rfl rfl ?aO ?aR (fun _ hk => hk) ?aF ?aB ?aS ?aL ?_
 (case aR => exact (by skip; exact Kd.V_F (Kd.V_mono (ok' := (fun k_ => ((fun k_ => ((P0_0_ k_ ∨ P1_1_ k_) ∨ w.heap.size ≤ k_) ∧ some k_ ≠ (.slice Ao44 y358.length co44 : Value).ownBlock ∧ k_ ≠ gb339 ∧ k_ ≠ gb340 ∧ k_ ≠ gb343 ∧ k_ ≠ gb344)) k_ ∧ some k_ ≠ (v373 : Value).ownBlock)) (HO379.out) (fun k_ hk => ⟨⟨hk.1.1, ⟨hk.1.2.1, ⟨hk.1.2.2.2.1, ⟨hk.1.2.2.2.2.1, ⟨hk.1.2.2.2.2.2.1, hk.1.2.2.2.2.2.2⟩⟩⟩⟩⟩, hk.2⟩))))
 (case aB => exact (by repeat (first | (with_reducible first | exact HB.out | apply b7_ | apply b5_ | apply b6_ | refine b4_ ?_ GE339.out | refine b4_ ?_ GE340.out | refine b4_ ?_ GE343.out | refine b4_ ?_ GE344.out) | exact HB.out)))
 (case aF => exact (fun k_ hk => ⟨(.inr (Nat.le_trans (below_size (by repeat (first | (with_reducible first | exact HB.out | apply b7_ | apply b5_ | apply b6_ | refine b4_ ?_ GE339.out | refine b4_ ?_ GE340.out | refine b4_ ?_ GE343.out | refine b4_ ?_ GE344.out) | exact HB.out))) hk)), Kd.fresh' (Kd.N_lt (by (with_reducible repeat (first | apply q6_ | apply q4_ | apply q5_)); exact HO360.out)) k_ hk, Kd.freshB (g := gb339) (o := .cells #[.slice A0_0 l0_0.length c0_0, .int .i64 a0_1, .int .i64 a0_2] 24 (0, 0)) (by (with_reducible repeat (first | refine b1_ ?_ _ | refine b3_ ?_ | refine b2_ ?_ _)); exact BK339.out) k_ hk, Kd.freshB (g := gb340) (o := .cells #[.string a1_0, .slice A1_1 l1_1.length c1_1, .int .i64 a1_2, .int .i64 a1_3, .int .i64 a1_4, .int .i64 a1_5, .int .i64 a1_6, .int .i64 a1_7, .int .i64 a1_8] 27 (0, 0)) (by (with_reducible repeat (first | refine b1_ ?_ _ | refine b3_ ?_ | refine b2_ ?_ _)); exact BK340.out) k_ hk, Kd.freshB (g := gb343) (o := .cells #[.slice Ao44 y358.length co44, .int .i64 a0_1, .int .i64 a0_2] 24 (0, 0)) (by (with_reducible repeat (first | refine b1_ ?_ _ | refine b3_ ?_ | refine b2_ ?_ _)); exact BK343.out) k_ hk, Kd.freshB (g := gb344) (o := .cells #[.slice A0_0 l0_0.length c0_0, .int .i64 a0_1, .int .i64 a0_2] 24 (0, 0)) (by (with_reducible repeat (first | refine b1_ ?_ _ | refine b3_ ?_ | refine b2_ ?_ _)); exact BK344.out) k_ hk⟩))
 (case aO => exact (by (with_reducible repeat (first | apply q6_ | apply q4_ | apply q5_)); exact HO374.out))
 (case aS => exact (below_size (by repeat (first | (with_reducible first | exact HB.out | apply b7_ | apply b5_ | apply b6_ | refine b4_ ?_ GE339.out | refine b4_ ?_ GE340.out | refine b4_ ?_ GE343.out | refine b4_ ?_ GE344.out) | exact HB.out))))
 (case aL => have := LMc21.out; omega)
 intro v381 w56 ho hb hg hat
 rw [← Ny380.out] at ho
 have n0_ := A_ (Kd.V_afterv (ok := (fun k_ => ((P0_0_ k_ ∨ P1_1_ k_) ∨ w.heap.size ≤ k_) ∧ some k_ ≠ (.slice Ao44 y358.length co44 : Value).ownBlock ∧ some k_ ≠ (.slice Ao55 y369.length co55 : Value).ownBlock ∧ k_ ≠ gb339 ∧ k_ ≠ gb340 ∧ k_ ≠ gb343 ∧ k_ ≠ gb344)) (by (with_reducible repeat (first | apply q3_ | apply q1_ | apply q2_)); exact HO0_0.out) hg hat)
 have n1_ := A_ (Kd.V_afterv (ok := (fun k_ => ((P0_0_ k_ ∨ P1_1_ k_) ∨ w.heap.size ≤ k_) ∧ some k_ ≠ (.slice Ao44 y358.length co44 : Value).ownBlock ∧ some k_ ≠ (.slice Ao55 y369.length co55 : Value).ownBlock ∧ k_ ≠ gb339 ∧ k_ ≠ gb340 ∧ k_ ≠ gb343 ∧ k_ ≠ gb344)) (by (with_reducible repeat (first | apply q3_ | apply q1_ | apply q2_)); exact HO1_1.out) hg hat)
 have n2_ := A_ (blk_grown (by (with_reducible repeat (first | refine b1_ ?_ _ | refine b3_ ?_ | refine b2_ ?_ _)); exact BK339.out) hg (Kd.N_ne HO374.out BK339.out (by decide)))
 have n3_ := A_ (blk_grown (by (with_reducible repeat (first | refine b1_ ?_ _ | refine b3_ ?_ | refine b2_ ?_ _)); exact BK340.out) hg (Kd.N_away HO374.out (fun _ hk => hk.2.2.2.1)))
 have n4_ := A_ (blk_grown (by (with_reducible repeat (first | refine b1_ ?_ _ | refine b3_ ?_ | refine b2_ ?_ _)); exact BK343.out) hg (Kd.N_ne HO374.out BK343.out (by decide)))
 have n5_ := A_ (blk_grown (by (with_reducible repeat (first | refine b1_ ?_ _ | refine b3_ ?_ | refine b2_ ?_ _)); exact BK344.out) hg (Kd.N_ne HO374.out BK344.out (by decide)))
 have n6_ := A_ (Kd.V_afterv (ok := (fun k_ => ((P0_0_ k_ ∨ P1_1_ k_) ∨ w.heap.size ≤ k_) ∧ some k_ ≠ (.slice Ao44 y358.length co44 : Value).ownBlock ∧ some k_ ≠ (.slice Ao55 y369.length co55 : Value).ownBlock ∧ k_ ≠ gb339 ∧ k_ ≠ gb340 ∧ k_ ≠ gb343 ∧ k_ ≠ gb344)) (by (with_reducible repeat (first | apply q3_ | apply q1_ | apply q2_)); exact HO349.out) hg hat)
 have n7_ := A_ (Kd.V_afterv (ok := (fun k_ => ((P0_0_ k_ ∨ P1_1_ k_) ∨ w.heap.size ≤ k_) ∧ some k_ ≠ (.slice Ao44 y358.length co44 : Value).ownBlock ∧ some k_ ≠ (.slice Ao55 y369.length co55 : Value).ownBlock ∧ k_ ≠ gb339 ∧ k_ ≠ gb340 ∧ k_ ≠ gb343 ∧ k_ ≠ gb344)) (by (with_reducible repeat (first | apply q3_ | apply q1_ | apply q2_)); exact HO357.out) hg hat)
 have n8_ := A_ (Kd.N_afterv (ok := (fun k_ => ((P0_0_ k_ ∨ P1_1_ k_) ∨ w.heap.size ≤ k_) ∧ some k_ ≠ (.slice Ao55 y369.length co55 : Value).ownBlock ∧ k_ ≠ gb339 ∧ k_ ≠ gb340 ∧ k_ ≠ gb343 ∧ k_ ≠ gb344)) (by (with_reducible repeat (first | apply q6_ | apply q4_ | apply q5_)); exact HO360.out) hg hat)
 have n9_ := A_ (Kd.V_afterv (ok := (fun k_ => ((P0_0_ k_ ∨ P1_1_ k_) ∨ w.heap.size ≤ k_) ∧ some k_ ≠ (.slice Ao44 y358.length co44 : Value).ownBlock ∧ some k_ ≠ (.slice Ao55 y369.length co55 : Value).ownBlock ∧ k_ ≠ gb339 ∧ k_ ≠ gb340 ∧ k_ ≠ gb343 ∧ k_ ≠ gb344)) (by (with_reducible repeat (first | apply q3_ | apply q1_ | apply q2_)); exact HO365.out) hg hat)
 have n10_ := A_ (Kd.V_afterv (ok := (fun k_ => ((P0_0_ k_ ∨ P1_1_ k_) ∨ w.heap.size ≤ k_) ∧ some k_ ≠ (.slice Ao44 y358.length co44 : Value).ownBlock ∧ some k_ ≠ (.slice Ao55 y369.length co55 : Value).ownBlock ∧ k_ ≠ gb339 ∧ k_ ≠ gb340 ∧ k_ ≠ gb343 ∧ k_ ≠ gb344)) (by (with_reducible repeat (first | apply q3_ | apply q1_ | apply q2_)); exact HO379.out) hg hat)
 have n11_ := A_ (Kd.N_afterv (ok := (fun k_ => ((P0_0_ k_ ∨ P1_1_ k_) ∨ w.heap.size ≤ k_) ∧ some k_ ≠ (.slice Ao44 y358.length co44 : Value).ownBlock ∧ k_ ≠ gb339 ∧ k_ ≠ gb340 ∧ k_ ≠ gb343 ∧ k_ ≠ gb344)) (by (with_reducible repeat (first | apply q6_ | apply q4_ | apply q5_)); exact HO371.out) hg hat)
 have n12_ := A_ (hb)
 have n13_ := A_ (ho)
 clear HO0_0
 clear HO1_1
 clear BK339
 clear BK340
 clear BK343
 clear BK344
 clear HO349
 clear HO357
 clear HO360
 clear HO365
 clear HO379
 clear HO371
 clear HB
 clear HO374
 have HO0_0 := n0_
 have HO1_1 := n1_
 have BK339 := n2_
 have BK340 := n3_
 have BK343 := n4_
 have BK344 := n5_
 have HO349 := n6_
 have HO357 := n7_
 have HO360 := n8_
 have HO365 := n9_
 have HO379 := n10_
 have HO371 := n11_
 have HB := n12_
 have HO382 := n13_
 clear n0_ n1_ n2_ n3_ n4_ n5_ n6_ n7_ n8_ n9_ n10_ n11_ n12_ n13_
 clear ho hb hg hat
 obtain ⟨Ao57, co57, eo57⟩ := Kd.N_slice HO382.out
 (first | subst eo57 | (injection eo57 with f1_ f2_ f3_; have f4_ := f1_.symm; have f5_ := f3_.symm; clear f1_ f2_ f3_; subst f4_; subst f5_))
 refine hK.out _ _ ⟨(b0_ BK339.out 0).trans rfl, (b0_ BK339.out 1).trans rfl, (b0_ BK339.out 2).trans rfl, (b0_ BK340.out 0).trans rfl, (b0_ BK340.out 1).trans rfl, (b0_ BK340.out 2).trans rfl, (b0_ BK340.out 3).trans rfl, (b0_ BK340.out 4).trans rfl, (b0_ BK340.out 5).trans rfl, (b0_ BK340.out 6).trans rfl, (b0_ BK340.out 7).trans rfl, (b0_ BK340.out 8).trans rfl⟩ (fun hHeld => ?_)
 clear hK K
 refine norm_ (a' := ?_) ?_ ?_
 rotate_left
 ·show Act.put _ (some 48) _ = _
  simp only [Act.put, pb_, pc_, pd_, i64_w, i32_w]
  rfl
 refine pure_ (i := 13) (N := some 49) (v := ?_) (a' := ?_) #[T_,T_,T_,T_,T_,T_,T_,T_,T_,T_,T_,T_,T_,T_,F_] rfl rfl (any_of HT_.out (by kernel_rfl)) (fun _ _ _ h => h) (Or.inl ⟨by rfl, ?_⟩) ?_ ?_
 rotate_left
 ·intro w'
  go_simp
  with_reducible rfl
 rotate_left
 ·simp only [Act.put, pb_, pc_, pd_, i64_w, i32_w]
  rfl
 refine one_ (i := 14) (N := none) #[T_,T_,T_,T_,T_,T_,T_,T_,T_,T_,T_,T_,T_,T_,T_] rfl rfl (one_of HT_.out (by kernel_rfl)) (by decide) (fun K hK => ?_)
 have hs58 : w56.cell? ⟨gb344, 0, none⟩ = some (.slice A0_0 l0_0.length c0_0) := (b0_ BK344.out 0).trans rfl
 have hfs58 := blk_frozen BK344.out 0
 have hns58_0 := NB339_344.out
 have hns58_1 := NB340_344.out
 have hns58_2 := NB343_344.out
 have hms58_0 := NB344_339.out
 have hms58_1 := NB344_340.out
 have hms58_2 := NB344_343.out
 refine skip_ (w1 := ?_) (by rfl) rfl ?_ ?_
 rotate_left
 ·go_simp
  rfl
 refine hK.out _ _ ⟨((cell_far (p := ⟨gb344, _, none⟩) NB339_344.out _).trans (hHeld.1)), ((cell_far (p := ⟨gb344, _, none⟩) NB339_344.out _).trans (hHeld.2.1)), ((cell_far (p := ⟨gb344, _, none⟩) NB339_344.out _).trans (hHeld.2.2.1)), ((cell_far (p := ⟨gb344, _, none⟩) NB340_344.out _).trans (hHeld.2.2.2.1)), ((cell_far (p := ⟨gb344, _, none⟩) NB340_344.out _).trans (hHeld.2.2.2.2.1)), ((cell_far (p := ⟨gb344, _, none⟩) NB340_344.out _).trans (hHeld.2.2.2.2.2.1)), ((cell_far (p := ⟨gb344, _, none⟩) NB340_344.out _).trans (hHeld.2.2.2.2.2.2.1)), ((cell_far (p := ⟨gb344, _, none⟩) NB340_344.out _).trans (hHeld.2.2.2.2.2.2.2.1)), ((cell_far (p := ⟨gb344, _, none⟩) NB340_344.out _).trans (hHeld.2.2.2.2.2.2.2.2.1)), ((cell_far (p := ⟨gb344, _, none⟩) NB340_344.out _).trans (hHeld.2.2.2.2.2.2.2.2.2.1)), ((cell_far (p := ⟨gb344, _, none⟩) NB340_344.out _).trans (hHeld.2.2.2.2.2.2.2.2.2.2.1)), ((cell_far (p := ⟨gb344, _, none⟩) NB340_344.out _).trans (hHeld.2.2.2.2.2.2.2.2.2.2.2))⟩ (fun hHeld => ?_)
 clear hK K
 refine done_ (done_of HT_.out (by kernel_rfl)) ?_
 try go_wp2
 go_loopg [10, 11] k (fun kq v10 v11 w' => ∃ (x10_1 : Bool) (x11_1 : Int), v10 = .bool x10_1 ∧ v11 = .int .i64 x11_1 ∧ Aside0 (tollhouselaw15_AuthLess.l0 kq x10_1 x11_1 l0_0 a0_1 a0_2 a1_0 l1_1 a1_2 a1_3 a1_4 a1_5 a1_6 a1_7 a1_8 y358 a0_1 a0_2 y380 a0_1 a0_2 = some r) ∧ Aside0 (kq ≤ k) ∧ Aside0 (Kd.V k27 27 w' w.heap.size (fun k_ => ((P0_0_ k_ ∨ P1_1_ k_) ∨ w.heap.size ≤ k_) ∧ some k_ ≠ ((.slice Ao44 y358.length co44) : Value).ownBlock ∧ some k_ ≠ ((.slice Ao57 y380.length co57) : Value).ownBlock ∧ k_ ≠ gb339 ∧ k_ ≠ gb340 ∧ k_ ≠ gb343 ∧ k_ ≠ gb344) (.slice A0_0 l0_0.length c0_0) l0_0) ∧ Aside0 (Kd.V k46 46 w' w.heap.size (fun k_ => ((P0_0_ k_ ∨ P1_1_ k_) ∨ w.heap.size ≤ k_) ∧ some k_ ≠ ((.slice Ao44 y358.length co44) : Value).ownBlock ∧ some k_ ≠ ((.slice Ao57 y380.length co57) : Value).ownBlock ∧ k_ ≠ gb339 ∧ k_ ≠ gb340 ∧ k_ ≠ gb343 ∧ k_ ≠ gb344) (.slice A1_1 l1_1.length c1_1) l1_1) ∧ Aside0 (Kd.N k27 27 w' w.heap.size (fun k_ => ((P0_0_ k_ ∨ P1_1_ k_) ∨ w.heap.size ≤ k_) ∧ some k_ ≠ ((.slice Ao57 y380.length co57) : Value).ownBlock ∧ k_ ≠ gb339 ∧ k_ ≠ gb340 ∧ k_ ≠ gb343 ∧ k_ ≠ gb344) (.slice Ao44 y358.length co44) y358) ∧ Aside0 (Kd.N k27 27 w' w.heap.size (fun k_ => ((P0_0_ k_ ∨ P1_1_ k_) ∨ w.heap.size ≤ k_) ∧ some k_ ≠ ((.slice Ao44 y358.length co44) : Value).ownBlock ∧ k_ ≠ gb339 ∧ k_ ≠ gb340 ∧ k_ ≠ gb343 ∧ k_ ≠ gb344) (.slice Ao57 y380.length co57) y380) ∧ Aside0 (w'.heap[gb339]? = some (.cells #[(.slice A0_0 l0_0.length c0_0), .int .i64 a0_1, .int .i64 a0_2] 24 (0, 0))) ∧ Aside0 (w'.heap[gb340]? = some (.cells #[.string a1_0, (.slice A1_1 l1_1.length c1_1), .int .i64 a1_2, .int .i64 a1_3, .int .i64 a1_4, .int .i64 a1_5, .int .i64 a1_6, .int .i64 a1_7, .int .i64 a1_8] 27 (0, 0))) ∧ Aside0 (w'.heap[gb343]? = some (.cells #[(.slice Ao44 y358.length co44), .int .i64 a0_1, .int .i64 a0_2] 24 (0, 0))) ∧ Aside0 (w'.heap[gb344]? = some (.cells #[(.slice Ao57 y380.length co57), .int .i64 a0_1, .int .i64 a0_2] 24 (0, 0))) ∧ Aside0 (Below w.heap.size w w'))
 case atStart => exact ⟨(false), (0), (by first | rfl | (simp; done) | (simp [*]; done)), (by first | rfl | (simp; done) | (simp [*]; done)), H', ⟨Nat.le_refl _⟩, ⟨by (with_reducible repeat (first | apply q3_ | apply q1_ | apply q2_)); exact Kd.V_mono (Kd.V_far (p := ⟨gb344, 0, none⟩) (Kd.V_mono HO0_0.out (fun k_ hk => (⟨hk, hk.1.2.2.2.2.2.2⟩ : _ ∧ k_ ≠ gb344))) (fun _ hk => hk.2) (.slice Ao57 y380.length co57)) (fun _ hk => ⟨hk.1.1.1, ⟨hk.1.1.2.1, ⟨hk.1.2, ⟨hk.1.1.2.2.2.1, ⟨hk.1.1.2.2.2.2.1, ⟨hk.1.1.2.2.2.2.2.1, hk.1.1.2.2.2.2.2.2⟩⟩⟩⟩⟩⟩)⟩, ⟨by (with_reducible repeat (first | apply q3_ | apply q1_ | apply q2_)); exact Kd.V_mono (Kd.V_far (p := ⟨gb344, 0, none⟩) (Kd.V_mono HO1_1.out (fun k_ hk => (⟨hk, hk.1.2.2.2.2.2.2⟩ : _ ∧ k_ ≠ gb344))) (fun _ hk => hk.2) (.slice Ao57 y380.length co57)) (fun _ hk => ⟨hk.1.1.1, ⟨hk.1.1.2.1, ⟨hk.1.2, ⟨hk.1.1.2.2.2.1, ⟨hk.1.1.2.2.2.2.1, ⟨hk.1.1.2.2.2.2.2.1, hk.1.1.2.2.2.2.2.2⟩⟩⟩⟩⟩⟩)⟩, ⟨by (with_reducible repeat (first | apply q6_ | apply q4_ | apply q5_)); exact Kd.N_mono (Kd.N_far (p := ⟨gb344, 0, none⟩) (Kd.N_mono HO360.out (fun k_ hk => (⟨hk, hk.1.2.2.2.2.2⟩ : _ ∧ k_ ≠ gb344))) (fun _ hk => hk.2) (.slice Ao57 y380.length co57)) (fun _ hk => ⟨hk.1.1.1, ⟨hk.1.2, ⟨hk.1.1.2.2.1, ⟨hk.1.1.2.2.2.1, ⟨hk.1.1.2.2.2.2.1, hk.1.1.2.2.2.2.2⟩⟩⟩⟩⟩)⟩, ⟨by (with_reducible repeat (first | apply q6_ | apply q4_ | apply q5_)); exact Kd.N_mono (Kd.N_far (p := ⟨gb344, 0, none⟩) (Kd.N_mono HO382.out (fun k_ hk => (⟨hk, hk.2.2.2.2.2⟩ : _ ∧ k_ ≠ gb344))) (fun _ hk => hk.2) (.slice Ao57 y380.length co57)) (fun _ hk => ⟨hk.1.1, ⟨hk.1.2.1, ⟨hk.1.2.2.1, ⟨hk.1.2.2.2.1, ⟨hk.1.2.2.2.2.1, hk.1.2.2.2.2.2⟩⟩⟩⟩⟩)⟩, ⟨by (with_reducible repeat (first | refine b1_ ?_ _ | refine b3_ ?_ | refine b2_ ?_ _)); refine blk_far ?_ NB339_344.out _; (with_reducible repeat (first | refine b1_ ?_ _ | refine b3_ ?_ | refine b2_ ?_ _)); exact BK339.out⟩, ⟨by (with_reducible repeat (first | refine b1_ ?_ _ | refine b3_ ?_ | refine b2_ ?_ _)); refine blk_far ?_ NB340_344.out _; (with_reducible repeat (first | refine b1_ ?_ _ | refine b3_ ?_ | refine b2_ ?_ _)); exact BK340.out⟩, ⟨by (with_reducible repeat (first | refine b1_ ?_ _ | refine b3_ ?_ | refine b2_ ?_ _)); refine blk_far ?_ NB343_344.out _; (with_reducible repeat (first | refine b1_ ?_ _ | refine b3_ ?_ | refine b2_ ?_ _)); exact BK343.out⟩, ⟨by (with_reducible repeat (first | refine b1_ ?_ _ | refine b3_ ?_ | refine b2_ ?_ _)); refine blk_put (cs := #[.slice A0_0 l0_0.length c0_0, .int .i64 a0_1, .int .i64 a0_2]) ?_ 0 _ rfl; (with_reducible repeat (first | refine b1_ ?_ _ | refine b3_ ?_ | refine b2_ ?_ _)); exact BK344.out⟩, ⟨by repeat (first | (with_reducible first | exact HB.out | apply b7_ | apply b5_ | apply b6_ | refine b4_ ?_ GE339.out | refine b4_ ?_ GE340.out | refine b4_ ?_ GE343.out | refine b4_ ?_ GE344.out) | exact HB.out)⟩⟩
 case round =>
  clear H'
  try clear c1
  try clear c2
  try clear p2
  try clear c4
  try clear q4
  try clear c9
  try clear c17
  try clear c18
  try clear c21
  try clear c41
  try clear q48
  try clear c49
  try clear q49
  try clear q049
  try clear q48
  try clear q49
  (try clear BK339)
  (try clear BK340)
  (try clear BK343)
  (try clear BK344)
  obtain ⟨x10_1, x11_1, rfl, rfl, HA, HK1, HO_340000, HO_341001, HO_344000, HO_345000, BK339, BK340, BK343, BK344, HB⟩ := hrel
  cases gk with
  | zero => exact absurd HA.out (by simp [tollhouselaw15_AuthLess.l0])
  | succ k1 =>
   have H := HA.out
   clear HA
   simp only [tollhouselaw15_AuthLess.l0] at H
   by_cases c59 : x11_1 < (l0_0.length : Int)
   ·rw [if_pos c59] at H
    have c59b0 : decide (x11_1 < (l0_0.length : Int)) = true := decide_eq_true c59
    clear c59
    by_cases c60 : x10_1 = true
    ·subst c60
     rw [if_pos rfl] at H
     have H' := A_ H
     clear H
     have hnb61 := NB339_340.out
     have hnc61 := NB340_339.out
     have hnb62 := NB339_343.out
     have hnc62 := NB343_339.out
     have hnb63 := NB339_344.out
     have hnc63 := NB344_339.out
     have hcz64_0 : wr.cell? ⟨gb339, 0, none⟩ = some (.slice A0_0 l0_0.length c0_0) := (b0_ BK339.out 0).trans rfl
     have hcz64_1 : wr.cell? ⟨gb339, 1, none⟩ = some (.int .i64 a0_1) := (b0_ BK339.out 1).trans rfl
     have hcz64_2 : wr.cell? ⟨gb339, 2, none⟩ = some (.int .i64 a0_2) := (b0_ BK339.out 2).trans rfl
     have hfz64_0 := blk_frozen BK339.out 0
     have hfz64_1 := blk_frozen BK339.out 1
     have hfz64_2 := blk_frozen BK339.out 2
     try go_wp2
     have n0_ := A_ (q2_ HO_340000.out)
     have n1_ := A_ (q2_ HO_341001.out)
     have n2_ := A_ (q5_ HO_344000.out)
     have n3_ := A_ (q5_ HO_345000.out)
     have n4_ := A_ (b3_ BK339.out)
     have n5_ := A_ (b3_ BK340.out)
     have n6_ := A_ (b3_ BK343.out)
     have n7_ := A_ (b3_ BK344.out)
     have n8_ := A_ (b6_ HB.out)
     clear HO_340000
     clear HO_341001
     clear HO_344000
     clear HO_345000
     clear BK339
     clear BK340
     clear BK343
     clear BK344
     clear HB
     have HO_340000 := n0_
     have HO_341001 := n1_
     have HO_344000 := n2_
     have HO_345000 := n3_
     have BK339 := n4_
     have BK340 := n5_
     have BK343 := n6_
     have BK344 := n7_
     have HB := n8_
     clear n0_ n1_ n2_ n3_ n4_ n5_ n6_ n7_ n8_
     refine start_ (n := 13) (S := fun w' => True) (ds := []) #[F_,F_,F_,F_,F_,F_,F_,F_,F_,F_,F_,F_,F_] (by kernel_rfl) rfl rfl trivial (fun hHeld => ?_); refine with_tabW tollhouselaw15_AuthLess.tab11 tollhouselaw15_AuthLess.bits11 (fun HT_ HW_ => ?_)
     generalize wr.drew = w65 at HO_340000 HO_341001 HO_344000 HO_345000 BK339 BK340 BK343 BK344 HB hHeld ⊢
     refine pure_ (i := 0) (N := some 57) (v := ?_) (a' := ?_) #[T_,F_,F_,F_,F_,F_,F_,F_,F_,F_,F_,F_,F_] rfl rfl (any_of HT_.out (by kernel_rfl)) (fun _ _ _ h => h) (Or.inl ⟨by rfl, ?_⟩) ?_ ?_
     rotate_left
     ·intro w'
      go_simp
      with_reducible rfl
     rotate_left
     ·simp only [Act.put, pb_, pc_, pd_, i64_w, i32_w]
      rfl
     refine pure_ (i := 1) (N := some 58) (v := ?_) (a' := ?_) #[T_,T_,F_,F_,F_,F_,F_,F_,F_,F_,F_,F_,F_] rfl rfl (any_of HT_.out (by kernel_rfl)) (fun _ _ _ h => h) (Or.inl ⟨by rfl, ?_⟩) ?_ ?_
     rotate_left
     ·intro w'
      go_simp
      with_reducible rfl
     rotate_left
     ·simp only [Act.put, pb_, pc_, pd_, i64_w, i32_w]
      rfl
     refine pure_ (i := 2) (N := some 59) (v := undef) (a' := ?_) #[T_,T_,T_,F_,F_,F_,F_,F_,F_,F_,F_,F_,F_] rfl rfl (any_of HT_.out (by kernel_rfl)) (fun _ _ _ h => h) (Or.inr ⟨by rfl, rfl⟩) ?_ ?_
     rotate_left
     ·simp only [Act.put, pb_, pc_, pd_, i64_w, i32_w]
      rfl
     refine pure_ (i := 3) (N := some 60) (v := undef) (a' := ?_) #[T_,T_,T_,T_,F_,F_,F_,F_,F_,F_,F_,F_,F_] rfl rfl (any_of HT_.out (by kernel_rfl)) (fun _ _ _ h => h) (Or.inr ⟨by rfl, rfl⟩) ?_ ?_
     rotate_left
     ·simp only [Act.put, pb_, pc_, pd_, i64_w, i32_w]
      rfl
     refine pure_ (i := 4) (N := some 61) (v := undef) (a' := ?_) #[T_,T_,T_,T_,T_,F_,F_,F_,F_,F_,F_,F_,F_] rfl rfl (any_of HT_.out (by kernel_rfl)) (fun _ _ _ h => h) (Or.inr ⟨by rfl, rfl⟩) ?_ ?_
     rotate_left
     ·simp only [Act.put, pb_, pc_, pd_, i64_w, i32_w]
      rfl
     refine pure_ (i := 5) (N := some 62) (v := undef) (a' := ?_) #[T_,T_,T_,T_,T_,T_,F_,F_,F_,F_,F_,F_,F_] rfl rfl (any_of HT_.out (by kernel_rfl)) (fun _ _ _ h => h) (Or.inr ⟨by rfl, rfl⟩) ?_ ?_
     rotate_left
     ·simp only [Act.put, pb_, pc_, pd_, i64_w, i32_w]
      rfl
     refine pure_ (i := 6) (N := some 63) (v := undef) (a' := ?_) #[T_,T_,T_,T_,T_,T_,T_,F_,F_,F_,F_,F_,F_] rfl rfl (any_of HT_.out (by kernel_rfl)) (fun _ _ _ h => h) (Or.inr ⟨by rfl, rfl⟩) ?_ ?_
     rotate_left
     ·simp only [Act.put, pb_, pc_, pd_, i64_w, i32_w]
      rfl
     refine pure_ (i := 7) (N := some 64) (v := undef) (a' := ?_) #[T_,T_,T_,T_,T_,T_,T_,T_,F_,F_,F_,F_,F_] rfl rfl (any_of HT_.out (by kernel_rfl)) (fun _ _ _ h => h) (Or.inr ⟨by rfl, rfl⟩) ?_ ?_
     rotate_left
     ·simp only [Act.put, pb_, pc_, pd_, i64_w, i32_w]
      rfl
     refine pure_ (i := 8) (N := some 65) (v := undef) (a' := ?_) #[T_,T_,T_,T_,T_,T_,T_,T_,T_,F_,F_,F_,F_] rfl rfl (any_of HT_.out (by kernel_rfl)) (fun _ _ _ h => h) (Or.inr ⟨by rfl, rfl⟩) ?_ ?_
     rotate_left
     ·simp only [Act.put, pb_, pc_, pd_, i64_w, i32_w]
      rfl
     refine pure_ (i := 9) (N := some 66) (v := undef) (a' := ?_) #[T_,T_,T_,T_,T_,T_,T_,T_,T_,T_,F_,F_,F_] rfl rfl (any_of HT_.out (by kernel_rfl)) (fun _ _ _ h => h) (Or.inr ⟨by rfl, rfl⟩) ?_ ?_
     rotate_left
     ·simp only [Act.put, pb_, pc_, pd_, i64_w, i32_w]
      rfl
     refine pure_ (i := 10) (N := some 67) (v := undef) (a' := ?_) #[T_,T_,T_,T_,T_,T_,T_,T_,T_,T_,T_,F_,F_] rfl rfl (any_of HT_.out (by kernel_rfl)) (fun _ _ _ h => h) (Or.inr ⟨by rfl, rfl⟩) ?_ ?_
     rotate_left
     ·simp only [Act.put, pb_, pc_, pd_, i64_w, i32_w]
      rfl
     refine pure_ (i := 11) (N := some 68) (v := ?_) (a' := ?_) #[T_,T_,T_,T_,T_,T_,T_,T_,T_,T_,T_,T_,F_] rfl rfl (any_of HT_.out (by kernel_rfl)) (fun _ _ _ h => h) (Or.inl ⟨by rfl, ?_⟩) ?_ ?_
     rotate_left
     ·intro w'
      go_simp
      with_reducible rfl
     rotate_left
     ·simp only [Act.put, pb_, pc_, pd_, i64_w, i32_w]
      rfl
     refine pure_ (i := 12) (N := some 10) (v := ?_) (a' := ?_) #[T_,T_,T_,T_,T_,T_,T_,T_,T_,T_,T_,T_,T_] rfl rfl (any_of HT_.out (by kernel_rfl)) (fun _ _ _ h => h) (Or.inl ⟨by rfl, ?_⟩) ?_ ?_
     rotate_left
     ·intro w'
      go_simp
      with_reducible rfl
     rotate_left
     ·simp only [Act.put, pb_, pc_, pd_, i64_w, i32_w]
      rfl
     refine done_ (done_of HT_.out (by kernel_rfl)) ?_
     try go_wp2
     go_roundg k1
     case measure => have := HK1.out; omega
     case rel => exact ⟨(true), (wrap64 (x11_1 + 1)), (by first | rfl | (simp; done) | (simp [*]; done)), (by first | rfl | (simp; done) | (simp [*]; done)), H', ⟨by have := HK1.out; omega⟩, ⟨by (with_reducible repeat (first | apply q3_ | apply q1_ | apply q2_)); exact HO_340000.out⟩, ⟨by (with_reducible repeat (first | apply q3_ | apply q1_ | apply q2_)); exact HO_341001.out⟩, ⟨by (with_reducible repeat (first | apply q6_ | apply q4_ | apply q5_)); exact HO_344000.out⟩, ⟨by (with_reducible repeat (first | apply q6_ | apply q4_ | apply q5_)); exact HO_345000.out⟩, ⟨by (with_reducible repeat (first | refine b1_ ?_ _ | refine b3_ ?_ | refine b2_ ?_ _)); exact BK339.out⟩, ⟨by (with_reducible repeat (first | refine b1_ ?_ _ | refine b3_ ?_ | refine b2_ ?_ _)); exact BK340.out⟩, ⟨by (with_reducible repeat (first | refine b1_ ?_ _ | refine b3_ ?_ | refine b2_ ?_ _)); exact BK343.out⟩, ⟨by (with_reducible repeat (first | refine b1_ ?_ _ | refine b3_ ?_ | refine b2_ ?_ _)); exact BK344.out⟩, ⟨by repeat (first | (with_reducible first | exact HB.out | apply b7_ | apply b5_ | apply b6_ | refine b4_ ?_ GE339.out | refine b4_ ?_ GE340.out | refine b4_ ?_ GE343.out | refine b4_ ?_ GE344.out) | exact HB.out)⟩⟩
    ·replace c60 := Bool.eq_false_iff.mpr c60
     subst c60
     rw [if_neg (show ¬ (false = true) by decide)] at H
     by_cases c66 : 0 ≤ x11_1
     rotate_left
     ·rw [if_neg c66] at H
      exact absurd H (by simp)
     rw [if_pos c66] at H
     have c66b0 : decide (0 ≤ x11_1) = true := decide_eq_true c66
     clear c66
     have H' := A_ H
     clear H
     have hnb67 := NB339_340.out
     have hnc67 := NB340_339.out
     have hnb68 := NB339_343.out
     have hnc68 := NB343_339.out
     have hnb69 := NB339_344.out
     have hnc69 := NB344_339.out
     have hcz70_0 : wr.cell? ⟨gb339, 0, none⟩ = some (.slice A0_0 l0_0.length c0_0) := (b0_ BK339.out 0).trans rfl
     have hcz70_1 : wr.cell? ⟨gb339, 1, none⟩ = some (.int .i64 a0_1) := (b0_ BK339.out 1).trans rfl
     have hcz70_2 : wr.cell? ⟨gb339, 2, none⟩ = some (.int .i64 a0_2) := (b0_ BK339.out 2).trans rfl
     have hfz70_0 := blk_frozen BK339.out 0
     have hfz70_1 := blk_frozen BK339.out 1
     have hfz70_2 := blk_frozen BK339.out 2
     try go_wp2
     have n0_ := A_ (q2_ HO_340000.out)
     have n1_ := A_ (q2_ HO_341001.out)
     have n2_ := A_ (q5_ HO_344000.out)
     have n3_ := A_ (q5_ HO_345000.out)
     have n4_ := A_ (b3_ BK339.out)
     have n5_ := A_ (b3_ BK340.out)
     have n6_ := A_ (b3_ BK343.out)
     have n7_ := A_ (b3_ BK344.out)
     have n8_ := A_ (b6_ HB.out)
     clear HO_340000
     clear HO_341001
     clear HO_344000
     clear HO_345000
     clear BK339
     clear BK340
     clear BK343
     clear BK344
     clear HB
     have HO_340000 := n0_
     have HO_341001 := n1_
     have HO_344000 := n2_
     have HO_345000 := n3_
     have BK339 := n4_
     have BK340 := n5_
     have BK343 := n6_
     have BK344 := n7_
     have HB := n8_
     clear n0_ n1_ n2_ n3_ n4_ n5_ n6_ n7_ n8_
     have p383 : 0 ≤ (x11_1 : Int) := of_decide_eq_true (by first | (with_reducible assumption) | assumption)
     have q383 : x11_1 < (l0_0.length : Int) := of_decide_eq_true (by first | (with_reducible assumption) | assumption)
     obtain ⟨ad383, A383_1, c383_1, e383, hx383_0, hx383_1, hx383_2, hx383_3, hx383_4, hx383_5, hx383_6, hx383_7, hx383_8, hl383_1, hi383_1⟩ := at_T27 (Kd.V_reads' HO_340000.out).2.2 x11_1 p383 q383
     cases e383
     obtain ⟨ce383, hce383, hMe383, hcc383⟩ := Kd.V_get HO_340000.out z27 x11_1 p383 (by first | exact q383 | exact of_decide_eq_true (by first | (with_reducible assumption) | assumption) | (have e_ := (Kd.V_reads' HO_340000.out).1; omega))
     obtain ⟨ua383_1, uc383_1, rfl, ul383_1, ge383_1⟩ := k27_openF hMe383
     have hv383_1 := hcc383 1 _ rfl
     rw [add_field _ _ 1 (by omega)] at hv383_1
     replace hv383_1 := Option.some.inj (hv383_1.symm.trans hx383_1)
     injection hv383_1 with hva_ hvn_ hvc_
     rw [hva_] at ge383_1
     rw [hvc_] at ul383_1
     have HL383_1 := A_ (show Kd.V k46 46 _ w.heap.size _ _ ((rd_T27 l0_0 x11_1).f1) from Kd.V_mk ul383_1 ge383_1)
     clear hva_ hvn_ hvc_ ge383_1 ul383_1
     clear hcc383 hce383
     have HR383_1 := A_ hi383_1
     have HC383_1 := A_ hl383_1
     clear hi383_1 hl383_1
     replace p383 := eq_true p383
     replace q383 := eq_true q383
     refine start_ (n := 13) (S := fun w' => w'.cell? ⟨gb339, 0, none⟩ = some (.slice (some ad383) l0_0.length c0_0) ∧ w'.cell? ⟨gb339, 1, none⟩ = some (.int .i64 a0_1) ∧ w'.cell? ⟨gb339, 2, none⟩ = some (.int .i64 a0_2) ∧ w'.cell? ⟨gb340, 0, none⟩ = some (.string a1_0) ∧ w'.cell? ⟨gb340, 1, none⟩ = some (.slice A1_1 l1_1.length c1_1) ∧ w'.cell? ⟨gb340, 2, none⟩ = some (.int .i64 a1_2) ∧ w'.cell? ⟨gb340, 3, none⟩ = some (.int .i64 a1_3) ∧ w'.cell? ⟨gb340, 4, none⟩ = some (.int .i64 a1_4) ∧ w'.cell? ⟨gb340, 5, none⟩ = some (.int .i64 a1_5) ∧ w'.cell? ⟨gb340, 6, none⟩ = some (.int .i64 a1_6) ∧ w'.cell? ⟨gb340, 7, none⟩ = some (.int .i64 a1_7) ∧ w'.cell? ⟨gb340, 8, none⟩ = some (.int .i64 a1_8) ∧ w'.cell? (ad383.add ((x11_1).toNat * 9)) = some (.string ((rd_T27 l0_0 x11_1).f0)) ∧ w'.cell? ⟨(ad383.add ((x11_1).toNat * 9)).block, (ad383.add ((x11_1).toNat * 9)).off + 1, none⟩ = some (.slice A383_1 ((rd_T27 l0_0 x11_1).f1).length c383_1) ∧ w'.cell? ⟨(ad383.add ((x11_1).toNat * 9)).block, (ad383.add ((x11_1).toNat * 9)).off + 2, none⟩ = some (.int .i64 ((rd_T27 l0_0 x11_1).f2)) ∧ w'.cell? ⟨(ad383.add ((x11_1).toNat * 9)).block, (ad383.add ((x11_1).toNat * 9)).off + 3, none⟩ = some (.int .i64 ((rd_T27 l0_0 x11_1).f3)) ∧ w'.cell? ⟨(ad383.add ((x11_1).toNat * 9)).block, (ad383.add ((x11_1).toNat * 9)).off + 4, none⟩ = some (.int .i64 ((rd_T27 l0_0 x11_1).f4)) ∧ w'.cell? ⟨(ad383.add ((x11_1).toNat * 9)).block, (ad383.add ((x11_1).toNat * 9)).off + 5, none⟩ = some (.int .i64 ((rd_T27 l0_0 x11_1).f5)) ∧ w'.cell? ⟨(ad383.add ((x11_1).toNat * 9)).block, (ad383.add ((x11_1).toNat * 9)).off + 6, none⟩ = some (.int .i64 ((rd_T27 l0_0 x11_1).f6)) ∧ w'.cell? ⟨(ad383.add ((x11_1).toNat * 9)).block, (ad383.add ((x11_1).toNat * 9)).off + 7, none⟩ = some (.int .i64 ((rd_T27 l0_0 x11_1).f7)) ∧ w'.cell? ⟨(ad383.add ((x11_1).toNat * 9)).block, (ad383.add ((x11_1).toNat * 9)).off + 8, none⟩ = some (.int .i64 ((rd_T27 l0_0 x11_1).f8))) (ds := []) #[F_,F_,F_,F_,F_,F_,F_,F_,F_,F_,F_,F_,F_] (by kernel_rfl) rfl rfl ⟨(b0_ BK339.out 0).trans rfl, (b0_ BK339.out 1).trans rfl, (b0_ BK339.out 2).trans rfl, (b0_ BK340.out 0).trans rfl, (b0_ BK340.out 1).trans rfl, (b0_ BK340.out 2).trans rfl, (b0_ BK340.out 3).trans rfl, (b0_ BK340.out 4).trans rfl, (b0_ BK340.out 5).trans rfl, (b0_ BK340.out 6).trans rfl, (b0_ BK340.out 7).trans rfl, (b0_ BK340.out 8).trans rfl, hx383_0, hx383_1, hx383_2, hx383_3, hx383_4, hx383_5, hx383_6, hx383_7, hx383_8⟩ (fun hHeld => ?_); refine with_tabW tollhouselaw15_AuthLess.tab11 tollhouselaw15_AuthLess.bits11 (fun HT_ HW_ => ?_)
     generalize wr.drew = w71 at HO_340000 HO_341001 HO_344000 HO_345000 BK339 BK340 BK343 BK344 HB HL383_1 HR383_1 hx383_0 hx383_1 hx383_2 hx383_3 hx383_4 hx383_5 hx383_6 hx383_7 hx383_8 hHeld ⊢
     refine pure_ (i := 0) (N := some 57) (v := ?_) (a' := ?_) #[T_,F_,F_,F_,F_,F_,F_,F_,F_,F_,F_,F_,F_] rfl rfl (any_of HT_.out (by kernel_rfl)) (fun _ _ _ h => h) (Or.inl ⟨by rfl, ?_⟩) ?_ ?_
     rotate_left
     ·intro w'
      go_simp
      with_reducible rfl
     rotate_left
     ·simp only [Act.put, pb_, pc_, pd_, i64_w, i32_w]
      rfl
     refine pure_ (i := 1) (N := some 58) (v := ?_) (a' := ?_) #[T_,T_,F_,F_,F_,F_,F_,F_,F_,F_,F_,F_,F_] rfl rfl (any_of HT_.out (by kernel_rfl)) (fun _ _ _ h => h) (Or.inl ⟨by rfl, ?_⟩) ?_ ?_
     rotate_left
     ·intro w'
      go_simp
      with_reducible rfl
     rotate_left
     ·simp only [Act.put, pb_, pc_, pd_, i64_w, i32_w]
      rfl
     refine pure_ (i := 2) (N := some 59) (v := ?_) (a' := ?_) #[T_,T_,T_,F_,F_,F_,F_,F_,F_,F_,F_,F_,F_] rfl rfl (any_of HT_.out (by kernel_rfl)) (fun _ _ _ h => h) (Or.inl ⟨by rfl, ?_⟩) ?_ ?_
     rotate_left
     ·intro w'
      go_simp
      with_reducible rfl
     rotate_left
     ·simp only [Act.put, pb_, pc_, pd_, i64_w, i32_w]
      rfl
     refine pure_ (i := 4) (N := some 61) (v := ?_) (a' := ?_) #[T_,T_,T_,F_,T_,F_,F_,F_,F_,F_,F_,F_,F_] rfl rfl (any_of HT_.out (by kernel_rfl)) (fun _ _ _ h => h) (Or.inl ⟨by rfl, ?_⟩) ?_ ?_
     rotate_left
     ·intro w'
      go_simp
      with_reducible rfl
     rotate_left
     ·simp only [Act.put, pb_, pc_, pd_, i64_w, i32_w]
      rfl
     refine pure_ (i := 8) (N := some 65) (v := ?_) (a' := ?_) #[T_,T_,T_,F_,T_,F_,F_,F_,T_,F_,F_,F_,F_] rfl rfl (any_of HT_.out (by kernel_rfl)) (fun _ _ _ h => h) (Or.inl ⟨by rfl, ?_⟩) ?_ ?_
     rotate_left
     ·intro w'
      go_simp
      with_reducible rfl
     rotate_left
     ·simp only [Act.put, pb_, pc_, pd_, i64_w, i32_w]
      rfl
     refine take_ (i := 3) (N := some 60) (v := ?_) (a' := ?_) #[T_,T_,T_,T_,T_,F_,F_,F_,T_,F_,F_,F_,F_] rfl rfl (take_ofW HT_.out HW_.out (by kernel_rfl)) (fun _ _ _ h => h) (Or.inl ⟨by rfl, ?_⟩) hHeld ?_ ?_
     rotate_left
     ·rintro w' ⟨s0, s1, s2, s3, s4, s5, s6, s7, s8, s9, s10, s11, s12, s13, s14, s15, s16, s17, s18, s19, s20⟩
      go_simp
      with_reducible rfl
     rotate_left
     ·simp only [Act.put, pb_, pc_, pd_, i64_w, i32_w]
      rfl
     refine pure_ (i := 5) (N := some 62) (v := ?_) (a' := ?_) #[T_,T_,T_,T_,T_,T_,F_,F_,T_,F_,F_,F_,F_] rfl rfl (any_of HT_.out (by kernel_rfl)) (fun _ _ _ h => h) (Or.inl ⟨by rfl, ?_⟩) ?_ ?_
     rotate_left
     ·intro w'
      go_simp
      with_reducible rfl
     rotate_left
     ·simp only [Act.put, pb_, pc_, pd_, i64_w, i32_w]
      rfl
     refine pure_ (i := 6) (N := some 63) (v := ?_) (a' := ?_) #[T_,T_,T_,T_,T_,T_,T_,F_,T_,F_,F_,F_,F_] rfl rfl (any_of HT_.out (by kernel_rfl)) (fun _ _ _ h => h) (Or.inl ⟨by rfl, ?_⟩) ?_ ?_
     rotate_left
     ·intro w'
      go_simp
      with_reducible rfl
     rotate_left
     ·simp only [Act.put, pb_, pc_, pd_, i64_w, i32_w]
      rfl
     refine take_ (i := 7) (N := some 64) (v := ?_) (a' := ?_) #[T_,T_,T_,T_,T_,T_,T_,T_,T_,F_,F_,F_,F_] rfl rfl (take_ofW HT_.out HW_.out (by kernel_rfl)) (fun _ _ _ h => h) (Or.inl ⟨by rfl, ?_⟩) hHeld ?_ ?_
     rotate_left
     ·rintro w' ⟨s0, s1, s2, s3, s4, s5, s6, s7, s8, s9, s10, s11, s12, s13, s14, s15, s16, s17, s18, s19, s20⟩
      go_simp
      with_reducible rfl
     rotate_left
     ·simp only [Act.put, pb_, pc_, pd_, i64_w, i32_w]
      rfl
     refine take_ (i := 9) (N := some 66) (v := ?_) (a' := ?_) #[T_,T_,T_,T_,T_,T_,T_,T_,T_,T_,F_,F_,F_] rfl rfl (take_ofW HT_.out HW_.out (by kernel_rfl)) (fun _ _ _ h => h) (Or.inl ⟨by rfl, ?_⟩) hHeld ?_ ?_
     rotate_left
     ·rintro w' ⟨s0, s1, s2, s3, s4, s5, s6, s7, s8, s9, s10, s11, s12, s13, s14, s15, s16, s17, s18, s19, s20⟩
      go_simp
      with_reducible rfl
     rotate_left
     ·simp only [Act.put, pb_, pc_, pd_, i64_w, i32_w]
      rfl
     refine pure_ (i := 10) (N := some 67) (v := ?_) (a' := ?_) #[T_,T_,T_,T_,T_,T_,T_,T_,T_,T_,T_,F_,F_] rfl rfl (any_of HT_.out (by kernel_rfl)) (fun _ _ _ h => h) (Or.inl ⟨by rfl, ?_⟩) ?_ ?_
     rotate_left
     ·intro w'
      go_simp
      with_reducible rfl
     rotate_left
     ·simp only [Act.put, pb_, pc_, pd_, i64_w, i32_w]
      rfl
     refine pure_ (i := 11) (N := some 68) (v := ?_) (a' := ?_) #[T_,T_,T_,T_,T_,T_,T_,T_,T_,T_,T_,T_,F_] rfl rfl (any_of HT_.out (by kernel_rfl)) (fun _ _ _ h => h) (Or.inl ⟨by rfl, ?_⟩) ?_ ?_
     rotate_left
     ·intro w'
      go_simp
      with_reducible rfl
     rotate_left
     ·simp only [Act.put, pb_, pc_, pd_, i64_w, i32_w]
      rfl
     refine pure_ (i := 12) (N := some 10) (v := ?_) (a' := ?_) #[T_,T_,T_,T_,T_,T_,T_,T_,T_,T_,T_,T_,T_] rfl rfl (any_of HT_.out (by kernel_rfl)) (fun _ _ _ h => h) (Or.inl ⟨by rfl, ?_⟩) ?_ ?_
     rotate_left
     ·intro w'
      go_simp
      with_reducible rfl
     rotate_left
     ·simp only [Act.put, pb_, pc_, pd_, i64_w, i32_w]
      rfl
     refine done_ (done_of HT_.out (by kernel_rfl)) ?_
     try go_wp2
     go_roundg k1
     case measure => have := HK1.out; omega
     case rel => exact ⟨((((rd_T27 l0_0 x11_1).f0).toList == a1_0.toList)), (wrap64 (x11_1 + 1)), (by first | rfl | (simp; done) | (simp [*]; done)), (by first | rfl | (simp; done) | (simp [*]; done)), H', ⟨by have := HK1.out; omega⟩, ⟨by (with_reducible repeat (first | apply q3_ | apply q1_ | apply q2_)); exact HO_340000.out⟩, ⟨by (with_reducible repeat (first | apply q3_ | apply q1_ | apply q2_)); exact HO_341001.out⟩, ⟨by (with_reducible repeat (first | apply q6_ | apply q4_ | apply q5_)); exact HO_344000.out⟩, ⟨by (with_reducible repeat (first | apply q6_ | apply q4_ | apply q5_)); exact HO_345000.out⟩, ⟨by (with_reducible repeat (first | refine b1_ ?_ _ | refine b3_ ?_ | refine b2_ ?_ _)); exact BK339.out⟩, ⟨by (with_reducible repeat (first | refine b1_ ?_ _ | refine b3_ ?_ | refine b2_ ?_ _)); exact BK340.out⟩, ⟨by (with_reducible repeat (first | refine b1_ ?_ _ | refine b3_ ?_ | refine b2_ ?_ _)); exact BK343.out⟩, ⟨by (with_reducible repeat (first | refine b1_ ?_ _ | refine b3_ ?_ | refine b2_ ?_ _)); exact BK344.out⟩, ⟨by repeat (first | (with_reducible first | exact HB.out | apply b7_ | apply b5_ | apply b6_ | refine b4_ ?_ GE339.out | refine b4_ ?_ GE340.out | refine b4_ ?_ GE343.out | refine b4_ ?_ GE344.out) | exact HB.out)⟩⟩
   ·rw [if_neg c59] at H
    have c59b0 : decide (x11_1 < (l0_0.length : Int)) = false := decide_eq_false c59
    clear c59
    replace H := Option.bind_eq_some_iff.mp H
    obtain ⟨t384, A720, H⟩ := H
    try dsimp only at H
    have A72 := A_ A720
    clear A720
    by_cases c73 : (t384 == (decide ((l0_0.length : Int) > 1))) = true
    rotate_left
    ·rw [if_neg c73] at H
     have c73b0 : (t384 == (decide ((l0_0.length : Int) > 1))) = false := by simpa using c73
     (try (have c73b1 : decide (t384 = (decide ((l0_0.length : Int) > 1))) = false := by simpa using c73))
     (try (have c73b2 : (t384 == (decide ((l0_0.length : Int) > 1))) = false := by simpa using c73))
     (try (have c73b3 : ¬ (t384 = (decide ((l0_0.length : Int) > 1))) := by simpa using c73))
     clear c73
     exact absurd ((Option.some.inj H).trans hr_) (by decide)
    rw [if_pos c73] at H
    have c73b0 : (t384 == (decide ((l0_0.length : Int) > 1))) = true := c73
    (try (have c73b1 : decide (t384 = (decide ((l0_0.length : Int) > 1))) = true := by simpa using c73))
    (try (have c73b2 : (t384 == (decide ((l0_0.length : Int) > 1))) = true := by simpa using c73))
    clear c73
    replace H := Option.bind_eq_some_iff.mp H
    obtain ⟨t385, A740, H⟩ := H
    try dsimp only at H
    have A74 := A_ A740
    clear A740
    replace H := Option.bind_eq_some_iff.mp H
    obtain ⟨t386, A750, H⟩ := H
    try dsimp only at H
    have A75 := A_ A750
    clear A750
    by_cases c76 : t386 = true
    ·subst c76
     rw [if_pos rfl] at H
     by_cases c77 : x10_1 = true
     ·subst c77
      rw [if_pos rfl] at H
      by_cases c78 : (t385 == false) = true
      rotate_left
      ·rw [if_neg c78] at H
       have c78b0 : (t385 == false) = false := by simpa using c78
       (try (have c78b1 : decide (t385 = false) = false := by simpa using c78))
       (try (have c78b2 : (t385 == false) = false := by simpa using c78))
       (try (have c78b3 : ¬ (t385 = false) := by simpa using c78))
       clear c78
       exact absurd ((Option.some.inj H).trans hr_) (by decide)
      rw [if_pos c78] at H
      have c78b0 : (t385 == false) = true := c78
      (try (have c78b1 : decide (t385 = false) = true := by simpa using c78))
      (try (have c78b2 : (t385 == false) = true := by simpa using c78))
      clear c78
      replace H := Option.bind_eq_some_iff.mp H
      obtain ⟨t387, A790, H⟩ := H
      try dsimp only at H
      have A79 := A_ A790
      clear A790
      obtain rfl := Option.some.inj H
      have hnb80 := NB339_340.out
      have hnc80 := NB340_339.out
      have hnb81 := NB339_343.out
      have hnc81 := NB343_339.out
      have hnb82 := NB339_344.out
      have hnc82 := NB344_339.out
      have hcz83_0 : wr.cell? ⟨gb339, 0, none⟩ = some (.slice A0_0 l0_0.length c0_0) := (b0_ BK339.out 0).trans rfl
      have hcz83_1 : wr.cell? ⟨gb339, 1, none⟩ = some (.int .i64 a0_1) := (b0_ BK339.out 1).trans rfl
      have hcz83_2 : wr.cell? ⟨gb339, 2, none⟩ = some (.int .i64 a0_2) := (b0_ BK339.out 2).trans rfl
      have hfz83_0 := blk_frozen BK339.out 0
      have hfz83_1 := blk_frozen BK339.out 1
      have hfz83_2 := blk_frozen BK339.out 2
      try go_wp2
      have n0_ := A_ (q2_ HO_340000.out)
      have n1_ := A_ (q2_ HO_341001.out)
      have n2_ := A_ (q5_ HO_344000.out)
      have n3_ := A_ (q5_ HO_345000.out)
      have n4_ := A_ (b3_ BK339.out)
      have n5_ := A_ (b3_ BK340.out)
      have n6_ := A_ (b3_ BK343.out)
      have n7_ := A_ (b3_ BK344.out)
      have n8_ := A_ (b6_ HB.out)
      clear HO_340000
      clear HO_341001
      clear HO_344000
      clear HO_345000
      clear BK339
      clear BK340
      clear BK343
      clear BK344
      clear HB
      have HO_340000 := n0_
      have HO_341001 := n1_
      have HO_344000 := n2_
      have HO_345000 := n3_
      have BK339 := n4_
      have BK340 := n5_
      have BK343 := n6_
      have BK344 := n7_
      have HB := n8_
      clear n0_ n1_ n2_ n3_ n4_ n5_ n6_ n7_ n8_
      refine start_ (n := 28) (S := fun w' => w'.cell? ⟨gb343, 0, none⟩ = some (.slice Ao44 y358.length co44) ∧ w'.cell? ⟨gb343, 1, none⟩ = some (.int .i64 a0_1) ∧ w'.cell? ⟨gb343, 2, none⟩ = some (.int .i64 a0_2) ∧ w'.cell? ⟨gb339, 0, none⟩ = some (.slice A0_0 l0_0.length c0_0) ∧ w'.cell? ⟨gb339, 1, none⟩ = some (.int .i64 a0_1) ∧ w'.cell? ⟨gb339, 2, none⟩ = some (.int .i64 a0_2) ∧ w'.cell? ⟨gb344, 0, none⟩ = some (.slice Ao57 y380.length co57) ∧ w'.cell? ⟨gb344, 1, none⟩ = some (.int .i64 a0_1) ∧ w'.cell? ⟨gb344, 2, none⟩ = some (.int .i64 a0_2) ∧ w'.cell? ⟨gb340, 0, none⟩ = some (.string a1_0) ∧ w'.cell? ⟨gb340, 1, none⟩ = some (.slice A1_1 l1_1.length c1_1) ∧ w'.cell? ⟨gb340, 2, none⟩ = some (.int .i64 a1_2) ∧ w'.cell? ⟨gb340, 3, none⟩ = some (.int .i64 a1_3) ∧ w'.cell? ⟨gb340, 4, none⟩ = some (.int .i64 a1_4) ∧ w'.cell? ⟨gb340, 5, none⟩ = some (.int .i64 a1_5) ∧ w'.cell? ⟨gb340, 6, none⟩ = some (.int .i64 a1_6) ∧ w'.cell? ⟨gb340, 7, none⟩ = some (.int .i64 a1_7) ∧ w'.cell? ⟨gb340, 8, none⟩ = some (.int .i64 a1_8)) (ds := []) #[F_,F_,F_,F_,F_,F_,F_,F_,F_,F_,F_,F_,F_,F_,F_,F_,F_,F_,F_,F_,F_,F_,F_,F_,F_,F_,F_,F_] (by kernel_rfl) rfl rfl ⟨(b0_ BK343.out 0).trans rfl, (b0_ BK343.out 1).trans rfl, (b0_ BK343.out 2).trans rfl, (b0_ BK339.out 0).trans rfl, (b0_ BK339.out 1).trans rfl, (b0_ BK339.out 2).trans rfl, (b0_ BK344.out 0).trans rfl, (b0_ BK344.out 1).trans rfl, (b0_ BK344.out 2).trans rfl, (b0_ BK340.out 0).trans rfl, (b0_ BK340.out 1).trans rfl, (b0_ BK340.out 2).trans rfl, (b0_ BK340.out 3).trans rfl, (b0_ BK340.out 4).trans rfl, (b0_ BK340.out 5).trans rfl, (b0_ BK340.out 6).trans rfl, (b0_ BK340.out 7).trans rfl, (b0_ BK340.out 8).trans rfl⟩ (fun hHeld => ?_); refine with_tabW tollhouselaw15_AuthLess.tab12 tollhouselaw15_AuthLess.bits12 (fun HT_ HW_ => ?_)
      generalize wr.drew = w84 at HO_340000 HO_341001 HO_344000 HO_345000 BK339 BK340 BK343 BK344 HB hHeld ⊢
      refine pure_ (i := 2) (N := some 71) (v := ?_) (a' := ?_) #[F_,F_,T_,F_,F_,F_,F_,F_,F_,F_,F_,F_,F_,F_,F_,F_,F_,F_,F_,F_,F_,F_,F_,F_,F_,F_,F_,F_] rfl rfl (any_of HT_.out (by kernel_rfl)) (fun _ _ _ h => h) (Or.inl ⟨by rfl, ?_⟩) ?_ ?_
      rotate_left
      ·intro w'
       go_simp
       with_reducible rfl
      rotate_left
      ·simp only [Act.put, pb_, pc_, pd_, i64_w, i32_w]
       rfl
      refine take_ (i := 0) (N := some 69) (v := ?_) (a' := ?_) #[T_,F_,T_,F_,F_,F_,F_,F_,F_,F_,F_,F_,F_,F_,F_,F_,F_,F_,F_,F_,F_,F_,F_,F_,F_,F_,F_,F_] rfl rfl (take_ofW HT_.out HW_.out (by kernel_rfl)) (fun _ _ _ h => h) (Or.inl ⟨by rfl, ?_⟩) hHeld ?_ ?_
      rotate_left
      ·rintro w' ⟨s0, s1, s2, s3, s4, s5, s6, s7, s8, s9, s10, s11, s12, s13, s14, s15, s16, s17⟩
       go_simp
       with_reducible rfl
      rotate_left
      ·simp only [Act.put, pb_, pc_, pd_, i64_w, i32_w]
       rfl
      refine take_ (i := 3) (N := some 72) (v := ?_) (a' := ?_) #[T_,F_,T_,T_,F_,F_,F_,F_,F_,F_,F_,F_,F_,F_,F_,F_,F_,F_,F_,F_,F_,F_,F_,F_,F_,F_,F_,F_] rfl rfl (take_ofW HT_.out HW_.out (by kernel_rfl)) (fun _ _ _ h => h) (Or.inl ⟨by rfl, ?_⟩) hHeld ?_ ?_
      rotate_left
      ·rintro w' ⟨s0, s1, s2, s3, s4, s5, s6, s7, s8, s9, s10, s11, s12, s13, s14, s15, s16, s17⟩
       go_simp
       with_reducible rfl
      rotate_left
      ·simp only [Act.put, pb_, pc_, pd_, i64_w, i32_w]
       rfl
      refine pure_ (i := 4) (N := some 73) (v := ?_) (a' := ?_) #[T_,F_,T_,T_,T_,F_,F_,F_,F_,F_,F_,F_,F_,F_,F_,F_,F_,F_,F_,F_,F_,F_,F_,F_,F_,F_,F_,F_] rfl rfl (any_of HT_.out (by kernel_rfl)) (fun _ _ _ h => h) (Or.inl ⟨by rfl, ?_⟩) ?_ ?_
      rotate_left
      ·intro w'
       go_simp
       with_reducible rfl
      rotate_left
      ·simp only [Act.put, pb_, pc_, pd_, i64_w, i32_w]
       rfl
      refine pure_ (i := 5) (N := some 74) (v := ?_) (a' := ?_) #[T_,F_,T_,T_,T_,T_,F_,F_,F_,F_,F_,F_,F_,F_,F_,F_,F_,F_,F_,F_,F_,F_,F_,F_,F_,F_,F_,F_] rfl rfl (any_of HT_.out (by kernel_rfl)) (fun _ _ _ h => h) (Or.inl ⟨by rfl, ?_⟩) ?_ ?_
      rotate_left
      ·intro w'
       go_simp
       with_reducible rfl
      rotate_left
      ·simp only [Act.put, pb_, pc_, pd_, i64_w, i32_w]
       rfl
      refine one_ (i := 1) (N := some 70) #[T_,T_,T_,T_,T_,T_,F_,F_,F_,F_,F_,F_,F_,F_,F_,F_,F_,F_,F_,F_,F_,F_,F_,F_,F_,F_,F_,F_] rfl rfl (one_of HT_.out (by kernel_rfl)) (by decide) (fun K hK => ?_)
      refine goes_ Tryz.func9 (by kernel_rfl) rfl #[.agg #[.slice Ao44 y358.length co44, .int .i64 a0_1, .int .i64 a0_2]] (by rfl) rfl rfl (by (try simp only [List.map_toArray, List.map_cons, List.map_nil]); first | done | rfl | (simp only [List.length_drop, List.length_take]; rfl)) ?_
      with_reducible refine (auth_Config.calls _ _ y358 a0_1 a0_2 t384 _ ?side1 ?side2 ?sideT A72.out).mono ?_
      case sideT => repeat (first | exact HT.out | exact (Tab.below HT.out HB.out) | (with_reducible first | refine Tab.alloc ?_ _ | refine Tab.drewN ?_ _ | refine Tab.drew ?_))
      (case side1 => repeat (first | exact (Kd.N_reads' HO_344000.out).2.2 | (with_reducible refine Kd.C_alloc ?_ _) | (with_reducible refine Kd.C_drewN ?_ _) | (with_reducible refine Kd.C_drew ?_)))
      (case side2 => exact (Kd.N_reads' HO_344000.out).2.1)
      rintro e w85 ⟨rfl, hb⟩
      refine ⟨_, rfl, ?_⟩
      have n0_ := A_ (Kd.V_below (by (with_reducible repeat (first | apply q3_ | apply q1_ | apply q2_)); exact HO_340000.out) hb)
      have n1_ := A_ (Kd.V_below (by (with_reducible repeat (first | apply q3_ | apply q1_ | apply q2_)); exact HO_341001.out) hb)
      have n2_ := A_ (Kd.N_below (by (with_reducible repeat (first | apply q6_ | apply q4_ | apply q5_)); exact HO_344000.out) hb)
      have n3_ := A_ (Kd.N_below (by (with_reducible repeat (first | apply q6_ | apply q4_ | apply q5_)); exact HO_345000.out) hb)
      have n4_ := A_ (r6_ (by (with_reducible repeat (first | refine b1_ ?_ _ | refine b3_ ?_ | refine b2_ ?_ _)); exact BK339.out) hb)
      have n5_ := A_ (r6_ (by (with_reducible repeat (first | refine b1_ ?_ _ | refine b3_ ?_ | refine b2_ ?_ _)); exact BK340.out) hb)
      have n6_ := A_ (r6_ (by (with_reducible repeat (first | refine b1_ ?_ _ | refine b3_ ?_ | refine b2_ ?_ _)); exact BK343.out) hb)
      have n7_ := A_ (r6_ (by (with_reducible repeat (first | refine b1_ ?_ _ | refine b3_ ?_ | refine b2_ ?_ _)); exact BK344.out) hb)
      have n8_ := A_ (below_step (by repeat (first | (with_reducible first | exact HB.out | apply b7_ | apply b5_ | apply b6_ | refine b4_ ?_ GE339.out | refine b4_ ?_ GE340.out | refine b4_ ?_ GE343.out | refine b4_ ?_ GE344.out) | exact HB.out)) hb)
      clear HO_340000
      clear HO_341001
      clear HO_344000
      clear HO_345000
      clear BK339
      clear BK340
      clear BK343
      clear BK344
      clear HB
      have HO_340000 := n0_
      have HO_341001 := n1_
      have HO_344000 := n2_
      have HO_345000 := n3_
      have BK339 := n4_
      have BK340 := n5_
      have BK343 := n6_
      have BK344 := n7_
      have HB := n8_
      clear n0_ n1_ n2_ n3_ n4_ n5_ n6_ n7_ n8_
      (try clear hb)
      (try clear hb2)
      (try clear hk)
      (try clear hi)
      refine hK.out _ _ ⟨(b0_ BK343.out 0).trans rfl, (b0_ BK343.out 1).trans rfl, (b0_ BK343.out 2).trans rfl, (b0_ BK339.out 0).trans rfl, (b0_ BK339.out 1).trans rfl, (b0_ BK339.out 2).trans rfl, (b0_ BK344.out 0).trans rfl, (b0_ BK344.out 1).trans rfl, (b0_ BK344.out 2).trans rfl, (b0_ BK340.out 0).trans rfl, (b0_ BK340.out 1).trans rfl, (b0_ BK340.out 2).trans rfl, (b0_ BK340.out 3).trans rfl, (b0_ BK340.out 4).trans rfl, (b0_ BK340.out 5).trans rfl, (b0_ BK340.out 6).trans rfl, (b0_ BK340.out 7).trans rfl, (b0_ BK340.out 8).trans rfl⟩ (fun hHeld => ?_)
      clear hK K
      refine norm_ (a' := ?_) ?_ ?_
      rotate_left
      ·show Act.put _ (some 70) _ = _
       simp only [Act.put, pb_, pc_, pd_, i64_w, i32_w]
       rfl
      refine pure_ (i := 6) (N := some 75) (v := ?_) (a' := ?_) #[T_,T_,T_,T_,T_,T_,T_,F_,F_,F_,F_,F_,F_,F_,F_,F_,F_,F_,F_,F_,F_,F_,F_,F_,F_,F_,F_,F_] rfl rfl (any_of HT_.out (by kernel_rfl)) (fun _ _ _ h => h) (Or.inl ⟨by rfl, ?_⟩) ?_ ?_
      rotate_left
      ·intro w'
       go_simp
       with_reducible rfl
      rotate_left
      ·simp only [Act.put, pb_, pc_, pd_, i64_w, i32_w]
       rfl
      refine pure_ (i := 7) (N := some 76) (v := ?_) (a' := ?_) #[T_,T_,T_,T_,T_,T_,T_,T_,F_,F_,F_,F_,F_,F_,F_,F_,F_,F_,F_,F_,F_,F_,F_,F_,F_,F_,F_,F_] rfl rfl (any_of HT_.out (by kernel_rfl)) (fun _ _ _ h => h) (Or.inl ⟨by rfl, ?_⟩) ?_ ?_
      rotate_left
      ·intro w'
       go_simp
       with_reducible rfl
      rotate_left
      ·simp only [Act.put, pb_, pc_, pd_, i64_w, i32_w]
       rfl
      refine take_ (i := 8) (N := some 77) (v := ?_) (a' := ?_) #[T_,T_,T_,T_,T_,T_,T_,T_,T_,F_,F_,F_,F_,F_,F_,F_,F_,F_,F_,F_,F_,F_,F_,F_,F_,F_,F_,F_] rfl rfl (take_ofW HT_.out HW_.out (by kernel_rfl)) (fun _ _ _ h => h) (Or.inl ⟨by rfl, ?_⟩) hHeld ?_ ?_
      rotate_left
      ·rintro w' ⟨s0, s1, s2, s3, s4, s5, s6, s7, s8, s9, s10, s11, s12, s13, s14, s15, s16, s17⟩
       go_simp
       with_reducible rfl
      rotate_left
      ·simp only [Act.put, pb_, pc_, pd_, i64_w, i32_w]
       rfl
      refine take_ (i := 10) (N := some 79) (v := ?_) (a' := ?_) #[T_,T_,T_,T_,T_,T_,T_,T_,T_,F_,T_,F_,F_,F_,F_,F_,F_,F_,F_,F_,F_,F_,F_,F_,F_,F_,F_,F_] rfl rfl (take_ofW HT_.out HW_.out (by kernel_rfl)) (fun _ _ _ h => h) (Or.inl ⟨by rfl, ?_⟩) hHeld ?_ ?_
      rotate_left
      ·rintro w' ⟨s0, s1, s2, s3, s4, s5, s6, s7, s8, s9, s10, s11, s12, s13, s14, s15, s16, s17⟩
       go_simp
       with_reducible rfl
      rotate_left
      ·simp only [Act.put, pb_, pc_, pd_, i64_w, i32_w]
       rfl
      refine one_ (i := 9) (N := some 78) #[T_,T_,T_,T_,T_,T_,T_,T_,T_,T_,T_,F_,F_,F_,F_,F_,F_,F_,F_,F_,F_,F_,F_,F_,F_,F_,F_,F_] rfl rfl (one_of HT_.out (by kernel_rfl)) (by decide) (fun K hK => ?_)
      refine goes_ Tryz.func9 (by kernel_rfl) rfl #[.agg #[.slice Ao57 y380.length co57, .int .i64 a0_1, .int .i64 a0_2]] (by rfl) rfl rfl (by (try simp only [List.map_toArray, List.map_cons, List.map_nil]); first | done | rfl | (simp only [List.length_drop, List.length_take]; rfl)) ?_
      with_reducible refine (auth_Config.calls _ _ y380 a0_1 a0_2 t385 _ ?side1 ?side2 ?sideT A74.out).mono ?_
      case sideT => repeat (first | exact HT.out | exact (Tab.below HT.out HB.out) | (with_reducible first | refine Tab.alloc ?_ _ | refine Tab.drewN ?_ _ | refine Tab.drew ?_))
      (case side1 => repeat (first | exact (Kd.N_reads' HO_345000.out).2.2 | (with_reducible refine Kd.C_alloc ?_ _) | (with_reducible refine Kd.C_drewN ?_ _) | (with_reducible refine Kd.C_drew ?_)))
      (case side2 => exact (Kd.N_reads' HO_345000.out).2.1)
      rintro e w86 ⟨rfl, hb⟩
      refine ⟨_, rfl, ?_⟩
      have n0_ := A_ (Kd.V_below (by (with_reducible repeat (first | apply q3_ | apply q1_ | apply q2_)); exact HO_340000.out) hb)
      have n1_ := A_ (Kd.V_below (by (with_reducible repeat (first | apply q3_ | apply q1_ | apply q2_)); exact HO_341001.out) hb)
      have n2_ := A_ (Kd.N_below (by (with_reducible repeat (first | apply q6_ | apply q4_ | apply q5_)); exact HO_344000.out) hb)
      have n3_ := A_ (Kd.N_below (by (with_reducible repeat (first | apply q6_ | apply q4_ | apply q5_)); exact HO_345000.out) hb)
      have n4_ := A_ (r6_ (by (with_reducible repeat (first | refine b1_ ?_ _ | refine b3_ ?_ | refine b2_ ?_ _)); exact BK339.out) hb)
      have n5_ := A_ (r6_ (by (with_reducible repeat (first | refine b1_ ?_ _ | refine b3_ ?_ | refine b2_ ?_ _)); exact BK340.out) hb)
      have n6_ := A_ (r6_ (by (with_reducible repeat (first | refine b1_ ?_ _ | refine b3_ ?_ | refine b2_ ?_ _)); exact BK343.out) hb)
      have n7_ := A_ (r6_ (by (with_reducible repeat (first | refine b1_ ?_ _ | refine b3_ ?_ | refine b2_ ?_ _)); exact BK344.out) hb)
      have n8_ := A_ (below_step (by repeat (first | (with_reducible first | exact HB.out | apply b7_ | apply b5_ | apply b6_ | refine b4_ ?_ GE339.out | refine b4_ ?_ GE340.out | refine b4_ ?_ GE343.out | refine b4_ ?_ GE344.out) | exact HB.out)) hb)
      clear HO_340000
      clear HO_341001
      clear HO_344000
      clear HO_345000
      clear BK339
      clear BK340
      clear BK343
      clear BK344
      clear HB
      have HO_340000 := n0_
      have HO_341001 := n1_
      have HO_344000 := n2_
      have HO_345000 := n3_
      have BK339 := n4_
      have BK340 := n5_
      have BK343 := n6_
      have BK344 := n7_
      have HB := n8_
      clear n0_ n1_ n2_ n3_ n4_ n5_ n6_ n7_ n8_
      (try clear hb)
      (try clear hb2)
      (try clear hk)
      (try clear hi)
      refine hK.out _ _ ⟨(b0_ BK343.out 0).trans rfl, (b0_ BK343.out 1).trans rfl, (b0_ BK343.out 2).trans rfl, (b0_ BK339.out 0).trans rfl, (b0_ BK339.out 1).trans rfl, (b0_ BK339.out 2).trans rfl, (b0_ BK344.out 0).trans rfl, (b0_ BK344.out 1).trans rfl, (b0_ BK344.out 2).trans rfl, (b0_ BK340.out 0).trans rfl, (b0_ BK340.out 1).trans rfl, (b0_ BK340.out 2).trans rfl, (b0_ BK340.out 3).trans rfl, (b0_ BK340.out 4).trans rfl, (b0_ BK340.out 5).trans rfl, (b0_ BK340.out 6).trans rfl, (b0_ BK340.out 7).trans rfl, (b0_ BK340.out 8).trans rfl⟩ (fun hHeld => ?_)
      clear hK K
      refine norm_ (a' := ?_) ?_ ?_
      rotate_left
      ·show Act.put _ (some 78) _ = _
       simp only [Act.put, pb_, pc_, pd_, i64_w, i32_w]
       rfl
      refine one_ (i := 11) (N := some 80) #[T_,T_,T_,T_,T_,T_,T_,T_,T_,T_,T_,T_,F_,F_,F_,F_,F_,F_,F_,F_,F_,F_,F_,F_,F_,F_,F_,F_] rfl rfl (one_of HT_.out (by kernel_rfl)) (by decide) (fun K hK => ?_)
      refine goes_ Tryz.func11 (by kernel_rfl) rfl #[.agg #[.string a1_0, .slice A1_1 l1_1.length c1_1, .int .i64 a1_2, .int .i64 a1_3, .int .i64 a1_4, .int .i64 a1_5, .int .i64 a1_6, .int .i64 a1_7, .int .i64 a1_8]] (by rfl) rfl rfl (by (try simp only [List.map_toArray, List.map_cons, List.map_nil]); first | done | rfl | (simp only [List.length_drop, List.length_take]; rfl)) ?_
      with_reducible refine (auth_Tenant.calls a1_0 _ _ l1_1 a1_2 a1_3 a1_4 a1_5 a1_6 a1_7 a1_8 true _ ?side1 ?side2 ?sideT A75.out).mono ?_
      case sideT => repeat (first | exact HT.out | exact (Tab.below HT.out HB.out) | (with_reducible first | refine Tab.alloc ?_ _ | refine Tab.drewN ?_ _ | refine Tab.drew ?_))
      (case side1 => repeat (first | exact (Kd.V_reads' HO_341001.out).2.2 | (with_reducible refine Kd.C_alloc ?_ _) | (with_reducible refine Kd.C_drewN ?_ _) | (with_reducible refine Kd.C_drew ?_)))
      (case side2 => exact (Kd.V_reads' HO_341001.out).2.1)
      rintro e w87 ⟨rfl, hb⟩
      refine ⟨_, rfl, ?_⟩
      have n0_ := A_ (Kd.V_below (by (with_reducible repeat (first | apply q3_ | apply q1_ | apply q2_)); exact HO_340000.out) hb)
      have n1_ := A_ (Kd.V_below (by (with_reducible repeat (first | apply q3_ | apply q1_ | apply q2_)); exact HO_341001.out) hb)
      have n2_ := A_ (Kd.N_below (by (with_reducible repeat (first | apply q6_ | apply q4_ | apply q5_)); exact HO_344000.out) hb)
      have n3_ := A_ (Kd.N_below (by (with_reducible repeat (first | apply q6_ | apply q4_ | apply q5_)); exact HO_345000.out) hb)
      have n4_ := A_ (r6_ (by (with_reducible repeat (first | refine b1_ ?_ _ | refine b3_ ?_ | refine b2_ ?_ _)); exact BK339.out) hb)
      have n5_ := A_ (r6_ (by (with_reducible repeat (first | refine b1_ ?_ _ | refine b3_ ?_ | refine b2_ ?_ _)); exact BK340.out) hb)
      have n6_ := A_ (r6_ (by (with_reducible repeat (first | refine b1_ ?_ _ | refine b3_ ?_ | refine b2_ ?_ _)); exact BK343.out) hb)
      have n7_ := A_ (r6_ (by (with_reducible repeat (first | refine b1_ ?_ _ | refine b3_ ?_ | refine b2_ ?_ _)); exact BK344.out) hb)
      have n8_ := A_ (below_step (by repeat (first | (with_reducible first | exact HB.out | apply b7_ | apply b5_ | apply b6_ | refine b4_ ?_ GE339.out | refine b4_ ?_ GE340.out | refine b4_ ?_ GE343.out | refine b4_ ?_ GE344.out) | exact HB.out)) hb)
      clear HO_340000
      clear HO_341001
      clear HO_344000
      clear HO_345000
      clear BK339
      clear BK340
      clear BK343
      clear BK344
      clear HB
      have HO_340000 := n0_
      have HO_341001 := n1_
      have HO_344000 := n2_
      have HO_345000 := n3_
      have BK339 := n4_
      have BK340 := n5_
      have BK343 := n6_
      have BK344 := n7_
      have HB := n8_
      clear n0_ n1_ n2_ n3_ n4_ n5_ n6_ n7_ n8_
      (try clear hb)
      (try clear hb2)
      (try clear hk)
      (try clear hi)
      refine hK.out _ _ ⟨(b0_ BK343.out 0).trans rfl, (b0_ BK343.out 1).trans rfl, (b0_ BK343.out 2).trans rfl, (b0_ BK339.out 0).trans rfl, (b0_ BK339.out 1).trans rfl, (b0_ BK339.out 2).trans rfl, (b0_ BK344.out 0).trans rfl, (b0_ BK344.out 1).trans rfl, (b0_ BK344.out 2).trans rfl, (b0_ BK340.out 0).trans rfl, (b0_ BK340.out 1).trans rfl, (b0_ BK340.out 2).trans rfl, (b0_ BK340.out 3).trans rfl, (b0_ BK340.out 4).trans rfl, (b0_ BK340.out 5).trans rfl, (b0_ BK340.out 6).trans rfl, (b0_ BK340.out 7).trans rfl, (b0_ BK340.out 8).trans rfl⟩ (fun hHeld => ?_)
      clear hK K
      refine norm_ (a' := ?_) ?_ ?_
      rotate_left
      ·show Act.put _ (some 80) _ = _
       simp only [Act.put, pb_, pc_, pd_, i64_w, i32_w]
       rfl
      refine pure_ (i := 12) (N := some 81) (v := ?_) (a' := ?_) #[T_,T_,T_,T_,T_,T_,T_,T_,T_,T_,T_,T_,T_,F_,F_,F_,F_,F_,F_,F_,F_,F_,F_,F_,F_,F_,F_,F_] rfl rfl (any_of HT_.out (by kernel_rfl)) (fun _ _ _ h => h) (Or.inl ⟨by rfl, ?_⟩) ?_ ?_
      rotate_left
      ·intro w'
       go_simp
       with_reducible rfl
      rotate_left
      ·simp only [Act.put, pb_, pc_, pd_, i64_w, i32_w]
       rfl
      refine pure_ (i := 13) (N := some 82) (v := ?_) (a' := ?_) #[T_,T_,T_,T_,T_,T_,T_,T_,T_,T_,T_,T_,T_,T_,F_,F_,F_,F_,F_,F_,F_,F_,F_,F_,F_,F_,F_,F_] rfl rfl (any_of HT_.out (by kernel_rfl)) (fun _ _ _ h => h) (Or.inl ⟨by rfl, ?_⟩) ?_ ?_
      rotate_left
      ·intro w'
       go_simp
       with_reducible rfl
      rotate_left
      ·simp only [Act.put, pb_, pc_, pd_, i64_w, i32_w]
       rfl
      refine pure_ (i := 14) (N := some 83) (v := ?_) (a' := ?_) #[T_,T_,T_,T_,T_,T_,T_,T_,T_,T_,T_,T_,T_,T_,T_,F_,F_,F_,F_,F_,F_,F_,F_,F_,F_,F_,F_,F_] rfl rfl (any_of HT_.out (by kernel_rfl)) (fun _ _ _ h => h) (Or.inl ⟨by rfl, ?_⟩) ?_ ?_
      rotate_left
      ·intro w'
       go_simp
       with_reducible rfl
      rotate_left
      ·simp only [Act.put, pb_, pc_, pd_, i64_w, i32_w]
       rfl
      refine pure_ (i := 15) (N := some 84) (v := ?_) (a' := ?_) #[T_,T_,T_,T_,T_,T_,T_,T_,T_,T_,T_,T_,T_,T_,T_,T_,F_,F_,F_,F_,F_,F_,F_,F_,F_,F_,F_,F_] rfl rfl (any_of HT_.out (by kernel_rfl)) (fun _ _ _ h => h) (Or.inl ⟨by rfl, ?_⟩) ?_ ?_
      rotate_left
      ·intro w'
       go_simp
       with_reducible rfl
      rotate_left
      ·simp only [Act.put, pb_, pc_, pd_, i64_w, i32_w]
       rfl
      refine pure_ (i := 16) (N := some 85) (v := ?_) (a' := ?_) #[T_,T_,T_,T_,T_,T_,T_,T_,T_,T_,T_,T_,T_,T_,T_,T_,T_,F_,F_,F_,F_,F_,F_,F_,F_,F_,F_,F_] rfl rfl (any_of HT_.out (by kernel_rfl)) (fun _ _ _ h => h) (Or.inl ⟨by rfl, ?_⟩) ?_ ?_
      rotate_left
      ·intro w'
       go_simp
       with_reducible rfl
      rotate_left
      ·simp only [Act.put, pb_, pc_, pd_, i64_w, i32_w]
       rfl
      refine pure_ (i := 17) (N := some 86) (v := undef) (a' := ?_) #[T_,T_,T_,T_,T_,T_,T_,T_,T_,T_,T_,T_,T_,T_,T_,T_,T_,T_,F_,F_,F_,F_,F_,F_,F_,F_,F_,F_] rfl rfl (any_of HT_.out (by kernel_rfl)) (fun _ _ _ h => h) (Or.inr ⟨by rfl, rfl⟩) ?_ ?_
      rotate_left
      ·simp only [Act.put, pb_, pc_, pd_, i64_w, i32_w]
       rfl
      refine pure_ (i := 18) (N := some 87) (v := undef) (a' := ?_) #[T_,T_,T_,T_,T_,T_,T_,T_,T_,T_,T_,T_,T_,T_,T_,T_,T_,T_,T_,F_,F_,F_,F_,F_,F_,F_,F_,F_] rfl rfl (any_of HT_.out (by kernel_rfl)) (fun _ _ _ h => h) (Or.inr ⟨by rfl, rfl⟩) ?_ ?_
      rotate_left
      ·simp only [Act.put, pb_, pc_, pd_, i64_w, i32_w]
       rfl
      refine pure_ (i := 19) (N := some 88) (v := undef) (a' := ?_) #[T_,T_,T_,T_,T_,T_,T_,T_,T_,T_,T_,T_,T_,T_,T_,T_,T_,T_,T_,T_,F_,F_,F_,F_,F_,F_,F_,F_] rfl rfl (any_of HT_.out (by kernel_rfl)) (fun _ _ _ h => h) (Or.inr ⟨by rfl, rfl⟩) ?_ ?_
      rotate_left
      ·simp only [Act.put, pb_, pc_, pd_, i64_w, i32_w]
       rfl
      refine pure_ (i := 20) (N := some 89) (v := undef) (a' := ?_) #[T_,T_,T_,T_,T_,T_,T_,T_,T_,T_,T_,T_,T_,T_,T_,T_,T_,T_,T_,T_,T_,F_,F_,F_,F_,F_,F_,F_] rfl rfl (any_of HT_.out (by kernel_rfl)) (fun _ _ _ h => h) (Or.inr ⟨by rfl, rfl⟩) ?_ ?_
      rotate_left
      ·simp only [Act.put, pb_, pc_, pd_, i64_w, i32_w]
       rfl
      refine pure_ (i := 21) (N := some 90) (v := ?_) (a' := ?_) #[T_,T_,T_,T_,T_,T_,T_,T_,T_,T_,T_,T_,T_,T_,T_,T_,T_,T_,T_,T_,T_,T_,F_,F_,F_,F_,F_,F_] rfl rfl (any_of HT_.out (by kernel_rfl)) (fun _ _ _ h => h) (Or.inl ⟨by rfl, ?_⟩) ?_ ?_
      rotate_left
      ·intro w'
       go_simp
       with_reducible rfl
      rotate_left
      ·simp only [Act.put, pb_, pc_, pd_, i64_w, i32_w]
       rfl
      refine pure_ (i := 22) (N := some 91) (v := ?_) (a' := ?_) #[T_,T_,T_,T_,T_,T_,T_,T_,T_,T_,T_,T_,T_,T_,T_,T_,T_,T_,T_,T_,T_,T_,T_,F_,F_,F_,F_,F_] rfl rfl (any_of HT_.out (by kernel_rfl)) (fun _ _ _ h => h) (Or.inl ⟨by rfl, ?_⟩) ?_ ?_
      rotate_left
      ·intro w'
       go_simp
       with_reducible rfl
      rotate_left
      ·simp only [Act.put, pb_, pc_, pd_, i64_w, i32_w]
       rfl
      refine pure_ (i := 23) (N := some 92) (v := ?_) (a' := ?_) #[T_,T_,T_,T_,T_,T_,T_,T_,T_,T_,T_,T_,T_,T_,T_,T_,T_,T_,T_,T_,T_,T_,T_,T_,F_,F_,F_,F_] rfl rfl (any_of HT_.out (by kernel_rfl)) (fun _ _ _ h => h) (Or.inl ⟨by rfl, ?_⟩) ?_ ?_
      rotate_left
      ·intro w'
       go_simp
       with_reducible rfl
      rotate_left
      ·simp only [Act.put, pb_, pc_, pd_, i64_w, i32_w]
       rfl
      refine pure_ (i := 24) (N := some 93) (v := ?_) (a' := ?_) #[T_,T_,T_,T_,T_,T_,T_,T_,T_,T_,T_,T_,T_,T_,T_,T_,T_,T_,T_,T_,T_,T_,T_,T_,T_,F_,F_,F_] rfl rfl (any_of HT_.out (by kernel_rfl)) (fun _ _ _ h => h) (Or.inl ⟨by rfl, ?_⟩) ?_ ?_
      rotate_left
      ·intro w'
       go_simp
       with_reducible rfl
      rotate_left
      ·simp only [Act.put, pb_, pc_, pd_, i64_w, i32_w]
       rfl
      refine one_ (i := 25) (N := some 94) #[T_,T_,T_,T_,T_,T_,T_,T_,T_,T_,T_,T_,T_,T_,T_,T_,T_,T_,T_,T_,T_,T_,T_,T_,T_,T_,F_,F_] rfl rfl (one_of HT_.out (by kernel_rfl)) (by decide) (fun K hK => ?_)
      refine goes_ Tryz.func15 (by kernel_rfl) rfl #[] (by rfl) rfl rfl (by (try simp only [List.map_toArray, List.map_cons, List.map_nil]); first | done | rfl | (simp only [List.length_drop, List.length_take]; rfl)) ?_
      with_reducible refine (tollhouselaw15_wakes.calls k1  t387 _ ?sideT A79.out).mono ?_
      case sideT => repeat (first | exact HT.out | exact (Tab.below HT.out HB.out) | (with_reducible first | refine Tab.alloc ?_ _ | refine Tab.drewN ?_ _ | refine Tab.drew ?_ | refine Tab.set ?_ HT.out GE339.out _ | refine Tab.set ?_ HT.out GE340.out _ | refine Tab.set ?_ HT.out GE343.out _ | refine Tab.set ?_ HT.out GE344.out _))
      rintro e w88 ⟨rfl, hb⟩
      refine ⟨_, rfl, ?_⟩
      have n0_ := A_ (Kd.V_below (by (with_reducible repeat (first | apply q3_ | apply q1_ | apply q2_)); exact HO_340000.out) hb)
      have n1_ := A_ (Kd.V_below (by (with_reducible repeat (first | apply q3_ | apply q1_ | apply q2_)); exact HO_341001.out) hb)
      have n2_ := A_ (Kd.N_below (by (with_reducible repeat (first | apply q6_ | apply q4_ | apply q5_)); exact HO_344000.out) hb)
      have n3_ := A_ (Kd.N_below (by (with_reducible repeat (first | apply q6_ | apply q4_ | apply q5_)); exact HO_345000.out) hb)
      have n4_ := A_ (r6_ (by (with_reducible repeat (first | refine b1_ ?_ _ | refine b3_ ?_ | refine b2_ ?_ _)); exact BK339.out) hb)
      have n5_ := A_ (r6_ (by (with_reducible repeat (first | refine b1_ ?_ _ | refine b3_ ?_ | refine b2_ ?_ _)); exact BK340.out) hb)
      have n6_ := A_ (r6_ (by (with_reducible repeat (first | refine b1_ ?_ _ | refine b3_ ?_ | refine b2_ ?_ _)); exact BK343.out) hb)
      have n7_ := A_ (r6_ (by (with_reducible repeat (first | refine b1_ ?_ _ | refine b3_ ?_ | refine b2_ ?_ _)); exact BK344.out) hb)
      have n8_ := A_ (below_step (by repeat (first | (with_reducible first | exact HB.out | apply b7_ | apply b5_ | apply b6_ | refine b4_ ?_ GE339.out | refine b4_ ?_ GE340.out | refine b4_ ?_ GE343.out | refine b4_ ?_ GE344.out) | exact HB.out)) hb)
      clear HO_340000
      clear HO_341001
      clear HO_344000
      clear HO_345000
      clear BK339
      clear BK340
      clear BK343
      clear BK344
      clear HB
      have HO_340000 := n0_
      have HO_341001 := n1_
      have HO_344000 := n2_
      have HO_345000 := n3_
      have BK339 := n4_
      have BK340 := n5_
      have BK343 := n6_
      have BK344 := n7_
      have HB := n8_
      clear n0_ n1_ n2_ n3_ n4_ n5_ n6_ n7_ n8_
      (try clear hb)
      (try clear hb2)
      (try clear hk)
      (try clear hi)
      refine hK.out _ _ ⟨(b0_ BK343.out 0).trans rfl, (b0_ BK343.out 1).trans rfl, (b0_ BK343.out 2).trans rfl, (b0_ BK339.out 0).trans rfl, (b0_ BK339.out 1).trans rfl, (b0_ BK339.out 2).trans rfl, (b0_ BK344.out 0).trans rfl, (b0_ BK344.out 1).trans rfl, (b0_ BK344.out 2).trans rfl, (b0_ BK340.out 0).trans rfl, (b0_ BK340.out 1).trans rfl, (b0_ BK340.out 2).trans rfl, (b0_ BK340.out 3).trans rfl, (b0_ BK340.out 4).trans rfl, (b0_ BK340.out 5).trans rfl, (b0_ BK340.out 6).trans rfl, (b0_ BK340.out 7).trans rfl, (b0_ BK340.out 8).trans rfl⟩ (fun hHeld => ?_)
      clear hK K
      refine norm_ (a' := ?_) ?_ ?_
      rotate_left
      ·show Act.put _ (some 94) _ = _
       simp only [Act.put, pb_, pc_, pd_, i64_w, i32_w]
       rfl
      refine pure_ (i := 26) (N := some 95) (v := ?_) (a' := ?_) #[T_,T_,T_,T_,T_,T_,T_,T_,T_,T_,T_,T_,T_,T_,T_,T_,T_,T_,T_,T_,T_,T_,T_,T_,T_,T_,T_,F_] rfl rfl (any_of HT_.out (by kernel_rfl)) (fun _ _ _ h => h) (Or.inl ⟨by rfl, ?_⟩) ?_ ?_
      rotate_left
      ·intro w'
       go_simp
       with_reducible rfl
      rotate_left
      ·simp only [Act.put, pb_, pc_, pd_, i64_w, i32_w]
       rfl
      refine pure_ (i := 27) (N := some 6) (v := ?_) (a' := ?_) #[T_,T_,T_,T_,T_,T_,T_,T_,T_,T_,T_,T_,T_,T_,T_,T_,T_,T_,T_,T_,T_,T_,T_,T_,T_,T_,T_,T_] rfl rfl (any_of HT_.out (by kernel_rfl)) (fun _ _ _ h => h) (Or.inl ⟨by rfl, ?_⟩) ?_ ?_
      rotate_left
      ·intro w'
       go_simp
       with_reducible rfl
      rotate_left
      ·simp only [Act.put, pb_, pc_, pd_, i64_w, i32_w]
       rfl
      refine done_ (done_of HT_.out (by kernel_rfl)) ?_
      try go_wp2
      go_ret
      exact ⟨by first | rfl | (simp [errW_none, errW_some] <;> rfl) | (simp only [← hji7, ← hji11]; first | rfl | (simp [errW_none, errW_some] <;> rfl)) | (simp [*, errW_none, errW_some] <;> rfl), by repeat (first | (with_reducible first | exact HB.out | apply b7_ | apply b5_ | apply b6_ | refine b4_ ?_ GE339.out | refine b4_ ?_ GE340.out | refine b4_ ?_ GE343.out | refine b4_ ?_ GE344.out) | exact HB.out)⟩
     ·replace c77 := Bool.eq_false_iff.mpr c77
      subst c77
      rw [if_neg (show ¬ (false = true) by decide)] at H
      by_cases c89 : (t385 == (decide ((l0_0.length : Int) < 8))) = true
      rotate_left
      ·rw [if_neg c89] at H
       have c89b0 : (t385 == (decide ((l0_0.length : Int) < 8))) = false := by simpa using c89
       (try (have c89b1 : decide (t385 = (decide ((l0_0.length : Int) < 8))) = false := by simpa using c89))
       (try (have c89b2 : (t385 == (decide ((l0_0.length : Int) < 8))) = false := by simpa using c89))
       (try (have c89b3 : ¬ (t385 = (decide ((l0_0.length : Int) < 8))) := by simpa using c89))
       clear c89
       exact absurd ((Option.some.inj H).trans hr_) (by decide)
      rw [if_pos c89] at H
      have c89b0 : (t385 == (decide ((l0_0.length : Int) < 8))) = true := c89
      (try (have c89b1 : decide (t385 = (decide ((l0_0.length : Int) < 8))) = true := by simpa using c89))
      (try (have c89b2 : (t385 == (decide ((l0_0.length : Int) < 8))) = true := by simpa using c89))
      clear c89
      replace H := Option.bind_eq_some_iff.mp H
      obtain ⟨t388, A900, H⟩ := H
      try dsimp only at H
      have A90 := A_ A900
      clear A900
      obtain rfl := Option.some.inj H
      have hnb91 := NB339_340.out
      have hnc91 := NB340_339.out
      have hnb92 := NB339_343.out
      have hnc92 := NB343_339.out
      have hnb93 := NB339_344.out
      have hnc93 := NB344_339.out
      have hcz94_0 : wr.cell? ⟨gb339, 0, none⟩ = some (.slice A0_0 l0_0.length c0_0) := (b0_ BK339.out 0).trans rfl
      have hcz94_1 : wr.cell? ⟨gb339, 1, none⟩ = some (.int .i64 a0_1) := (b0_ BK339.out 1).trans rfl
      have hcz94_2 : wr.cell? ⟨gb339, 2, none⟩ = some (.int .i64 a0_2) := (b0_ BK339.out 2).trans rfl
      have hfz94_0 := blk_frozen BK339.out 0
      have hfz94_1 := blk_frozen BK339.out 1
      have hfz94_2 := blk_frozen BK339.out 2
      try go_wp2
      have n0_ := A_ (q2_ HO_340000.out)
      have n1_ := A_ (q2_ HO_341001.out)
      have n2_ := A_ (q5_ HO_344000.out)
      have n3_ := A_ (q5_ HO_345000.out)
      have n4_ := A_ (b3_ BK339.out)
      have n5_ := A_ (b3_ BK340.out)
      have n6_ := A_ (b3_ BK343.out)
      have n7_ := A_ (b3_ BK344.out)
      have n8_ := A_ (b6_ HB.out)
      clear HO_340000
      clear HO_341001
      clear HO_344000
      clear HO_345000
      clear BK339
      clear BK340
      clear BK343
      clear BK344
      clear HB
      have HO_340000 := n0_
      have HO_341001 := n1_
      have HO_344000 := n2_
      have HO_345000 := n3_
      have BK339 := n4_
      have BK340 := n5_
      have BK343 := n6_
      have BK344 := n7_
      have HB := n8_
      clear n0_ n1_ n2_ n3_ n4_ n5_ n6_ n7_ n8_
      refine start_ (n := 28) (S := fun w' => w'.cell? ⟨gb343, 0, none⟩ = some (.slice Ao44 y358.length co44) ∧ w'.cell? ⟨gb343, 1, none⟩ = some (.int .i64 a0_1) ∧ w'.cell? ⟨gb343, 2, none⟩ = some (.int .i64 a0_2) ∧ w'.cell? ⟨gb339, 0, none⟩ = some (.slice A0_0 l0_0.length c0_0) ∧ w'.cell? ⟨gb339, 1, none⟩ = some (.int .i64 a0_1) ∧ w'.cell? ⟨gb339, 2, none⟩ = some (.int .i64 a0_2) ∧ w'.cell? ⟨gb344, 0, none⟩ = some (.slice Ao57 y380.length co57) ∧ w'.cell? ⟨gb344, 1, none⟩ = some (.int .i64 a0_1) ∧ w'.cell? ⟨gb344, 2, none⟩ = some (.int .i64 a0_2) ∧ w'.cell? ⟨gb340, 0, none⟩ = some (.string a1_0) ∧ w'.cell? ⟨gb340, 1, none⟩ = some (.slice A1_1 l1_1.length c1_1) ∧ w'.cell? ⟨gb340, 2, none⟩ = some (.int .i64 a1_2) ∧ w'.cell? ⟨gb340, 3, none⟩ = some (.int .i64 a1_3) ∧ w'.cell? ⟨gb340, 4, none⟩ = some (.int .i64 a1_4) ∧ w'.cell? ⟨gb340, 5, none⟩ = some (.int .i64 a1_5) ∧ w'.cell? ⟨gb340, 6, none⟩ = some (.int .i64 a1_6) ∧ w'.cell? ⟨gb340, 7, none⟩ = some (.int .i64 a1_7) ∧ w'.cell? ⟨gb340, 8, none⟩ = some (.int .i64 a1_8)) (ds := []) #[F_,F_,F_,F_,F_,F_,F_,F_,F_,F_,F_,F_,F_,F_,F_,F_,F_,F_,F_,F_,F_,F_,F_,F_,F_,F_,F_,F_] (by kernel_rfl) rfl rfl ⟨(b0_ BK343.out 0).trans rfl, (b0_ BK343.out 1).trans rfl, (b0_ BK343.out 2).trans rfl, (b0_ BK339.out 0).trans rfl, (b0_ BK339.out 1).trans rfl, (b0_ BK339.out 2).trans rfl, (b0_ BK344.out 0).trans rfl, (b0_ BK344.out 1).trans rfl, (b0_ BK344.out 2).trans rfl, (b0_ BK340.out 0).trans rfl, (b0_ BK340.out 1).trans rfl, (b0_ BK340.out 2).trans rfl, (b0_ BK340.out 3).trans rfl, (b0_ BK340.out 4).trans rfl, (b0_ BK340.out 5).trans rfl, (b0_ BK340.out 6).trans rfl, (b0_ BK340.out 7).trans rfl, (b0_ BK340.out 8).trans rfl⟩ (fun hHeld => ?_); refine with_tabW tollhouselaw15_AuthLess.tab12 tollhouselaw15_AuthLess.bits12 (fun HT_ HW_ => ?_)
      generalize wr.drew = w95 at HO_340000 HO_341001 HO_344000 HO_345000 BK339 BK340 BK343 BK344 HB hHeld ⊢
      refine pure_ (i := 2) (N := some 71) (v := ?_) (a' := ?_) #[F_,F_,T_,F_,F_,F_,F_,F_,F_,F_,F_,F_,F_,F_,F_,F_,F_,F_,F_,F_,F_,F_,F_,F_,F_,F_,F_,F_] rfl rfl (any_of HT_.out (by kernel_rfl)) (fun _ _ _ h => h) (Or.inl ⟨by rfl, ?_⟩) ?_ ?_
      rotate_left
      ·intro w'
       go_simp
       with_reducible rfl
      rotate_left
      ·simp only [Act.put, pb_, pc_, pd_, i64_w, i32_w]
       rfl
      refine take_ (i := 0) (N := some 69) (v := ?_) (a' := ?_) #[T_,F_,T_,F_,F_,F_,F_,F_,F_,F_,F_,F_,F_,F_,F_,F_,F_,F_,F_,F_,F_,F_,F_,F_,F_,F_,F_,F_] rfl rfl (take_ofW HT_.out HW_.out (by kernel_rfl)) (fun _ _ _ h => h) (Or.inl ⟨by rfl, ?_⟩) hHeld ?_ ?_
      rotate_left
      ·rintro w' ⟨s0, s1, s2, s3, s4, s5, s6, s7, s8, s9, s10, s11, s12, s13, s14, s15, s16, s17⟩
       go_simp
       with_reducible rfl
      rotate_left
      ·simp only [Act.put, pb_, pc_, pd_, i64_w, i32_w]
       rfl
      refine take_ (i := 3) (N := some 72) (v := ?_) (a' := ?_) #[T_,F_,T_,T_,F_,F_,F_,F_,F_,F_,F_,F_,F_,F_,F_,F_,F_,F_,F_,F_,F_,F_,F_,F_,F_,F_,F_,F_] rfl rfl (take_ofW HT_.out HW_.out (by kernel_rfl)) (fun _ _ _ h => h) (Or.inl ⟨by rfl, ?_⟩) hHeld ?_ ?_
      rotate_left
      ·rintro w' ⟨s0, s1, s2, s3, s4, s5, s6, s7, s8, s9, s10, s11, s12, s13, s14, s15, s16, s17⟩
       go_simp
       with_reducible rfl
      rotate_left
      ·simp only [Act.put, pb_, pc_, pd_, i64_w, i32_w]
       rfl
      refine pure_ (i := 4) (N := some 73) (v := ?_) (a' := ?_) #[T_,F_,T_,T_,T_,F_,F_,F_,F_,F_,F_,F_,F_,F_,F_,F_,F_,F_,F_,F_,F_,F_,F_,F_,F_,F_,F_,F_] rfl rfl (any_of HT_.out (by kernel_rfl)) (fun _ _ _ h => h) (Or.inl ⟨by rfl, ?_⟩) ?_ ?_
      rotate_left
      ·intro w'
       go_simp
       with_reducible rfl
      rotate_left
      ·simp only [Act.put, pb_, pc_, pd_, i64_w, i32_w]
       rfl
      refine pure_ (i := 5) (N := some 74) (v := ?_) (a' := ?_) #[T_,F_,T_,T_,T_,T_,F_,F_,F_,F_,F_,F_,F_,F_,F_,F_,F_,F_,F_,F_,F_,F_,F_,F_,F_,F_,F_,F_] rfl rfl (any_of HT_.out (by kernel_rfl)) (fun _ _ _ h => h) (Or.inl ⟨by rfl, ?_⟩) ?_ ?_
      rotate_left
      ·intro w'
       go_simp
       with_reducible rfl
      rotate_left
      ·simp only [Act.put, pb_, pc_, pd_, i64_w, i32_w]
       rfl
      refine one_ (i := 1) (N := some 70) #[T_,T_,T_,T_,T_,T_,F_,F_,F_,F_,F_,F_,F_,F_,F_,F_,F_,F_,F_,F_,F_,F_,F_,F_,F_,F_,F_,F_] rfl rfl (one_of HT_.out (by kernel_rfl)) (by decide) (fun K hK => ?_)
      refine goes_ Tryz.func9 (by kernel_rfl) rfl #[.agg #[.slice Ao44 y358.length co44, .int .i64 a0_1, .int .i64 a0_2]] (by rfl) rfl rfl (by (try simp only [List.map_toArray, List.map_cons, List.map_nil]); first | done | rfl | (simp only [List.length_drop, List.length_take]; rfl)) ?_
      with_reducible refine (auth_Config.calls _ _ y358 a0_1 a0_2 t384 _ ?side1 ?side2 ?sideT A72.out).mono ?_
      case sideT => repeat (first | exact HT.out | exact (Tab.below HT.out HB.out) | (with_reducible first | refine Tab.alloc ?_ _ | refine Tab.drewN ?_ _ | refine Tab.drew ?_))
      (case side1 => repeat (first | exact (Kd.N_reads' HO_344000.out).2.2 | (with_reducible refine Kd.C_alloc ?_ _) | (with_reducible refine Kd.C_drewN ?_ _) | (with_reducible refine Kd.C_drew ?_)))
      (case side2 => exact (Kd.N_reads' HO_344000.out).2.1)
      rintro e w96 ⟨rfl, hb⟩
      refine ⟨_, rfl, ?_⟩
      have n0_ := A_ (Kd.V_below (by (with_reducible repeat (first | apply q3_ | apply q1_ | apply q2_)); exact HO_340000.out) hb)
      have n1_ := A_ (Kd.V_below (by (with_reducible repeat (first | apply q3_ | apply q1_ | apply q2_)); exact HO_341001.out) hb)
      have n2_ := A_ (Kd.N_below (by (with_reducible repeat (first | apply q6_ | apply q4_ | apply q5_)); exact HO_344000.out) hb)
      have n3_ := A_ (Kd.N_below (by (with_reducible repeat (first | apply q6_ | apply q4_ | apply q5_)); exact HO_345000.out) hb)
      have n4_ := A_ (r6_ (by (with_reducible repeat (first | refine b1_ ?_ _ | refine b3_ ?_ | refine b2_ ?_ _)); exact BK339.out) hb)
      have n5_ := A_ (r6_ (by (with_reducible repeat (first | refine b1_ ?_ _ | refine b3_ ?_ | refine b2_ ?_ _)); exact BK340.out) hb)
      have n6_ := A_ (r6_ (by (with_reducible repeat (first | refine b1_ ?_ _ | refine b3_ ?_ | refine b2_ ?_ _)); exact BK343.out) hb)
      have n7_ := A_ (r6_ (by (with_reducible repeat (first | refine b1_ ?_ _ | refine b3_ ?_ | refine b2_ ?_ _)); exact BK344.out) hb)
      have n8_ := A_ (below_step (by repeat (first | (with_reducible first | exact HB.out | apply b7_ | apply b5_ | apply b6_ | refine b4_ ?_ GE339.out | refine b4_ ?_ GE340.out | refine b4_ ?_ GE343.out | refine b4_ ?_ GE344.out) | exact HB.out)) hb)
      clear HO_340000
      clear HO_341001
      clear HO_344000
      clear HO_345000
      clear BK339
      clear BK340
      clear BK343
      clear BK344
      clear HB
      have HO_340000 := n0_
      have HO_341001 := n1_
      have HO_344000 := n2_
      have HO_345000 := n3_
      have BK339 := n4_
      have BK340 := n5_
      have BK343 := n6_
      have BK344 := n7_
      have HB := n8_
      clear n0_ n1_ n2_ n3_ n4_ n5_ n6_ n7_ n8_
      (try clear hb)
      (try clear hb2)
      (try clear hk)
      (try clear hi)
      refine hK.out _ _ ⟨(b0_ BK343.out 0).trans rfl, (b0_ BK343.out 1).trans rfl, (b0_ BK343.out 2).trans rfl, (b0_ BK339.out 0).trans rfl, (b0_ BK339.out 1).trans rfl, (b0_ BK339.out 2).trans rfl, (b0_ BK344.out 0).trans rfl, (b0_ BK344.out 1).trans rfl, (b0_ BK344.out 2).trans rfl, (b0_ BK340.out 0).trans rfl, (b0_ BK340.out 1).trans rfl, (b0_ BK340.out 2).trans rfl, (b0_ BK340.out 3).trans rfl, (b0_ BK340.out 4).trans rfl, (b0_ BK340.out 5).trans rfl, (b0_ BK340.out 6).trans rfl, (b0_ BK340.out 7).trans rfl, (b0_ BK340.out 8).trans rfl⟩ (fun hHeld => ?_)
      clear hK K
      refine norm_ (a' := ?_) ?_ ?_
      rotate_left
      ·show Act.put _ (some 70) _ = _
       simp only [Act.put, pb_, pc_, pd_, i64_w, i32_w]
       rfl
      refine pure_ (i := 6) (N := some 75) (v := ?_) (a' := ?_) #[T_,T_,T_,T_,T_,T_,T_,F_,F_,F_,F_,F_,F_,F_,F_,F_,F_,F_,F_,F_,F_,F_,F_,F_,F_,F_,F_,F_] rfl rfl (any_of HT_.out (by kernel_rfl)) (fun _ _ _ h => h) (Or.inl ⟨by rfl, ?_⟩) ?_ ?_
      rotate_left
      ·intro w'
       go_simp
       with_reducible rfl
      rotate_left
      ·simp only [Act.put, pb_, pc_, pd_, i64_w, i32_w]
       rfl
      refine pure_ (i := 7) (N := some 76) (v := ?_) (a' := ?_) #[T_,T_,T_,T_,T_,T_,T_,T_,F_,F_,F_,F_,F_,F_,F_,F_,F_,F_,F_,F_,F_,F_,F_,F_,F_,F_,F_,F_] rfl rfl (any_of HT_.out (by kernel_rfl)) (fun _ _ _ h => h) (Or.inl ⟨by rfl, ?_⟩) ?_ ?_
      rotate_left
      ·intro w'
       go_simp
       with_reducible rfl
      rotate_left
      ·simp only [Act.put, pb_, pc_, pd_, i64_w, i32_w]
       rfl
      refine take_ (i := 8) (N := some 77) (v := ?_) (a' := ?_) #[T_,T_,T_,T_,T_,T_,T_,T_,T_,F_,F_,F_,F_,F_,F_,F_,F_,F_,F_,F_,F_,F_,F_,F_,F_,F_,F_,F_] rfl rfl (take_ofW HT_.out HW_.out (by kernel_rfl)) (fun _ _ _ h => h) (Or.inl ⟨by rfl, ?_⟩) hHeld ?_ ?_
      rotate_left
      ·rintro w' ⟨s0, s1, s2, s3, s4, s5, s6, s7, s8, s9, s10, s11, s12, s13, s14, s15, s16, s17⟩
       go_simp
       with_reducible rfl
      rotate_left
      ·simp only [Act.put, pb_, pc_, pd_, i64_w, i32_w]
       rfl
      refine take_ (i := 10) (N := some 79) (v := ?_) (a' := ?_) #[T_,T_,T_,T_,T_,T_,T_,T_,T_,F_,T_,F_,F_,F_,F_,F_,F_,F_,F_,F_,F_,F_,F_,F_,F_,F_,F_,F_] rfl rfl (take_ofW HT_.out HW_.out (by kernel_rfl)) (fun _ _ _ h => h) (Or.inl ⟨by rfl, ?_⟩) hHeld ?_ ?_
      rotate_left
      ·rintro w' ⟨s0, s1, s2, s3, s4, s5, s6, s7, s8, s9, s10, s11, s12, s13, s14, s15, s16, s17⟩
       go_simp
       with_reducible rfl
      rotate_left
      ·simp only [Act.put, pb_, pc_, pd_, i64_w, i32_w]
       rfl
      refine one_ (i := 9) (N := some 78) #[T_,T_,T_,T_,T_,T_,T_,T_,T_,T_,T_,F_,F_,F_,F_,F_,F_,F_,F_,F_,F_,F_,F_,F_,F_,F_,F_,F_] rfl rfl (one_of HT_.out (by kernel_rfl)) (by decide) (fun K hK => ?_)
      refine goes_ Tryz.func9 (by kernel_rfl) rfl #[.agg #[.slice Ao57 y380.length co57, .int .i64 a0_1, .int .i64 a0_2]] (by rfl) rfl rfl (by (try simp only [List.map_toArray, List.map_cons, List.map_nil]); first | done | rfl | (simp only [List.length_drop, List.length_take]; rfl)) ?_
      with_reducible refine (auth_Config.calls _ _ y380 a0_1 a0_2 t385 _ ?side1 ?side2 ?sideT A74.out).mono ?_
      case sideT => repeat (first | exact HT.out | exact (Tab.below HT.out HB.out) | (with_reducible first | refine Tab.alloc ?_ _ | refine Tab.drewN ?_ _ | refine Tab.drew ?_))
      (case side1 => repeat (first | exact (Kd.N_reads' HO_345000.out).2.2 | (with_reducible refine Kd.C_alloc ?_ _) | (with_reducible refine Kd.C_drewN ?_ _) | (with_reducible refine Kd.C_drew ?_)))
      (case side2 => exact (Kd.N_reads' HO_345000.out).2.1)
      rintro e w97 ⟨rfl, hb⟩
      refine ⟨_, rfl, ?_⟩
      have n0_ := A_ (Kd.V_below (by (with_reducible repeat (first | apply q3_ | apply q1_ | apply q2_)); exact HO_340000.out) hb)
      have n1_ := A_ (Kd.V_below (by (with_reducible repeat (first | apply q3_ | apply q1_ | apply q2_)); exact HO_341001.out) hb)
      have n2_ := A_ (Kd.N_below (by (with_reducible repeat (first | apply q6_ | apply q4_ | apply q5_)); exact HO_344000.out) hb)
      have n3_ := A_ (Kd.N_below (by (with_reducible repeat (first | apply q6_ | apply q4_ | apply q5_)); exact HO_345000.out) hb)
      have n4_ := A_ (r6_ (by (with_reducible repeat (first | refine b1_ ?_ _ | refine b3_ ?_ | refine b2_ ?_ _)); exact BK339.out) hb)
      have n5_ := A_ (r6_ (by (with_reducible repeat (first | refine b1_ ?_ _ | refine b3_ ?_ | refine b2_ ?_ _)); exact BK340.out) hb)
      have n6_ := A_ (r6_ (by (with_reducible repeat (first | refine b1_ ?_ _ | refine b3_ ?_ | refine b2_ ?_ _)); exact BK343.out) hb)
      have n7_ := A_ (r6_ (by (with_reducible repeat (first | refine b1_ ?_ _ | refine b3_ ?_ | refine b2_ ?_ _)); exact BK344.out) hb)
      have n8_ := A_ (below_step (by repeat (first | (with_reducible first | exact HB.out | apply b7_ | apply b5_ | apply b6_ | refine b4_ ?_ GE339.out | refine b4_ ?_ GE340.out | refine b4_ ?_ GE343.out | refine b4_ ?_ GE344.out) | exact HB.out)) hb)
      clear HO_340000
      clear HO_341001
      clear HO_344000
      clear HO_345000
      clear BK339
      clear BK340
      clear BK343
      clear BK344
      clear HB
      have HO_340000 := n0_
      have HO_341001 := n1_
      have HO_344000 := n2_
      have HO_345000 := n3_
      have BK339 := n4_
      have BK340 := n5_
      have BK343 := n6_
      have BK344 := n7_
      have HB := n8_
      clear n0_ n1_ n2_ n3_ n4_ n5_ n6_ n7_ n8_
      (try clear hb)
      (try clear hb2)
      (try clear hk)
      (try clear hi)
      refine hK.out _ _ ⟨(b0_ BK343.out 0).trans rfl, (b0_ BK343.out 1).trans rfl, (b0_ BK343.out 2).trans rfl, (b0_ BK339.out 0).trans rfl, (b0_ BK339.out 1).trans rfl, (b0_ BK339.out 2).trans rfl, (b0_ BK344.out 0).trans rfl, (b0_ BK344.out 1).trans rfl, (b0_ BK344.out 2).trans rfl, (b0_ BK340.out 0).trans rfl, (b0_ BK340.out 1).trans rfl, (b0_ BK340.out 2).trans rfl, (b0_ BK340.out 3).trans rfl, (b0_ BK340.out 4).trans rfl, (b0_ BK340.out 5).trans rfl, (b0_ BK340.out 6).trans rfl, (b0_ BK340.out 7).trans rfl, (b0_ BK340.out 8).trans rfl⟩ (fun hHeld => ?_)
      clear hK K
      refine norm_ (a' := ?_) ?_ ?_
      rotate_left
      ·show Act.put _ (some 78) _ = _
       simp only [Act.put, pb_, pc_, pd_, i64_w, i32_w]
       rfl
      refine one_ (i := 11) (N := some 80) #[T_,T_,T_,T_,T_,T_,T_,T_,T_,T_,T_,T_,F_,F_,F_,F_,F_,F_,F_,F_,F_,F_,F_,F_,F_,F_,F_,F_] rfl rfl (one_of HT_.out (by kernel_rfl)) (by decide) (fun K hK => ?_)
      refine goes_ Tryz.func11 (by kernel_rfl) rfl #[.agg #[.string a1_0, .slice A1_1 l1_1.length c1_1, .int .i64 a1_2, .int .i64 a1_3, .int .i64 a1_4, .int .i64 a1_5, .int .i64 a1_6, .int .i64 a1_7, .int .i64 a1_8]] (by rfl) rfl rfl (by (try simp only [List.map_toArray, List.map_cons, List.map_nil]); first | done | rfl | (simp only [List.length_drop, List.length_take]; rfl)) ?_
      with_reducible refine (auth_Tenant.calls a1_0 _ _ l1_1 a1_2 a1_3 a1_4 a1_5 a1_6 a1_7 a1_8 true _ ?side1 ?side2 ?sideT A75.out).mono ?_
      case sideT => repeat (first | exact HT.out | exact (Tab.below HT.out HB.out) | (with_reducible first | refine Tab.alloc ?_ _ | refine Tab.drewN ?_ _ | refine Tab.drew ?_))
      (case side1 => repeat (first | exact (Kd.V_reads' HO_341001.out).2.2 | (with_reducible refine Kd.C_alloc ?_ _) | (with_reducible refine Kd.C_drewN ?_ _) | (with_reducible refine Kd.C_drew ?_)))
      (case side2 => exact (Kd.V_reads' HO_341001.out).2.1)
      rintro e w98 ⟨rfl, hb⟩
      refine ⟨_, rfl, ?_⟩
      have n0_ := A_ (Kd.V_below (by (with_reducible repeat (first | apply q3_ | apply q1_ | apply q2_)); exact HO_340000.out) hb)
      have n1_ := A_ (Kd.V_below (by (with_reducible repeat (first | apply q3_ | apply q1_ | apply q2_)); exact HO_341001.out) hb)
      have n2_ := A_ (Kd.N_below (by (with_reducible repeat (first | apply q6_ | apply q4_ | apply q5_)); exact HO_344000.out) hb)
      have n3_ := A_ (Kd.N_below (by (with_reducible repeat (first | apply q6_ | apply q4_ | apply q5_)); exact HO_345000.out) hb)
      have n4_ := A_ (r6_ (by (with_reducible repeat (first | refine b1_ ?_ _ | refine b3_ ?_ | refine b2_ ?_ _)); exact BK339.out) hb)
      have n5_ := A_ (r6_ (by (with_reducible repeat (first | refine b1_ ?_ _ | refine b3_ ?_ | refine b2_ ?_ _)); exact BK340.out) hb)
      have n6_ := A_ (r6_ (by (with_reducible repeat (first | refine b1_ ?_ _ | refine b3_ ?_ | refine b2_ ?_ _)); exact BK343.out) hb)
      have n7_ := A_ (r6_ (by (with_reducible repeat (first | refine b1_ ?_ _ | refine b3_ ?_ | refine b2_ ?_ _)); exact BK344.out) hb)
      have n8_ := A_ (below_step (by repeat (first | (with_reducible first | exact HB.out | apply b7_ | apply b5_ | apply b6_ | refine b4_ ?_ GE339.out | refine b4_ ?_ GE340.out | refine b4_ ?_ GE343.out | refine b4_ ?_ GE344.out) | exact HB.out)) hb)
      clear HO_340000
      clear HO_341001
      clear HO_344000
      clear HO_345000
      clear BK339
      clear BK340
      clear BK343
      clear BK344
      clear HB
      have HO_340000 := n0_
      have HO_341001 := n1_
      have HO_344000 := n2_
      have HO_345000 := n3_
      have BK339 := n4_
      have BK340 := n5_
      have BK343 := n6_
      have BK344 := n7_
      have HB := n8_
      clear n0_ n1_ n2_ n3_ n4_ n5_ n6_ n7_ n8_
      (try clear hb)
      (try clear hb2)
      (try clear hk)
      (try clear hi)
      refine hK.out _ _ ⟨(b0_ BK343.out 0).trans rfl, (b0_ BK343.out 1).trans rfl, (b0_ BK343.out 2).trans rfl, (b0_ BK339.out 0).trans rfl, (b0_ BK339.out 1).trans rfl, (b0_ BK339.out 2).trans rfl, (b0_ BK344.out 0).trans rfl, (b0_ BK344.out 1).trans rfl, (b0_ BK344.out 2).trans rfl, (b0_ BK340.out 0).trans rfl, (b0_ BK340.out 1).trans rfl, (b0_ BK340.out 2).trans rfl, (b0_ BK340.out 3).trans rfl, (b0_ BK340.out 4).trans rfl, (b0_ BK340.out 5).trans rfl, (b0_ BK340.out 6).trans rfl, (b0_ BK340.out 7).trans rfl, (b0_ BK340.out 8).trans rfl⟩ (fun hHeld => ?_)
      clear hK K
      refine norm_ (a' := ?_) ?_ ?_
      rotate_left
      ·show Act.put _ (some 80) _ = _
       simp only [Act.put, pb_, pc_, pd_, i64_w, i32_w]
       rfl
      refine pure_ (i := 12) (N := some 81) (v := ?_) (a' := ?_) #[T_,T_,T_,T_,T_,T_,T_,T_,T_,T_,T_,T_,T_,F_,F_,F_,F_,F_,F_,F_,F_,F_,F_,F_,F_,F_,F_,F_] rfl rfl (any_of HT_.out (by kernel_rfl)) (fun _ _ _ h => h) (Or.inl ⟨by rfl, ?_⟩) ?_ ?_
      rotate_left
      ·intro w'
       go_simp
       with_reducible rfl
      rotate_left
      ·simp only [Act.put, pb_, pc_, pd_, i64_w, i32_w]
       rfl
      refine pure_ (i := 13) (N := some 82) (v := ?_) (a' := ?_) #[T_,T_,T_,T_,T_,T_,T_,T_,T_,T_,T_,T_,T_,T_,F_,F_,F_,F_,F_,F_,F_,F_,F_,F_,F_,F_,F_,F_] rfl rfl (any_of HT_.out (by kernel_rfl)) (fun _ _ _ h => h) (Or.inl ⟨by rfl, ?_⟩) ?_ ?_
      rotate_left
      ·intro w'
       go_simp
       with_reducible rfl
      rotate_left
      ·simp only [Act.put, pb_, pc_, pd_, i64_w, i32_w]
       rfl
      refine pure_ (i := 14) (N := some 83) (v := ?_) (a' := ?_) #[T_,T_,T_,T_,T_,T_,T_,T_,T_,T_,T_,T_,T_,T_,T_,F_,F_,F_,F_,F_,F_,F_,F_,F_,F_,F_,F_,F_] rfl rfl (any_of HT_.out (by kernel_rfl)) (fun _ _ _ h => h) (Or.inl ⟨by rfl, ?_⟩) ?_ ?_
      rotate_left
      ·intro w'
       go_simp
       with_reducible rfl
      rotate_left
      ·simp only [Act.put, pb_, pc_, pd_, i64_w, i32_w]
       rfl
      refine pure_ (i := 15) (N := some 84) (v := ?_) (a' := ?_) #[T_,T_,T_,T_,T_,T_,T_,T_,T_,T_,T_,T_,T_,T_,T_,T_,F_,F_,F_,F_,F_,F_,F_,F_,F_,F_,F_,F_] rfl rfl (any_of HT_.out (by kernel_rfl)) (fun _ _ _ h => h) (Or.inl ⟨by rfl, ?_⟩) ?_ ?_
      rotate_left
      ·intro w'
       go_simp
       with_reducible rfl
      rotate_left
      ·simp only [Act.put, pb_, pc_, pd_, i64_w, i32_w]
       rfl
      refine pure_ (i := 16) (N := some 85) (v := ?_) (a' := ?_) #[T_,T_,T_,T_,T_,T_,T_,T_,T_,T_,T_,T_,T_,T_,T_,T_,T_,F_,F_,F_,F_,F_,F_,F_,F_,F_,F_,F_] rfl rfl (any_of HT_.out (by kernel_rfl)) (fun _ _ _ h => h) (Or.inl ⟨by rfl, ?_⟩) ?_ ?_
      rotate_left
      ·intro w'
       go_simp
       with_reducible rfl
      rotate_left
      ·simp only [Act.put, pb_, pc_, pd_, i64_w, i32_w]
       rfl
      refine pure_ (i := 17) (N := some 86) (v := ?_) (a' := ?_) #[T_,T_,T_,T_,T_,T_,T_,T_,T_,T_,T_,T_,T_,T_,T_,T_,T_,T_,F_,F_,F_,F_,F_,F_,F_,F_,F_,F_] rfl rfl (any_of HT_.out (by kernel_rfl)) (fun _ _ _ h => h) (Or.inl ⟨by rfl, ?_⟩) ?_ ?_
      rotate_left
      ·intro w'
       go_simp
       with_reducible rfl
      rotate_left
      ·simp only [Act.put, pb_, pc_, pd_, i64_w, i32_w]
       rfl
      refine take_ (i := 18) (N := some 87) (v := ?_) (a' := ?_) #[T_,T_,T_,T_,T_,T_,T_,T_,T_,T_,T_,T_,T_,T_,T_,T_,T_,T_,T_,F_,F_,F_,F_,F_,F_,F_,F_,F_] rfl rfl (take_ofW HT_.out HW_.out (by kernel_rfl)) (fun _ _ _ h => h) (Or.inl ⟨by rfl, ?_⟩) hHeld ?_ ?_
      rotate_left
      ·rintro w' ⟨s0, s1, s2, s3, s4, s5, s6, s7, s8, s9, s10, s11, s12, s13, s14, s15, s16, s17⟩
       go_simp
       with_reducible rfl
      rotate_left
      ·simp only [Act.put, pb_, pc_, pd_, i64_w, i32_w]
       rfl
      refine pure_ (i := 19) (N := some 88) (v := ?_) (a' := ?_) #[T_,T_,T_,T_,T_,T_,T_,T_,T_,T_,T_,T_,T_,T_,T_,T_,T_,T_,T_,T_,F_,F_,F_,F_,F_,F_,F_,F_] rfl rfl (any_of HT_.out (by kernel_rfl)) (fun _ _ _ h => h) (Or.inl ⟨by rfl, ?_⟩) ?_ ?_
      rotate_left
      ·intro w'
       go_simp
       with_reducible rfl
      rotate_left
      ·simp only [Act.put, pb_, pc_, pd_, i64_w, i32_w]
       rfl
      refine pure_ (i := 20) (N := some 89) (v := ?_) (a' := ?_) #[T_,T_,T_,T_,T_,T_,T_,T_,T_,T_,T_,T_,T_,T_,T_,T_,T_,T_,T_,T_,T_,F_,F_,F_,F_,F_,F_,F_] rfl rfl (any_of HT_.out (by kernel_rfl)) (fun _ _ _ h => h) (Or.inl ⟨by rfl, ?_⟩) ?_ ?_
      rotate_left
      ·intro w'
       go_simp
       with_reducible rfl
      rotate_left
      ·simp only [Act.put, pb_, pc_, pd_, i64_w, i32_w]
       rfl
      refine pure_ (i := 21) (N := some 90) (v := ?_) (a' := ?_) #[T_,T_,T_,T_,T_,T_,T_,T_,T_,T_,T_,T_,T_,T_,T_,T_,T_,T_,T_,T_,T_,T_,F_,F_,F_,F_,F_,F_] rfl rfl (any_of HT_.out (by kernel_rfl)) (fun _ _ _ h => h) (Or.inl ⟨by rfl, ?_⟩) ?_ ?_
      rotate_left
      ·intro w'
       go_simp
       with_reducible rfl
      rotate_left
      ·simp only [Act.put, pb_, pc_, pd_, i64_w, i32_w]
       rfl
      refine pure_ (i := 22) (N := some 91) (v := ?_) (a' := ?_) #[T_,T_,T_,T_,T_,T_,T_,T_,T_,T_,T_,T_,T_,T_,T_,T_,T_,T_,T_,T_,T_,T_,T_,F_,F_,F_,F_,F_] rfl rfl (any_of HT_.out (by kernel_rfl)) (fun _ _ _ h => h) (Or.inl ⟨by rfl, ?_⟩) ?_ ?_
      rotate_left
      ·intro w'
       go_simp
       with_reducible rfl
      rotate_left
      ·simp only [Act.put, pb_, pc_, pd_, i64_w, i32_w]
       rfl
      refine pure_ (i := 23) (N := some 92) (v := ?_) (a' := ?_) #[T_,T_,T_,T_,T_,T_,T_,T_,T_,T_,T_,T_,T_,T_,T_,T_,T_,T_,T_,T_,T_,T_,T_,T_,F_,F_,F_,F_] rfl rfl (any_of HT_.out (by kernel_rfl)) (fun _ _ _ h => h) (Or.inl ⟨by rfl, ?_⟩) ?_ ?_
      rotate_left
      ·intro w'
       go_simp
       with_reducible rfl
      rotate_left
      ·simp only [Act.put, pb_, pc_, pd_, i64_w, i32_w]
       rfl
      refine pure_ (i := 24) (N := some 93) (v := ?_) (a' := ?_) #[T_,T_,T_,T_,T_,T_,T_,T_,T_,T_,T_,T_,T_,T_,T_,T_,T_,T_,T_,T_,T_,T_,T_,T_,T_,F_,F_,F_] rfl rfl (any_of HT_.out (by kernel_rfl)) (fun _ _ _ h => h) (Or.inl ⟨by rfl, ?_⟩) ?_ ?_
      rotate_left
      ·intro w'
       go_simp
       with_reducible rfl
      rotate_left
      ·simp only [Act.put, pb_, pc_, pd_, i64_w, i32_w]
       rfl
      refine one_ (i := 25) (N := some 94) #[T_,T_,T_,T_,T_,T_,T_,T_,T_,T_,T_,T_,T_,T_,T_,T_,T_,T_,T_,T_,T_,T_,T_,T_,T_,T_,F_,F_] rfl rfl (one_of HT_.out (by kernel_rfl)) (by decide) (fun K hK => ?_)
      refine goes_ Tryz.func15 (by kernel_rfl) rfl #[] (by rfl) rfl rfl (by (try simp only [List.map_toArray, List.map_cons, List.map_nil]); first | done | rfl | (simp only [List.length_drop, List.length_take]; rfl)) ?_
      with_reducible refine (tollhouselaw15_wakes.calls k1  t388 _ ?sideT A90.out).mono ?_
      case sideT => repeat (first | exact HT.out | exact (Tab.below HT.out HB.out) | (with_reducible first | refine Tab.alloc ?_ _ | refine Tab.drewN ?_ _ | refine Tab.drew ?_ | refine Tab.set ?_ HT.out GE339.out _ | refine Tab.set ?_ HT.out GE340.out _ | refine Tab.set ?_ HT.out GE343.out _ | refine Tab.set ?_ HT.out GE344.out _))
      rintro e w99 ⟨rfl, hb⟩
      refine ⟨_, rfl, ?_⟩
      have n0_ := A_ (Kd.V_below (by (with_reducible repeat (first | apply q3_ | apply q1_ | apply q2_)); exact HO_340000.out) hb)
      have n1_ := A_ (Kd.V_below (by (with_reducible repeat (first | apply q3_ | apply q1_ | apply q2_)); exact HO_341001.out) hb)
      have n2_ := A_ (Kd.N_below (by (with_reducible repeat (first | apply q6_ | apply q4_ | apply q5_)); exact HO_344000.out) hb)
      have n3_ := A_ (Kd.N_below (by (with_reducible repeat (first | apply q6_ | apply q4_ | apply q5_)); exact HO_345000.out) hb)
      have n4_ := A_ (r6_ (by (with_reducible repeat (first | refine b1_ ?_ _ | refine b3_ ?_ | refine b2_ ?_ _)); exact BK339.out) hb)
      have n5_ := A_ (r6_ (by (with_reducible repeat (first | refine b1_ ?_ _ | refine b3_ ?_ | refine b2_ ?_ _)); exact BK340.out) hb)
      have n6_ := A_ (r6_ (by (with_reducible repeat (first | refine b1_ ?_ _ | refine b3_ ?_ | refine b2_ ?_ _)); exact BK343.out) hb)
      have n7_ := A_ (r6_ (by (with_reducible repeat (first | refine b1_ ?_ _ | refine b3_ ?_ | refine b2_ ?_ _)); exact BK344.out) hb)
      have n8_ := A_ (below_step (by repeat (first | (with_reducible first | exact HB.out | apply b7_ | apply b5_ | apply b6_ | refine b4_ ?_ GE339.out | refine b4_ ?_ GE340.out | refine b4_ ?_ GE343.out | refine b4_ ?_ GE344.out) | exact HB.out)) hb)
      clear HO_340000
      clear HO_341001
      clear HO_344000
      clear HO_345000
      clear BK339
      clear BK340
      clear BK343
      clear BK344
      clear HB
      have HO_340000 := n0_
      have HO_341001 := n1_
      have HO_344000 := n2_
      have HO_345000 := n3_
      have BK339 := n4_
      have BK340 := n5_
      have BK343 := n6_
      have BK344 := n7_
      have HB := n8_
      clear n0_ n1_ n2_ n3_ n4_ n5_ n6_ n7_ n8_
      (try clear hb)
      (try clear hb2)
      (try clear hk)
      (try clear hi)
      refine hK.out _ _ ⟨(b0_ BK343.out 0).trans rfl, (b0_ BK343.out 1).trans rfl, (b0_ BK343.out 2).trans rfl, (b0_ BK339.out 0).trans rfl, (b0_ BK339.out 1).trans rfl, (b0_ BK339.out 2).trans rfl, (b0_ BK344.out 0).trans rfl, (b0_ BK344.out 1).trans rfl, (b0_ BK344.out 2).trans rfl, (b0_ BK340.out 0).trans rfl, (b0_ BK340.out 1).trans rfl, (b0_ BK340.out 2).trans rfl, (b0_ BK340.out 3).trans rfl, (b0_ BK340.out 4).trans rfl, (b0_ BK340.out 5).trans rfl, (b0_ BK340.out 6).trans rfl, (b0_ BK340.out 7).trans rfl, (b0_ BK340.out 8).trans rfl⟩ (fun hHeld => ?_)
      clear hK K
      refine norm_ (a' := ?_) ?_ ?_
      rotate_left
      ·show Act.put _ (some 94) _ = _
       simp only [Act.put, pb_, pc_, pd_, i64_w, i32_w]
       rfl
      refine pure_ (i := 26) (N := some 95) (v := ?_) (a' := ?_) #[T_,T_,T_,T_,T_,T_,T_,T_,T_,T_,T_,T_,T_,T_,T_,T_,T_,T_,T_,T_,T_,T_,T_,T_,T_,T_,T_,F_] rfl rfl (any_of HT_.out (by kernel_rfl)) (fun _ _ _ h => h) (Or.inl ⟨by rfl, ?_⟩) ?_ ?_
      rotate_left
      ·intro w'
       go_simp
       with_reducible rfl
      rotate_left
      ·simp only [Act.put, pb_, pc_, pd_, i64_w, i32_w]
       rfl
      refine pure_ (i := 27) (N := some 6) (v := ?_) (a' := ?_) #[T_,T_,T_,T_,T_,T_,T_,T_,T_,T_,T_,T_,T_,T_,T_,T_,T_,T_,T_,T_,T_,T_,T_,T_,T_,T_,T_,T_] rfl rfl (any_of HT_.out (by kernel_rfl)) (fun _ _ _ h => h) (Or.inl ⟨by rfl, ?_⟩) ?_ ?_
      rotate_left
      ·intro w'
       go_simp
       with_reducible rfl
      rotate_left
      ·simp only [Act.put, pb_, pc_, pd_, i64_w, i32_w]
       rfl
      refine done_ (done_of HT_.out (by kernel_rfl)) ?_
      try go_wp2
      go_ret
      exact ⟨by first | rfl | (simp [errW_none, errW_some] <;> rfl) | (simp only [← hji7, ← hji11]; first | rfl | (simp [errW_none, errW_some] <;> rfl)) | (simp [*, errW_none, errW_some] <;> rfl), by repeat (first | (with_reducible first | exact HB.out | apply b7_ | apply b5_ | apply b6_ | refine b4_ ?_ GE339.out | refine b4_ ?_ GE340.out | refine b4_ ?_ GE343.out | refine b4_ ?_ GE344.out) | exact HB.out)⟩
    ·replace c76 := Bool.eq_false_iff.mpr c76
     subst c76
     rw [if_neg (show ¬ (false = true) by decide)] at H
     by_cases c100 : (t385 == false) = true
     rotate_left
     ·rw [if_neg c100] at H
      have c100b0 : (t385 == false) = false := by simpa using c100
      (try (have c100b1 : decide (t385 = false) = false := by simpa using c100))
      (try (have c100b2 : (t385 == false) = false := by simpa using c100))
      (try (have c100b3 : ¬ (t385 = false) := by simpa using c100))
      clear c100
      exact absurd ((Option.some.inj H).trans hr_) (by decide)
     rw [if_pos c100] at H
     have c100b0 : (t385 == false) = true := c100
     (try (have c100b1 : decide (t385 = false) = true := by simpa using c100))
     (try (have c100b2 : (t385 == false) = true := by simpa using c100))
     clear c100
     replace H := Option.bind_eq_some_iff.mp H
     obtain ⟨t389, A1010, H⟩ := H
     try dsimp only at H
     have A101 := A_ A1010
     clear A1010
     obtain rfl := Option.some.inj H
     have hnb102 := NB339_340.out
     have hnc102 := NB340_339.out
     have hnb103 := NB339_343.out
     have hnc103 := NB343_339.out
     have hnb104 := NB339_344.out
     have hnc104 := NB344_339.out
     have hcz105_0 : wr.cell? ⟨gb339, 0, none⟩ = some (.slice A0_0 l0_0.length c0_0) := (b0_ BK339.out 0).trans rfl
     have hcz105_1 : wr.cell? ⟨gb339, 1, none⟩ = some (.int .i64 a0_1) := (b0_ BK339.out 1).trans rfl
     have hcz105_2 : wr.cell? ⟨gb339, 2, none⟩ = some (.int .i64 a0_2) := (b0_ BK339.out 2).trans rfl
     have hfz105_0 := blk_frozen BK339.out 0
     have hfz105_1 := blk_frozen BK339.out 1
     have hfz105_2 := blk_frozen BK339.out 2
     try go_wp2
     have n0_ := A_ (q2_ HO_340000.out)
     have n1_ := A_ (q2_ HO_341001.out)
     have n2_ := A_ (q5_ HO_344000.out)
     have n3_ := A_ (q5_ HO_345000.out)
     have n4_ := A_ (b3_ BK339.out)
     have n5_ := A_ (b3_ BK340.out)
     have n6_ := A_ (b3_ BK343.out)
     have n7_ := A_ (b3_ BK344.out)
     have n8_ := A_ (b6_ HB.out)
     clear HO_340000
     clear HO_341001
     clear HO_344000
     clear HO_345000
     clear BK339
     clear BK340
     clear BK343
     clear BK344
     clear HB
     have HO_340000 := n0_
     have HO_341001 := n1_
     have HO_344000 := n2_
     have HO_345000 := n3_
     have BK339 := n4_
     have BK340 := n5_
     have BK343 := n6_
     have BK344 := n7_
     have HB := n8_
     clear n0_ n1_ n2_ n3_ n4_ n5_ n6_ n7_ n8_
     refine start_ (n := 28) (S := fun w' => w'.cell? ⟨gb343, 0, none⟩ = some (.slice Ao44 y358.length co44) ∧ w'.cell? ⟨gb343, 1, none⟩ = some (.int .i64 a0_1) ∧ w'.cell? ⟨gb343, 2, none⟩ = some (.int .i64 a0_2) ∧ w'.cell? ⟨gb339, 0, none⟩ = some (.slice A0_0 l0_0.length c0_0) ∧ w'.cell? ⟨gb339, 1, none⟩ = some (.int .i64 a0_1) ∧ w'.cell? ⟨gb339, 2, none⟩ = some (.int .i64 a0_2) ∧ w'.cell? ⟨gb344, 0, none⟩ = some (.slice Ao57 y380.length co57) ∧ w'.cell? ⟨gb344, 1, none⟩ = some (.int .i64 a0_1) ∧ w'.cell? ⟨gb344, 2, none⟩ = some (.int .i64 a0_2) ∧ w'.cell? ⟨gb340, 0, none⟩ = some (.string a1_0) ∧ w'.cell? ⟨gb340, 1, none⟩ = some (.slice A1_1 l1_1.length c1_1) ∧ w'.cell? ⟨gb340, 2, none⟩ = some (.int .i64 a1_2) ∧ w'.cell? ⟨gb340, 3, none⟩ = some (.int .i64 a1_3) ∧ w'.cell? ⟨gb340, 4, none⟩ = some (.int .i64 a1_4) ∧ w'.cell? ⟨gb340, 5, none⟩ = some (.int .i64 a1_5) ∧ w'.cell? ⟨gb340, 6, none⟩ = some (.int .i64 a1_6) ∧ w'.cell? ⟨gb340, 7, none⟩ = some (.int .i64 a1_7) ∧ w'.cell? ⟨gb340, 8, none⟩ = some (.int .i64 a1_8)) (ds := []) #[F_,F_,F_,F_,F_,F_,F_,F_,F_,F_,F_,F_,F_,F_,F_,F_,F_,F_,F_,F_,F_,F_,F_,F_,F_,F_,F_,F_] (by kernel_rfl) rfl rfl ⟨(b0_ BK343.out 0).trans rfl, (b0_ BK343.out 1).trans rfl, (b0_ BK343.out 2).trans rfl, (b0_ BK339.out 0).trans rfl, (b0_ BK339.out 1).trans rfl, (b0_ BK339.out 2).trans rfl, (b0_ BK344.out 0).trans rfl, (b0_ BK344.out 1).trans rfl, (b0_ BK344.out 2).trans rfl, (b0_ BK340.out 0).trans rfl, (b0_ BK340.out 1).trans rfl, (b0_ BK340.out 2).trans rfl, (b0_ BK340.out 3).trans rfl, (b0_ BK340.out 4).trans rfl, (b0_ BK340.out 5).trans rfl, (b0_ BK340.out 6).trans rfl, (b0_ BK340.out 7).trans rfl, (b0_ BK340.out 8).trans rfl⟩ (fun hHeld => ?_); refine with_tabW tollhouselaw15_AuthLess.tab12 tollhouselaw15_AuthLess.bits12 (fun HT_ HW_ => ?_)
     generalize wr.drew = w106 at HO_340000 HO_341001 HO_344000 HO_345000 BK339 BK340 BK343 BK344 HB hHeld ⊢
     refine pure_ (i := 2) (N := some 71) (v := ?_) (a' := ?_) #[F_,F_,T_,F_,F_,F_,F_,F_,F_,F_,F_,F_,F_,F_,F_,F_,F_,F_,F_,F_,F_,F_,F_,F_,F_,F_,F_,F_] rfl rfl (any_of HT_.out (by kernel_rfl)) (fun _ _ _ h => h) (Or.inl ⟨by rfl, ?_⟩) ?_ ?_
     rotate_left
     ·intro w'
      go_simp
      with_reducible rfl
     rotate_left
     ·simp only [Act.put, pb_, pc_, pd_, i64_w, i32_w]
      rfl
     refine take_ (i := 0) (N := some 69) (v := ?_) (a' := ?_) #[T_,F_,T_,F_,F_,F_,F_,F_,F_,F_,F_,F_,F_,F_,F_,F_,F_,F_,F_,F_,F_,F_,F_,F_,F_,F_,F_,F_] rfl rfl (take_ofW HT_.out HW_.out (by kernel_rfl)) (fun _ _ _ h => h) (Or.inl ⟨by rfl, ?_⟩) hHeld ?_ ?_
     rotate_left
     ·rintro w' ⟨s0, s1, s2, s3, s4, s5, s6, s7, s8, s9, s10, s11, s12, s13, s14, s15, s16, s17⟩
      go_simp
      with_reducible rfl
     rotate_left
     ·simp only [Act.put, pb_, pc_, pd_, i64_w, i32_w]
      rfl
     refine take_ (i := 3) (N := some 72) (v := ?_) (a' := ?_) #[T_,F_,T_,T_,F_,F_,F_,F_,F_,F_,F_,F_,F_,F_,F_,F_,F_,F_,F_,F_,F_,F_,F_,F_,F_,F_,F_,F_] rfl rfl (take_ofW HT_.out HW_.out (by kernel_rfl)) (fun _ _ _ h => h) (Or.inl ⟨by rfl, ?_⟩) hHeld ?_ ?_
     rotate_left
     ·rintro w' ⟨s0, s1, s2, s3, s4, s5, s6, s7, s8, s9, s10, s11, s12, s13, s14, s15, s16, s17⟩
      go_simp
      with_reducible rfl
     rotate_left
     ·simp only [Act.put, pb_, pc_, pd_, i64_w, i32_w]
      rfl
     refine pure_ (i := 4) (N := some 73) (v := ?_) (a' := ?_) #[T_,F_,T_,T_,T_,F_,F_,F_,F_,F_,F_,F_,F_,F_,F_,F_,F_,F_,F_,F_,F_,F_,F_,F_,F_,F_,F_,F_] rfl rfl (any_of HT_.out (by kernel_rfl)) (fun _ _ _ h => h) (Or.inl ⟨by rfl, ?_⟩) ?_ ?_
     rotate_left
     ·intro w'
      go_simp
      with_reducible rfl
     rotate_left
     ·simp only [Act.put, pb_, pc_, pd_, i64_w, i32_w]
      rfl
     refine pure_ (i := 5) (N := some 74) (v := ?_) (a' := ?_) #[T_,F_,T_,T_,T_,T_,F_,F_,F_,F_,F_,F_,F_,F_,F_,F_,F_,F_,F_,F_,F_,F_,F_,F_,F_,F_,F_,F_] rfl rfl (any_of HT_.out (by kernel_rfl)) (fun _ _ _ h => h) (Or.inl ⟨by rfl, ?_⟩) ?_ ?_
     rotate_left
     ·intro w'
      go_simp
      with_reducible rfl
     rotate_left
     ·simp only [Act.put, pb_, pc_, pd_, i64_w, i32_w]
      rfl
     refine one_ (i := 1) (N := some 70) #[T_,T_,T_,T_,T_,T_,F_,F_,F_,F_,F_,F_,F_,F_,F_,F_,F_,F_,F_,F_,F_,F_,F_,F_,F_,F_,F_,F_] rfl rfl (one_of HT_.out (by kernel_rfl)) (by decide) (fun K hK => ?_)
     refine goes_ Tryz.func9 (by kernel_rfl) rfl #[.agg #[.slice Ao44 y358.length co44, .int .i64 a0_1, .int .i64 a0_2]] (by rfl) rfl rfl (by (try simp only [List.map_toArray, List.map_cons, List.map_nil]); first | done | rfl | (simp only [List.length_drop, List.length_take]; rfl)) ?_
     with_reducible refine (auth_Config.calls _ _ y358 a0_1 a0_2 t384 _ ?side1 ?side2 ?sideT A72.out).mono ?_
     case sideT => repeat (first | exact HT.out | exact (Tab.below HT.out HB.out) | (with_reducible first | refine Tab.alloc ?_ _ | refine Tab.drewN ?_ _ | refine Tab.drew ?_))
     (case side1 => repeat (first | exact (Kd.N_reads' HO_344000.out).2.2 | (with_reducible refine Kd.C_alloc ?_ _) | (with_reducible refine Kd.C_drewN ?_ _) | (with_reducible refine Kd.C_drew ?_)))
     (case side2 => exact (Kd.N_reads' HO_344000.out).2.1)
     rintro e w107 ⟨rfl, hb⟩
     refine ⟨_, rfl, ?_⟩
     have n0_ := A_ (Kd.V_below (by (with_reducible repeat (first | apply q3_ | apply q1_ | apply q2_)); exact HO_340000.out) hb)
     have n1_ := A_ (Kd.V_below (by (with_reducible repeat (first | apply q3_ | apply q1_ | apply q2_)); exact HO_341001.out) hb)
     have n2_ := A_ (Kd.N_below (by (with_reducible repeat (first | apply q6_ | apply q4_ | apply q5_)); exact HO_344000.out) hb)
     have n3_ := A_ (Kd.N_below (by (with_reducible repeat (first | apply q6_ | apply q4_ | apply q5_)); exact HO_345000.out) hb)
     have n4_ := A_ (r6_ (by (with_reducible repeat (first | refine b1_ ?_ _ | refine b3_ ?_ | refine b2_ ?_ _)); exact BK339.out) hb)
     have n5_ := A_ (r6_ (by (with_reducible repeat (first | refine b1_ ?_ _ | refine b3_ ?_ | refine b2_ ?_ _)); exact BK340.out) hb)
     have n6_ := A_ (r6_ (by (with_reducible repeat (first | refine b1_ ?_ _ | refine b3_ ?_ | refine b2_ ?_ _)); exact BK343.out) hb)
     have n7_ := A_ (r6_ (by (with_reducible repeat (first | refine b1_ ?_ _ | refine b3_ ?_ | refine b2_ ?_ _)); exact BK344.out) hb)
     have n8_ := A_ (below_step (by repeat (first | (with_reducible first | exact HB.out | apply b7_ | apply b5_ | apply b6_ | refine b4_ ?_ GE339.out | refine b4_ ?_ GE340.out | refine b4_ ?_ GE343.out | refine b4_ ?_ GE344.out) | exact HB.out)) hb)
     clear HO_340000
     clear HO_341001
     clear HO_344000
     clear HO_345000
     clear BK339
     clear BK340
     clear BK343
     clear BK344
     clear HB
     have HO_340000 := n0_
     have HO_341001 := n1_
     have HO_344000 := n2_
     have HO_345000 := n3_
     have BK339 := n4_
     have BK340 := n5_
     have BK343 := n6_
     have BK344 := n7_
     have HB := n8_
     clear n0_ n1_ n2_ n3_ n4_ n5_ n6_ n7_ n8_
     (try clear hb)
     (try clear hb2)
     (try clear hk)
     (try clear hi)
     refine hK.out _ _ ⟨(b0_ BK343.out 0).trans rfl, (b0_ BK343.out 1).trans rfl, (b0_ BK343.out 2).trans rfl, (b0_ BK339.out 0).trans rfl, (b0_ BK339.out 1).trans rfl, (b0_ BK339.out 2).trans rfl, (b0_ BK344.out 0).trans rfl, (b0_ BK344.out 1).trans rfl, (b0_ BK344.out 2).trans rfl, (b0_ BK340.out 0).trans rfl, (b0_ BK340.out 1).trans rfl, (b0_ BK340.out 2).trans rfl, (b0_ BK340.out 3).trans rfl, (b0_ BK340.out 4).trans rfl, (b0_ BK340.out 5).trans rfl, (b0_ BK340.out 6).trans rfl, (b0_ BK340.out 7).trans rfl, (b0_ BK340.out 8).trans rfl⟩ (fun hHeld => ?_)
     clear hK K
     refine norm_ (a' := ?_) ?_ ?_
     rotate_left
     ·show Act.put _ (some 70) _ = _
      simp only [Act.put, pb_, pc_, pd_, i64_w, i32_w]
      rfl
     refine pure_ (i := 6) (N := some 75) (v := ?_) (a' := ?_) #[T_,T_,T_,T_,T_,T_,T_,F_,F_,F_,F_,F_,F_,F_,F_,F_,F_,F_,F_,F_,F_,F_,F_,F_,F_,F_,F_,F_] rfl rfl (any_of HT_.out (by kernel_rfl)) (fun _ _ _ h => h) (Or.inl ⟨by rfl, ?_⟩) ?_ ?_
     rotate_left
     ·intro w'
      go_simp
      with_reducible rfl
     rotate_left
     ·simp only [Act.put, pb_, pc_, pd_, i64_w, i32_w]
      rfl
     refine pure_ (i := 7) (N := some 76) (v := ?_) (a' := ?_) #[T_,T_,T_,T_,T_,T_,T_,T_,F_,F_,F_,F_,F_,F_,F_,F_,F_,F_,F_,F_,F_,F_,F_,F_,F_,F_,F_,F_] rfl rfl (any_of HT_.out (by kernel_rfl)) (fun _ _ _ h => h) (Or.inl ⟨by rfl, ?_⟩) ?_ ?_
     rotate_left
     ·intro w'
      go_simp
      with_reducible rfl
     rotate_left
     ·simp only [Act.put, pb_, pc_, pd_, i64_w, i32_w]
      rfl
     refine take_ (i := 8) (N := some 77) (v := ?_) (a' := ?_) #[T_,T_,T_,T_,T_,T_,T_,T_,T_,F_,F_,F_,F_,F_,F_,F_,F_,F_,F_,F_,F_,F_,F_,F_,F_,F_,F_,F_] rfl rfl (take_ofW HT_.out HW_.out (by kernel_rfl)) (fun _ _ _ h => h) (Or.inl ⟨by rfl, ?_⟩) hHeld ?_ ?_
     rotate_left
     ·rintro w' ⟨s0, s1, s2, s3, s4, s5, s6, s7, s8, s9, s10, s11, s12, s13, s14, s15, s16, s17⟩
      go_simp
      with_reducible rfl
     rotate_left
     ·simp only [Act.put, pb_, pc_, pd_, i64_w, i32_w]
      rfl
     refine take_ (i := 10) (N := some 79) (v := ?_) (a' := ?_) #[T_,T_,T_,T_,T_,T_,T_,T_,T_,F_,T_,F_,F_,F_,F_,F_,F_,F_,F_,F_,F_,F_,F_,F_,F_,F_,F_,F_] rfl rfl (take_ofW HT_.out HW_.out (by kernel_rfl)) (fun _ _ _ h => h) (Or.inl ⟨by rfl, ?_⟩) hHeld ?_ ?_
     rotate_left
     ·rintro w' ⟨s0, s1, s2, s3, s4, s5, s6, s7, s8, s9, s10, s11, s12, s13, s14, s15, s16, s17⟩
      go_simp
      with_reducible rfl
     rotate_left
     ·simp only [Act.put, pb_, pc_, pd_, i64_w, i32_w]
      rfl
     refine one_ (i := 9) (N := some 78) #[T_,T_,T_,T_,T_,T_,T_,T_,T_,T_,T_,F_,F_,F_,F_,F_,F_,F_,F_,F_,F_,F_,F_,F_,F_,F_,F_,F_] rfl rfl (one_of HT_.out (by kernel_rfl)) (by decide) (fun K hK => ?_)
     refine goes_ Tryz.func9 (by kernel_rfl) rfl #[.agg #[.slice Ao57 y380.length co57, .int .i64 a0_1, .int .i64 a0_2]] (by rfl) rfl rfl (by (try simp only [List.map_toArray, List.map_cons, List.map_nil]); first | done | rfl | (simp only [List.length_drop, List.length_take]; rfl)) ?_
     with_reducible refine (auth_Config.calls _ _ y380 a0_1 a0_2 t385 _ ?side1 ?side2 ?sideT A74.out).mono ?_
     case sideT => repeat (first | exact HT.out | exact (Tab.below HT.out HB.out) | (with_reducible first | refine Tab.alloc ?_ _ | refine Tab.drewN ?_ _ | refine Tab.drew ?_))
     (case side1 => repeat (first | exact (Kd.N_reads' HO_345000.out).2.2 | (with_reducible refine Kd.C_alloc ?_ _) | (with_reducible refine Kd.C_drewN ?_ _) | (with_reducible refine Kd.C_drew ?_)))
     (case side2 => exact (Kd.N_reads' HO_345000.out).2.1)
     rintro e w108 ⟨rfl, hb⟩
     refine ⟨_, rfl, ?_⟩
     have n0_ := A_ (Kd.V_below (by (with_reducible repeat (first | apply q3_ | apply q1_ | apply q2_)); exact HO_340000.out) hb)
     have n1_ := A_ (Kd.V_below (by (with_reducible repeat (first | apply q3_ | apply q1_ | apply q2_)); exact HO_341001.out) hb)
     have n2_ := A_ (Kd.N_below (by (with_reducible repeat (first | apply q6_ | apply q4_ | apply q5_)); exact HO_344000.out) hb)
     have n3_ := A_ (Kd.N_below (by (with_reducible repeat (first | apply q6_ | apply q4_ | apply q5_)); exact HO_345000.out) hb)
     have n4_ := A_ (r6_ (by (with_reducible repeat (first | refine b1_ ?_ _ | refine b3_ ?_ | refine b2_ ?_ _)); exact BK339.out) hb)
     have n5_ := A_ (r6_ (by (with_reducible repeat (first | refine b1_ ?_ _ | refine b3_ ?_ | refine b2_ ?_ _)); exact BK340.out) hb)
     have n6_ := A_ (r6_ (by (with_reducible repeat (first | refine b1_ ?_ _ | refine b3_ ?_ | refine b2_ ?_ _)); exact BK343.out) hb)
     have n7_ := A_ (r6_ (by (with_reducible repeat (first | refine b1_ ?_ _ | refine b3_ ?_ | refine b2_ ?_ _)); exact BK344.out) hb)
     have n8_ := A_ (below_step (by repeat (first | (with_reducible first | exact HB.out | apply b7_ | apply b5_ | apply b6_ | refine b4_ ?_ GE339.out | refine b4_ ?_ GE340.out | refine b4_ ?_ GE343.out | refine b4_ ?_ GE344.out) | exact HB.out)) hb)
     clear HO_340000
     clear HO_341001
     clear HO_344000
     clear HO_345000
     clear BK339
     clear BK340
     clear BK343
     clear BK344
     clear HB
     have HO_340000 := n0_
     have HO_341001 := n1_
     have HO_344000 := n2_
     have HO_345000 := n3_
     have BK339 := n4_
     have BK340 := n5_
     have BK343 := n6_
     have BK344 := n7_
     have HB := n8_
     clear n0_ n1_ n2_ n3_ n4_ n5_ n6_ n7_ n8_
     (try clear hb)
     (try clear hb2)
     (try clear hk)
     (try clear hi)
     refine hK.out _ _ ⟨(b0_ BK343.out 0).trans rfl, (b0_ BK343.out 1).trans rfl, (b0_ BK343.out 2).trans rfl, (b0_ BK339.out 0).trans rfl, (b0_ BK339.out 1).trans rfl, (b0_ BK339.out 2).trans rfl, (b0_ BK344.out 0).trans rfl, (b0_ BK344.out 1).trans rfl, (b0_ BK344.out 2).trans rfl, (b0_ BK340.out 0).trans rfl, (b0_ BK340.out 1).trans rfl, (b0_ BK340.out 2).trans rfl, (b0_ BK340.out 3).trans rfl, (b0_ BK340.out 4).trans rfl, (b0_ BK340.out 5).trans rfl, (b0_ BK340.out 6).trans rfl, (b0_ BK340.out 7).trans rfl, (b0_ BK340.out 8).trans rfl⟩ (fun hHeld => ?_)
     clear hK K
     refine norm_ (a' := ?_) ?_ ?_
     rotate_left
     ·show Act.put _ (some 78) _ = _
      simp only [Act.put, pb_, pc_, pd_, i64_w, i32_w]
      rfl
     refine one_ (i := 11) (N := some 80) #[T_,T_,T_,T_,T_,T_,T_,T_,T_,T_,T_,T_,F_,F_,F_,F_,F_,F_,F_,F_,F_,F_,F_,F_,F_,F_,F_,F_] rfl rfl (one_of HT_.out (by kernel_rfl)) (by decide) (fun K hK => ?_)
     refine goes_ Tryz.func11 (by kernel_rfl) rfl #[.agg #[.string a1_0, .slice A1_1 l1_1.length c1_1, .int .i64 a1_2, .int .i64 a1_3, .int .i64 a1_4, .int .i64 a1_5, .int .i64 a1_6, .int .i64 a1_7, .int .i64 a1_8]] (by rfl) rfl rfl (by (try simp only [List.map_toArray, List.map_cons, List.map_nil]); first | done | rfl | (simp only [List.length_drop, List.length_take]; rfl)) ?_
     with_reducible refine (auth_Tenant.calls a1_0 _ _ l1_1 a1_2 a1_3 a1_4 a1_5 a1_6 a1_7 a1_8 false _ ?side1 ?side2 ?sideT A75.out).mono ?_
     case sideT => repeat (first | exact HT.out | exact (Tab.below HT.out HB.out) | (with_reducible first | refine Tab.alloc ?_ _ | refine Tab.drewN ?_ _ | refine Tab.drew ?_))
     (case side1 => repeat (first | exact (Kd.V_reads' HO_341001.out).2.2 | (with_reducible refine Kd.C_alloc ?_ _) | (with_reducible refine Kd.C_drewN ?_ _) | (with_reducible refine Kd.C_drew ?_)))
     (case side2 => exact (Kd.V_reads' HO_341001.out).2.1)
     rintro e w109 ⟨rfl, hb⟩
     refine ⟨_, rfl, ?_⟩
     have n0_ := A_ (Kd.V_below (by (with_reducible repeat (first | apply q3_ | apply q1_ | apply q2_)); exact HO_340000.out) hb)
     have n1_ := A_ (Kd.V_below (by (with_reducible repeat (first | apply q3_ | apply q1_ | apply q2_)); exact HO_341001.out) hb)
     have n2_ := A_ (Kd.N_below (by (with_reducible repeat (first | apply q6_ | apply q4_ | apply q5_)); exact HO_344000.out) hb)
     have n3_ := A_ (Kd.N_below (by (with_reducible repeat (first | apply q6_ | apply q4_ | apply q5_)); exact HO_345000.out) hb)
     have n4_ := A_ (r6_ (by (with_reducible repeat (first | refine b1_ ?_ _ | refine b3_ ?_ | refine b2_ ?_ _)); exact BK339.out) hb)
     have n5_ := A_ (r6_ (by (with_reducible repeat (first | refine b1_ ?_ _ | refine b3_ ?_ | refine b2_ ?_ _)); exact BK340.out) hb)
     have n6_ := A_ (r6_ (by (with_reducible repeat (first | refine b1_ ?_ _ | refine b3_ ?_ | refine b2_ ?_ _)); exact BK343.out) hb)
     have n7_ := A_ (r6_ (by (with_reducible repeat (first | refine b1_ ?_ _ | refine b3_ ?_ | refine b2_ ?_ _)); exact BK344.out) hb)
     have n8_ := A_ (below_step (by repeat (first | (with_reducible first | exact HB.out | apply b7_ | apply b5_ | apply b6_ | refine b4_ ?_ GE339.out | refine b4_ ?_ GE340.out | refine b4_ ?_ GE343.out | refine b4_ ?_ GE344.out) | exact HB.out)) hb)
     clear HO_340000
     clear HO_341001
     clear HO_344000
     clear HO_345000
     clear BK339
     clear BK340
     clear BK343
     clear BK344
     clear HB
     have HO_340000 := n0_
     have HO_341001 := n1_
     have HO_344000 := n2_
     have HO_345000 := n3_
     have BK339 := n4_
     have BK340 := n5_
     have BK343 := n6_
     have BK344 := n7_
     have HB := n8_
     clear n0_ n1_ n2_ n3_ n4_ n5_ n6_ n7_ n8_
     (try clear hb)
     (try clear hb2)
     (try clear hk)
     (try clear hi)
     refine hK.out _ _ ⟨(b0_ BK343.out 0).trans rfl, (b0_ BK343.out 1).trans rfl, (b0_ BK343.out 2).trans rfl, (b0_ BK339.out 0).trans rfl, (b0_ BK339.out 1).trans rfl, (b0_ BK339.out 2).trans rfl, (b0_ BK344.out 0).trans rfl, (b0_ BK344.out 1).trans rfl, (b0_ BK344.out 2).trans rfl, (b0_ BK340.out 0).trans rfl, (b0_ BK340.out 1).trans rfl, (b0_ BK340.out 2).trans rfl, (b0_ BK340.out 3).trans rfl, (b0_ BK340.out 4).trans rfl, (b0_ BK340.out 5).trans rfl, (b0_ BK340.out 6).trans rfl, (b0_ BK340.out 7).trans rfl, (b0_ BK340.out 8).trans rfl⟩ (fun hHeld => ?_)
     clear hK K
     refine norm_ (a' := ?_) ?_ ?_
     rotate_left
     ·show Act.put _ (some 80) _ = _
      simp only [Act.put, pb_, pc_, pd_, i64_w, i32_w]
      rfl
     refine pure_ (i := 12) (N := some 81) (v := ?_) (a' := ?_) #[T_,T_,T_,T_,T_,T_,T_,T_,T_,T_,T_,T_,T_,F_,F_,F_,F_,F_,F_,F_,F_,F_,F_,F_,F_,F_,F_,F_] rfl rfl (any_of HT_.out (by kernel_rfl)) (fun _ _ _ h => h) (Or.inl ⟨by rfl, ?_⟩) ?_ ?_
     rotate_left
     ·intro w'
      go_simp
      with_reducible rfl
     rotate_left
     ·simp only [Act.put, pb_, pc_, pd_, i64_w, i32_w]
      rfl
     refine pure_ (i := 13) (N := some 82) (v := undef) (a' := ?_) #[T_,T_,T_,T_,T_,T_,T_,T_,T_,T_,T_,T_,T_,T_,F_,F_,F_,F_,F_,F_,F_,F_,F_,F_,F_,F_,F_,F_] rfl rfl (any_of HT_.out (by kernel_rfl)) (fun _ _ _ h => h) (Or.inr ⟨by rfl, rfl⟩) ?_ ?_
     rotate_left
     ·simp only [Act.put, pb_, pc_, pd_, i64_w, i32_w]
      rfl
     refine pure_ (i := 14) (N := some 83) (v := undef) (a' := ?_) #[T_,T_,T_,T_,T_,T_,T_,T_,T_,T_,T_,T_,T_,T_,T_,F_,F_,F_,F_,F_,F_,F_,F_,F_,F_,F_,F_,F_] rfl rfl (any_of HT_.out (by kernel_rfl)) (fun _ _ _ h => h) (Or.inr ⟨by rfl, rfl⟩) ?_ ?_
     rotate_left
     ·simp only [Act.put, pb_, pc_, pd_, i64_w, i32_w]
      rfl
     refine pure_ (i := 15) (N := some 84) (v := ?_) (a' := ?_) #[T_,T_,T_,T_,T_,T_,T_,T_,T_,T_,T_,T_,T_,T_,T_,T_,F_,F_,F_,F_,F_,F_,F_,F_,F_,F_,F_,F_] rfl rfl (any_of HT_.out (by kernel_rfl)) (fun _ _ _ h => h) (Or.inl ⟨by rfl, ?_⟩) ?_ ?_
     rotate_left
     ·intro w'
      go_simp
      with_reducible rfl
     rotate_left
     ·simp only [Act.put, pb_, pc_, pd_, i64_w, i32_w]
      rfl
     refine pure_ (i := 16) (N := some 85) (v := ?_) (a' := ?_) #[T_,T_,T_,T_,T_,T_,T_,T_,T_,T_,T_,T_,T_,T_,T_,T_,T_,F_,F_,F_,F_,F_,F_,F_,F_,F_,F_,F_] rfl rfl (any_of HT_.out (by kernel_rfl)) (fun _ _ _ h => h) (Or.inl ⟨by rfl, ?_⟩) ?_ ?_
     rotate_left
     ·intro w'
      go_simp
      with_reducible rfl
     rotate_left
     ·simp only [Act.put, pb_, pc_, pd_, i64_w, i32_w]
      rfl
     refine pure_ (i := 17) (N := some 86) (v := undef) (a' := ?_) #[T_,T_,T_,T_,T_,T_,T_,T_,T_,T_,T_,T_,T_,T_,T_,T_,T_,T_,F_,F_,F_,F_,F_,F_,F_,F_,F_,F_] rfl rfl (any_of HT_.out (by kernel_rfl)) (fun _ _ _ h => h) (Or.inr ⟨by rfl, rfl⟩) ?_ ?_
     rotate_left
     ·simp only [Act.put, pb_, pc_, pd_, i64_w, i32_w]
      rfl
     refine pure_ (i := 18) (N := some 87) (v := undef) (a' := ?_) #[T_,T_,T_,T_,T_,T_,T_,T_,T_,T_,T_,T_,T_,T_,T_,T_,T_,T_,T_,F_,F_,F_,F_,F_,F_,F_,F_,F_] rfl rfl (any_of HT_.out (by kernel_rfl)) (fun _ _ _ h => h) (Or.inr ⟨by rfl, rfl⟩) ?_ ?_
     rotate_left
     ·simp only [Act.put, pb_, pc_, pd_, i64_w, i32_w]
      rfl
     refine pure_ (i := 19) (N := some 88) (v := undef) (a' := ?_) #[T_,T_,T_,T_,T_,T_,T_,T_,T_,T_,T_,T_,T_,T_,T_,T_,T_,T_,T_,T_,F_,F_,F_,F_,F_,F_,F_,F_] rfl rfl (any_of HT_.out (by kernel_rfl)) (fun _ _ _ h => h) (Or.inr ⟨by rfl, rfl⟩) ?_ ?_
     rotate_left
     ·simp only [Act.put, pb_, pc_, pd_, i64_w, i32_w]
      rfl
     refine pure_ (i := 20) (N := some 89) (v := undef) (a' := ?_) #[T_,T_,T_,T_,T_,T_,T_,T_,T_,T_,T_,T_,T_,T_,T_,T_,T_,T_,T_,T_,T_,F_,F_,F_,F_,F_,F_,F_] rfl rfl (any_of HT_.out (by kernel_rfl)) (fun _ _ _ h => h) (Or.inr ⟨by rfl, rfl⟩) ?_ ?_
     rotate_left
     ·simp only [Act.put, pb_, pc_, pd_, i64_w, i32_w]
      rfl
     refine pure_ (i := 21) (N := some 90) (v := ?_) (a' := ?_) #[T_,T_,T_,T_,T_,T_,T_,T_,T_,T_,T_,T_,T_,T_,T_,T_,T_,T_,T_,T_,T_,T_,F_,F_,F_,F_,F_,F_] rfl rfl (any_of HT_.out (by kernel_rfl)) (fun _ _ _ h => h) (Or.inl ⟨by rfl, ?_⟩) ?_ ?_
     rotate_left
     ·intro w'
      go_simp
      with_reducible rfl
     rotate_left
     ·simp only [Act.put, pb_, pc_, pd_, i64_w, i32_w]
      rfl
     refine pure_ (i := 22) (N := some 91) (v := ?_) (a' := ?_) #[T_,T_,T_,T_,T_,T_,T_,T_,T_,T_,T_,T_,T_,T_,T_,T_,T_,T_,T_,T_,T_,T_,T_,F_,F_,F_,F_,F_] rfl rfl (any_of HT_.out (by kernel_rfl)) (fun _ _ _ h => h) (Or.inl ⟨by rfl, ?_⟩) ?_ ?_
     rotate_left
     ·intro w'
      go_simp
      with_reducible rfl
     rotate_left
     ·simp only [Act.put, pb_, pc_, pd_, i64_w, i32_w]
      rfl
     refine pure_ (i := 23) (N := some 92) (v := ?_) (a' := ?_) #[T_,T_,T_,T_,T_,T_,T_,T_,T_,T_,T_,T_,T_,T_,T_,T_,T_,T_,T_,T_,T_,T_,T_,T_,F_,F_,F_,F_] rfl rfl (any_of HT_.out (by kernel_rfl)) (fun _ _ _ h => h) (Or.inl ⟨by rfl, ?_⟩) ?_ ?_
     rotate_left
     ·intro w'
      go_simp
      with_reducible rfl
     rotate_left
     ·simp only [Act.put, pb_, pc_, pd_, i64_w, i32_w]
      rfl
     refine pure_ (i := 24) (N := some 93) (v := ?_) (a' := ?_) #[T_,T_,T_,T_,T_,T_,T_,T_,T_,T_,T_,T_,T_,T_,T_,T_,T_,T_,T_,T_,T_,T_,T_,T_,T_,F_,F_,F_] rfl rfl (any_of HT_.out (by kernel_rfl)) (fun _ _ _ h => h) (Or.inl ⟨by rfl, ?_⟩) ?_ ?_
     rotate_left
     ·intro w'
      go_simp
      with_reducible rfl
     rotate_left
     ·simp only [Act.put, pb_, pc_, pd_, i64_w, i32_w]
      rfl
     refine one_ (i := 25) (N := some 94) #[T_,T_,T_,T_,T_,T_,T_,T_,T_,T_,T_,T_,T_,T_,T_,T_,T_,T_,T_,T_,T_,T_,T_,T_,T_,T_,F_,F_] rfl rfl (one_of HT_.out (by kernel_rfl)) (by decide) (fun K hK => ?_)
     refine goes_ Tryz.func15 (by kernel_rfl) rfl #[] (by rfl) rfl rfl (by (try simp only [List.map_toArray, List.map_cons, List.map_nil]); first | done | rfl | (simp only [List.length_drop, List.length_take]; rfl)) ?_
     with_reducible refine (tollhouselaw15_wakes.calls k1  t389 _ ?sideT A101.out).mono ?_
     case sideT => repeat (first | exact HT.out | exact (Tab.below HT.out HB.out) | (with_reducible first | refine Tab.alloc ?_ _ | refine Tab.drewN ?_ _ | refine Tab.drew ?_ | refine Tab.set ?_ HT.out GE339.out _ | refine Tab.set ?_ HT.out GE340.out _ | refine Tab.set ?_ HT.out GE343.out _ | refine Tab.set ?_ HT.out GE344.out _))
     rintro e w110 ⟨rfl, hb⟩
     refine ⟨_, rfl, ?_⟩
     have n0_ := A_ (Kd.V_below (by (with_reducible repeat (first | apply q3_ | apply q1_ | apply q2_)); exact HO_340000.out) hb)
     have n1_ := A_ (Kd.V_below (by (with_reducible repeat (first | apply q3_ | apply q1_ | apply q2_)); exact HO_341001.out) hb)
     have n2_ := A_ (Kd.N_below (by (with_reducible repeat (first | apply q6_ | apply q4_ | apply q5_)); exact HO_344000.out) hb)
     have n3_ := A_ (Kd.N_below (by (with_reducible repeat (first | apply q6_ | apply q4_ | apply q5_)); exact HO_345000.out) hb)
     have n4_ := A_ (r6_ (by (with_reducible repeat (first | refine b1_ ?_ _ | refine b3_ ?_ | refine b2_ ?_ _)); exact BK339.out) hb)
     have n5_ := A_ (r6_ (by (with_reducible repeat (first | refine b1_ ?_ _ | refine b3_ ?_ | refine b2_ ?_ _)); exact BK340.out) hb)
     have n6_ := A_ (r6_ (by (with_reducible repeat (first | refine b1_ ?_ _ | refine b3_ ?_ | refine b2_ ?_ _)); exact BK343.out) hb)
     have n7_ := A_ (r6_ (by (with_reducible repeat (first | refine b1_ ?_ _ | refine b3_ ?_ | refine b2_ ?_ _)); exact BK344.out) hb)
     have n8_ := A_ (below_step (by repeat (first | (with_reducible first | exact HB.out | apply b7_ | apply b5_ | apply b6_ | refine b4_ ?_ GE339.out | refine b4_ ?_ GE340.out | refine b4_ ?_ GE343.out | refine b4_ ?_ GE344.out) | exact HB.out)) hb)
     clear HO_340000
     clear HO_341001
     clear HO_344000
     clear HO_345000
     clear BK339
     clear BK340
     clear BK343
     clear BK344
     clear HB
     have HO_340000 := n0_
     have HO_341001 := n1_
     have HO_344000 := n2_
     have HO_345000 := n3_
     have BK339 := n4_
     have BK340 := n5_
     have BK343 := n6_
     have BK344 := n7_
     have HB := n8_
     clear n0_ n1_ n2_ n3_ n4_ n5_ n6_ n7_ n8_
     (try clear hb)
     (try clear hb2)
     (try clear hk)
     (try clear hi)
     refine hK.out _ _ ⟨(b0_ BK343.out 0).trans rfl, (b0_ BK343.out 1).trans rfl, (b0_ BK343.out 2).trans rfl, (b0_ BK339.out 0).trans rfl, (b0_ BK339.out 1).trans rfl, (b0_ BK339.out 2).trans rfl, (b0_ BK344.out 0).trans rfl, (b0_ BK344.out 1).trans rfl, (b0_ BK344.out 2).trans rfl, (b0_ BK340.out 0).trans rfl, (b0_ BK340.out 1).trans rfl, (b0_ BK340.out 2).trans rfl, (b0_ BK340.out 3).trans rfl, (b0_ BK340.out 4).trans rfl, (b0_ BK340.out 5).trans rfl, (b0_ BK340.out 6).trans rfl, (b0_ BK340.out 7).trans rfl, (b0_ BK340.out 8).trans rfl⟩ (fun hHeld => ?_)
     clear hK K
     refine norm_ (a' := ?_) ?_ ?_
     rotate_left
     ·show Act.put _ (some 94) _ = _
      simp only [Act.put, pb_, pc_, pd_, i64_w, i32_w]
      rfl
     refine pure_ (i := 26) (N := some 95) (v := ?_) (a' := ?_) #[T_,T_,T_,T_,T_,T_,T_,T_,T_,T_,T_,T_,T_,T_,T_,T_,T_,T_,T_,T_,T_,T_,T_,T_,T_,T_,T_,F_] rfl rfl (any_of HT_.out (by kernel_rfl)) (fun _ _ _ h => h) (Or.inl ⟨by rfl, ?_⟩) ?_ ?_
     rotate_left
     ·intro w'
      go_simp
      with_reducible rfl
     rotate_left
     ·simp only [Act.put, pb_, pc_, pd_, i64_w, i32_w]
      rfl
     refine pure_ (i := 27) (N := some 6) (v := ?_) (a' := ?_) #[T_,T_,T_,T_,T_,T_,T_,T_,T_,T_,T_,T_,T_,T_,T_,T_,T_,T_,T_,T_,T_,T_,T_,T_,T_,T_,T_,T_] rfl rfl (any_of HT_.out (by kernel_rfl)) (fun _ _ _ h => h) (Or.inl ⟨by rfl, ?_⟩) ?_ ?_
     rotate_left
     ·intro w'
      go_simp
      with_reducible rfl
     rotate_left
     ·simp only [Act.put, pb_, pc_, pd_, i64_w, i32_w]
      rfl
     refine done_ (done_of HT_.out (by kernel_rfl)) ?_
     try go_wp2
     go_ret
     exact ⟨by first | rfl | (simp [errW_none, errW_some] <;> rfl) | (simp only [← hji7, ← hji11]; first | rfl | (simp [errW_none, errW_some] <;> rfl)) | (simp [*, errW_none, errW_some] <;> rfl), by repeat (first | (with_reducible first | exact HB.out | apply b7_ | apply b5_ | apply b6_ | refine b4_ ?_ GE339.out | refine b4_ ?_ GE340.out | refine b4_ ?_ GE343.out | refine b4_ ?_ GE344.out) | exact HB.out)⟩
end Go.Proofs.YtepljhleaohbcaaGreatDoor.P
