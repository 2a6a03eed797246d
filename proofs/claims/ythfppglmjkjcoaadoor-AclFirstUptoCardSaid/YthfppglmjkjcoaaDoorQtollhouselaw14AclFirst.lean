/- The walk of the Go function tollhouselaw14 AclFirst, and what it computes. By program. Conditions: none but those that each theorem names. -/
import Derived.Test.YthfppglmjkjcoaaDoorQ0
import Derived.Test.YthfppglmjkjcoaaDoorQaclMatches
import Derived.Test.YthfppglmjkjcoaaDoorQaclAdmits
import Derived.Test.YthfppglmjkjcoaaDoorQtollhouselaw14wakes
namespace Go.Proofs.YthfppglmjkjcoaaDoor.P
open Go.RowKit Go.Proofs.YthfppglmjkjcoaaDoorW.PrintWords Go.Proofs.YthfppglmjkjcoaaDoorW.PrintLast Go.Proofs.YthfppglmjkjcoaaDoorW.PrintMore
attribute [local go_sem] max2_int min2_int max_two min_two max_three min_three max_four min_four
set_option linter.unusedVariables false
set_option linter.unusedSimpArgs false

/-! ### tollhouselaw14_AclFirst: function 4 -/
mutual
def tollhouselaw14_AclFirst.l0 : Nat → List (S25) → List (S25) → ByteArray → Int → ByteArray → Bool → List (S25) → List (S25) → Int → Bool → ByteArray → Int → Int → List ByteArray → Option (Bool)
  | 0, _, _, _, _, _, _, _, _, _, _, _, _, _, _ => none
  | k + 1, x0, x1, x3, x4, x5, x13, x14, x15, x16, x209000, x209001, x209002, x209003, x209004 => if x16 < (x0.length : Int) then (if 0 ≤ x16 then ((acl_Matches.f k ((rd_T25 x0 x16).f0) ((rd_T25 x0 x16).f1) ((rd_T25 x0 x16).f2) ((rd_T25 x0 x16).f3) ((rd_T25 x0 x16).f4) x3 x4 x5).bind fun t211 => (if t211 = true then (if x14.length < 2199023255552 then (tollhouselaw14_AclFirst.l0 k x0 x1 x3 x4 x5 x13 (x14 ++ [(⟨(rd_T25 x0 x16).f0, (rd_T25 x0 x16).f1, (rd_T25 x0 x16).f2, (rd_T25 x0 x16).f3, (rd_T25 x0 x16).f4⟩ : S25)]) x15 (wrap64 (x16 + 1)) x209000 x209001 x209002 x209003 x209004) else (none)) else (if x15.length < 2199023255552 then (tollhouselaw14_AclFirst.l0 k x0 x1 x3 x4 x5 x13 x14 (x15 ++ [(⟨(rd_T25 x0 x16).f0, (rd_T25 x0 x16).f1, (rd_T25 x0 x16).f2, (rd_T25 x0 x16).f3, (rd_T25 x0 x16).f4⟩ : S25)]) (wrap64 (x16 + 1)) x209000 x209001 x209002 x209003 x209004) else (none)))) else (none)) else (if (x14.length : Int) = 0 then (if x13 = true then (some false) else (if ([] : List (S25)).length + x0.length < 2199023255552 then ((some (([] : List (S25)) ++ x0 : List (S25))).bind fun y220 => (if y220.length + x1.length < 2199023255552 then ((acl_Admits.f k (y220 ++ x1) x3 x4 x5).bind fun t226 => ((acl_Admits.f k x1 x3 x4 x5).bind fun t227 => (if (t226 == t227) = true then ((tollhouselaw14_wakes.f k).bind fun t228 => (some t228)) else (some false)))) else (none))) else (none))) else (if 0 < (x14.length : Int) then (if (x13 != ((rd_T25 x14 0).f0)) = true then (tollhouselaw14_AclFirst.j1 k x0 x3 x4 x5 x13 true x209000 x209001 x209002 x209003 x209004) else (if 1 ≤ (x14.length : Int) then ((acl_Admits.f k (x14.take 1) x3 x4 x5).bind fun t235 => (if (t235 != x13) = true then (tollhouselaw14_AclFirst.j1 k x0 x3 x4 x5 x13 true x209000 x209001 x209002 x209003 x209004) else (if x15.length + x14.length < 2199023255552 then ((acl_Admits.f k (x15 ++ x14) x3 x4 x5).bind fun t239 => (if (t239 != x13) = true then (tollhouselaw14_AclFirst.j1 k x0 x3 x4 x5 x13 true x209000 x209001 x209002 x209003 x209004) else (if ([] : List (S25)).length + x0.length < 2199023255552 then ((some (([] : List (S25)) ++ x0 : List (S25))).bind fun y240 => (if y240.length + x1.length < 2199023255552 then ((acl_Admits.f k (y240 ++ x1) x3 x4 x5).bind fun t246 => (tollhouselaw14_AclFirst.j1 k x0 x3 x4 x5 x13 (t246 != x13) x209000 x209001 x209002 x209003 x209004)) else (none))) else (none)))) else (none)))) else (none))) else (none)))
def tollhouselaw14_AclFirst.j1 : Nat → List (S25) → ByteArray → Int → ByteArray → Bool → Bool → Bool → ByteArray → Int → Int → List ByteArray → Option (Bool)
  | 0, _, _, _, _, _, _, _, _, _, _, _ => none
  | k + 1, x0, x3, x4, x5, x13, x113, x209000, x209001, x209002, x209003, x209004 => if x113 = true then (some false) else ((some (([(⟨x209000, x209001, x209002, x209003, x209004⟩ : S25)] : List (S25)) : List (S25))).bind fun y247 => (if y247.length + x0.length < 2199023255552 then ((some (y247 ++ x0 : List (S25))).bind fun y250 => ((acl_Matches.f k x209000 x209001 x209002 x209003 x209004 x3 x4 x5).bind fun t253 => (if t253 = true then ((acl_Admits.f k y250 x3 x4 x5).bind fun t254 => (if (t254 == x209000) = true then ((tollhouselaw14_wakes.f k).bind fun t255 => (some t255)) else (some false))) else ((acl_Admits.f k y250 x3 x4 x5).bind fun t256 => (if (t256 == x13) = true then ((tollhouselaw14_wakes.f k).bind fun t257 => (some t257)) else (some false)))))) else (none)))
end
def tollhouselaw14_AclFirst.f (k : Nat) (l0 : List (S25)) (l1 : List (S25)) (a2_0 : Bool) (a2_1 : ByteArray) (a2_2 : Int) (a2_3 : Int) (l2_4 : List ByteArray) (a3 : ByteArray) (a4 : Int) (a5 : ByteArray) : Option (Bool) := (acl_Admits.f k l0 a3 a4 a5).bind fun t209 => (tollhouselaw14_AclFirst.l0 k l0 l1 a3 a4 a5 t209 ([] : List (S25)) ([] : List (S25)) 0 a2_0 a2_1 a2_2 a2_3 l2_4)
theorem tollhouselaw14_AclFirst.mono_l : ∀ k, (∀ y0 y1 y2 y3 y4 y5 y6 y7 y8 y9 y10 y11 y12 y13, LeO (tollhouselaw14_AclFirst.l0 k y0 y1 y2 y3 y4 y5 y6 y7 y8 y9 y10 y11 y12 y13) (tollhouselaw14_AclFirst.l0 (k + 1) y0 y1 y2 y3 y4 y5 y6 y7 y8 y9 y10 y11 y12 y13)) ∧ (∀ y0 y1 y2 y3 y4 y5 y6 y7 y8 y9 y10, LeO (tollhouselaw14_AclFirst.j1 k y0 y1 y2 y3 y4 y5 y6 y7 y8 y9 y10) (tollhouselaw14_AclFirst.j1 (k + 1) y0 y1 y2 y3 y4 y5 y6 y7 y8 y9 y10))
  | 0 => ⟨fun _ _ _ _ _ _ _ _ _ _ _ _ _ _ r h => by simp [tollhouselaw14_AclFirst.l0] at h, fun _ _ _ _ _ _ _ _ _ _ _ r h => by simp [tollhouselaw14_AclFirst.j1] at h⟩
  | k + 1 => by
    obtain ⟨ih0, ih1⟩ := tollhouselaw14_AclFirst.mono_l k
    refine ⟨?_, ?_⟩
    · intro y0 y1 y2 y3 y4 y5 y6 y7 y8 y9 y10 y11 y12 y13
      unfold tollhouselaw14_AclFirst.l0
      repeat' first
      | (with_reducible exact ih0 _ _ _ _ _ _ _ _ _ _ _ _ _ _)
      | (with_reducible exact ih1 _ _ _ _ _ _ _ _ _ _ _)
      | (with_reducible exact acl_Admits.mono _ _ _ _ _)
      | (with_reducible exact acl_Matches.mono _ _ _ _ _ _ _ _ _)
      | (with_reducible exact tollhouselaw14_wakes.mono _)
      | (with_reducible exact LeO.refl _)
      | (with_reducible exact LeO.none _)
      | (with_reducible refine LeO.ite ?_ ?_)
      | (with_reducible refine LeO.bind ?_ (fun _ => ?_))
      | exact ih0 _ _ _ _ _ _ _ _ _ _ _ _ _ _
      | exact ih1 _ _ _ _ _ _ _ _ _ _ _
      | exact acl_Admits.mono _ _ _ _ _
      | exact acl_Matches.mono _ _ _ _ _ _ _ _ _
      | exact tollhouselaw14_wakes.mono _
      | exact LeO.none _
      | refine LeO.ite ?_ ?_
      | refine LeO.bind ?_ (fun _ => ?_)
    · intro y0 y1 y2 y3 y4 y5 y6 y7 y8 y9 y10
      unfold tollhouselaw14_AclFirst.j1
      repeat' first
      | (with_reducible exact ih0 _ _ _ _ _ _ _ _ _ _ _ _ _ _)
      | (with_reducible exact ih1 _ _ _ _ _ _ _ _ _ _ _)
      | (with_reducible exact acl_Admits.mono _ _ _ _ _)
      | (with_reducible exact acl_Matches.mono _ _ _ _ _ _ _ _ _)
      | (with_reducible exact tollhouselaw14_wakes.mono _)
      | (with_reducible exact LeO.refl _)
      | (with_reducible exact LeO.none _)
      | (with_reducible refine LeO.ite ?_ ?_)
      | (with_reducible refine LeO.bind ?_ (fun _ => ?_))
      | exact ih0 _ _ _ _ _ _ _ _ _ _ _ _ _ _
      | exact ih1 _ _ _ _ _ _ _ _ _ _ _
      | exact acl_Admits.mono _ _ _ _ _
      | exact acl_Matches.mono _ _ _ _ _ _ _ _ _
      | exact tollhouselaw14_wakes.mono _
      | exact LeO.none _
      | refine LeO.ite ?_ ?_
      | refine LeO.bind ?_ (fun _ => ?_)
theorem tollhouselaw14_AclFirst.mono : ∀ a0 a1 a2 a3 a4 a5 a6 a7 a8 a9 k, LeO (tollhouselaw14_AclFirst.f k a0 a1 a2 a3 a4 a5 a6 a7 a8 a9) (tollhouselaw14_AclFirst.f (k + 1) a0 a1 a2 a3 a4 a5 a6 a7 a8 a9) := by
  intro a0 a1 a2 a3 a4 a5 a6 a7 a8 a9 k
  obtain ⟨ih0, ih1⟩ := tollhouselaw14_AclFirst.mono_l k
  unfold tollhouselaw14_AclFirst.f
  repeat' first
      | (with_reducible exact ih0 _ _ _ _ _ _ _ _ _ _ _ _ _ _)
      | (with_reducible exact ih1 _ _ _ _ _ _ _ _ _ _ _)
      | (with_reducible exact acl_Admits.mono _ _ _ _ _)
      | (with_reducible exact acl_Matches.mono _ _ _ _ _ _ _ _ _)
      | (with_reducible exact tollhouselaw14_wakes.mono _)
      | (with_reducible exact LeO.refl _)
      | (with_reducible exact LeO.none _)
      | (with_reducible refine LeO.ite ?_ ?_)
      | (with_reducible refine LeO.bind ?_ (fun _ => ?_))
      | exact ih0 _ _ _ _ _ _ _ _ _ _ _ _ _ _
      | exact ih1 _ _ _ _ _ _ _ _ _ _ _
      | exact acl_Admits.mono _ _ _ _ _
      | exact acl_Matches.mono _ _ _ _ _ _ _ _ _
      | exact tollhouselaw14_wakes.mono _
      | exact LeO.none _
      | refine LeO.ite ?_ ?_
      | refine LeO.bind ?_ (fun _ => ?_)
def tollhouselaw14_AclFirst.T15 : Bool × List (List Nat × List Nat) := (true, [([], []), ([], []), ([], []), ([], []), ([0, 1, 2, 3], [0, 1, 2, 3]), ([], []), ([5], [5]), ([4, 6], [4, 6]), ([7, 4], [7]), ([8, 8], [8]), ([8, 9], [8, 9]), ([10, 9, 0, 1, 2, 3, 4, 5, 6, 7, 8, 9, 10], [10])])
def tollhouselaw14_AclFirst.B15 : List Nat := [0, 0, 0, 0, 15, 0, 32, 127, 255, 511, 1023, 2047]
theorem tollhouselaw14_AclFirst.tab15 : rtab .any (opsOf Tryd.f4 15) = tollhouselaw14_AclFirst.T15 := by kernel_rfl
theorem tollhouselaw14_AclFirst.bits15 : waitsOk tollhouselaw14_AclFirst.T15.2 tollhouselaw14_AclFirst.B15 = true := by kernel_rfl
set_option maxHeartbeats 8000000 in
set_option maxRecDepth 100000 in
theorem tollhouselaw14_AclFirst.calls (k : Nat) (P0_ : Nat → Prop) (A0 : Option Addr) (c0 : Nat) (l0 : List (S25)) (P1_ : Nat → Prop) (A1 : Option Addr) (c1 : Nat) (l1 : List (S25)) (a2_0 : Bool) (a2_1 : ByteArray) (a2_2 : Int) (a2_3 : Int) (P2_4_ : Nat → Prop) (A2_4 : Option Addr) (c2_4 : Nat) (l2_4 : List ByteArray) (a3 : ByteArray) (a4 : Int) (a5 : ByteArray) (r : Bool) (w : World) (hs0 : Kd.V k25 25 w w.heap.size (fun k_ => P0_ k_) (.slice A0 l0.length c0) l0) (hs1 : Kd.V k25 25 w w.heap.size (fun k_ => P1_ k_) (.slice A1 l1.length c1) l1) (hs2_4 : Kd.V Kd.string 9 w w.heap.size (fun k_ => P2_4_ k_) (.slice A2_4 l2_4.length c2_4) l2_4) (hr_ : r = true) (hT : Tab w) (h : tollhouselaw14_AclFirst.f k l0 l1 a2_0 a2_1 a2_2 a2_3 l2_4 a3 a4 a5 = some r) :
    Calls Tryd.prog 4 #[.slice A0 l0.length c0, .slice A1 l1.length c1, .agg #[.bool a2_0, .string a2_1, .int .i64 a2_2, .int .i64 a2_3, .slice A2_4 l2_4.length c2_4], .string a3, .int .i64 a4, .string a5] w fun e w' => e = .returned (.bool r) ∧ Below w.heap.size w w' := by
  have HT := Aside0.mk hT
  clear hT
  have hu25 := Tryd.underlying25
  have HO0 := Aside0.mk (show Kd.V k25 25 w w.heap.size (fun k_ => ((P0_ k_ ∨ P1_ k_ ∨ P2_4_ k_) ∨ w.heap.size ≤ k_)) (.slice A0 l0.length c0) l0 from Kd.V_mono hs0 (fun k_ hk => .inl (.inl hk)))
  have HO1 := Aside0.mk (show Kd.V k25 25 w w.heap.size (fun k_ => ((P0_ k_ ∨ P1_ k_ ∨ P2_4_ k_) ∨ w.heap.size ≤ k_)) (.slice A1 l1.length c1) l1 from Kd.V_mono hs1 (fun k_ hk => .inl (.inr (.inl hk))))
  have HO2_4 := Aside0.mk (show Kd.V Kd.string 9 w w.heap.size (fun k_ => ((P0_ k_ ∨ P1_ k_ ∨ P2_4_ k_) ∨ w.heap.size ≤ k_)) (.slice A2_4 l2_4.length c2_4) l2_4 from Kd.V_mono hs2_4 (fun k_ hk => .inl (.inr (.inr hk))))
  have HB := Aside0.mk (Below.refl w.heap.size w)
  have H : ((acl_Admits.f k l0 a3 a4 a5).bind fun t209 => (tollhouselaw14_AclFirst.l0 k l0 l1 a3 a4 a5 t209 ([] : List (S25)) ([] : List (S25)) 0 a2_0 a2_1 a2_2 a2_3 l2_4)) = some r := h
  clear h
  replace H := Option.bind_eq_some_iff.mp H
  obtain ⟨t209, A70, H⟩ := H
  replace H : (tollhouselaw14_AclFirst.l0 k l0 l1 a3 a4 a5 t209 ([] : List (S25)) ([] : List (S25)) 0 a2_0 a2_1 a2_2 a2_3 l2_4) = some r := H
  have A7 := Aside0.mk A70
  clear A70
  have H' := Aside0.mk H
  clear H
  go_enter Tryd.func4, Tryd.ntmps4
  go_wp2_with (first | ((with_reducible refine gate_dst (N := 8) rfl ?_); (try (refine gate_guard (by rfl) ?_; dsimp only)); refine box_event ?hg (N := 8) ?hd (cs := #[.bool a2_0, .string a2_1, .int .i64 a2_2, .int .i64 a2_3, .slice A2_4 l2_4.length c2_4]) (t := 25) ?hr ?_; (case hd => rfl); (case hg => rfl); (case hr => first | (go_simp; done) | (go_simp; rfl)); intro gb208 hg w8 hbox hb; have n0_ := Aside0.mk (Kd.V_below (Kd.V_elderB (by (with_reducible repeat (first | apply Kd.V_alloc | apply Kd.V_drewN | apply Kd.V_drew)); exact HO0.out) gb208 (Nat.le_of_eq hg.symm)) hb); have n1_ := Aside0.mk (Kd.V_below (Kd.V_elderB (by (with_reducible repeat (first | apply Kd.V_alloc | apply Kd.V_drewN | apply Kd.V_drew)); exact HO1.out) gb208 (Nat.le_of_eq hg.symm)) hb); have n2_ := Aside0.mk (Kd.V_below (Kd.V_elderB (by (with_reducible repeat (first | apply Kd.V_alloc | apply Kd.V_drewN | apply Kd.V_drew)); exact HO2_4.out) gb208 (Nat.le_of_eq hg.symm)) hb); have n3_ := Aside0.mk (below_step (by repeat (first | (with_reducible first | exact HB.out | apply below_alloc | apply pw_below_drewN | apply below_drew1) | exact HB.out)) hb); have n4_ := Aside0.mk (hbox); have n5_ := Aside0.mk ((by rw [hg]; exact (below_size (by repeat (first | (with_reducible first | exact HB.out | apply below_alloc | apply pw_below_drewN | apply below_drew1) | exact HB.out))) : w.heap.size ≤ gb208)); have n6_ := Aside0.mk ((by rw [hg]; exact (below_size (by repeat (first | (with_reducible first | exact HB.out | apply below_alloc | apply pw_below_drewN | apply below_drew1) | exact HB.out))) : w.heap.size ≤ gb208)); clear HO0; clear HO1; clear HO2_4; clear HB; have HO0 := n0_; have HO1 := n1_; have HO2_4 := n2_; have HB := n3_; have BK208 := n4_; have GW208 := n5_; have GE208 := n6_; clear n0_ n1_ n2_ n3_ n4_ n5_ n6_; clear hb hbox hg) | ((with_reducible refine gate_callee (f := 14) rfl ?_); refine goesL_ (some 22) rfl rfl Tryd.func14 (by kernel_rfl) rfl #[.slice A0 l0.length c0, .string a3, .int .i64 a4, .string a5] rfl (by (try simp only [List.map_toArray, List.map_cons, List.map_nil]); first | done | rfl | (simp only [List.length_drop, List.length_take]; rfl)) ?_; (with_reducible refine (acl_Admits.calls k _ _ l0 a3 a4 a5 t209 _ ?side1 ?side2 A7.out).mono ?_); (case side1 => repeat (first | exact (Kd.V_reads' HO0.out).2.2 | (with_reducible refine Kd.C_alloc ?_ _) | (with_reducible refine Kd.C_drewN ?_ _) | (with_reducible refine Kd.C_drew ?_))); (case side2 => exact (Kd.V_reads' HO0.out).2.1); rintro e w9 ⟨rfl, hb⟩; refine ⟨_, rfl, ?_⟩; have n0_ := Aside0.mk (Kd.V_below (by (with_reducible repeat (first | apply Kd.V_alloc | apply Kd.V_drewN | apply Kd.V_drew)); exact HO0.out) hb); have n1_ := Aside0.mk (Kd.V_below (by (with_reducible repeat (first | apply Kd.V_alloc | apply Kd.V_drewN | apply Kd.V_drew)); exact HO1.out) hb); have n2_ := Aside0.mk (Kd.V_below (by (with_reducible repeat (first | apply Kd.V_alloc | apply Kd.V_drewN | apply Kd.V_drew)); exact HO2_4.out) hb); have n3_ := Aside0.mk (blk_below (g := gb208) (o := .cells #[.bool a2_0, .string a2_1, .int .i64 a2_2, .int .i64 a2_3, .slice A2_4 l2_4.length c2_4] 25 (0, 0)) (by (with_reducible repeat (first | refine blk_drewN ?_ _ | refine blk_drew ?_ | refine blk_alloc ?_ _)); exact BK208.out) hb); have n4_ := Aside0.mk (below_step (by repeat (first | (with_reducible first | exact HB.out | apply below_alloc | apply pw_below_drewN | apply below_drew1 | refine below_set ?_ GE208.out) | exact HB.out)) hb); clear HO0; clear HO1; clear HO2_4; clear BK208; clear HB; have HO0 := n0_; have HO1 := n1_; have HO2_4 := n2_; have BK208 := n3_; have HB := n4_; clear n0_ n1_ n2_ n3_ n4_; (try clear hb); (try clear hb2); (try clear hk); (try clear hi)))
  go_loopg [14, 15, 16] k (fun kq v14 v15 v16 w' => ∃ (x14_1 : List (S25)) (x15_1 : List (S25)) (x16_1 : Int), v16 = .int .i64 x16_1 ∧ Aside0 (tollhouselaw14_AclFirst.l0 kq l0 l1 a3 a4 a5 t209 x14_1 x15_1 x16_1 a2_0 a2_1 a2_2 a2_3 l2_4 = some r) ∧ Aside0 (kq ≤ k) ∧ Aside0 (Kd.V k25 25 w' w.heap.size (fun k_ => ((P0_ k_ ∨ P1_ k_ ∨ P2_4_ k_) ∨ w.heap.size ≤ k_) ∧ some k_ ≠ (v14 : Value).ownBlock ∧ some k_ ≠ (v15 : Value).ownBlock ∧ k_ ≠ gb208) (.slice A0 l0.length c0) l0) ∧ Aside0 (Kd.V k25 25 w' w.heap.size (fun k_ => ((P0_ k_ ∨ P1_ k_ ∨ P2_4_ k_) ∨ w.heap.size ≤ k_) ∧ some k_ ≠ (v14 : Value).ownBlock ∧ some k_ ≠ (v15 : Value).ownBlock ∧ k_ ≠ gb208) (.slice A1 l1.length c1) l1) ∧ Aside0 (Kd.N k25 25 w' w.heap.size (fun k_ => ((P0_ k_ ∨ P1_ k_ ∨ P2_4_ k_) ∨ w.heap.size ≤ k_) ∧ some k_ ≠ (v15 : Value).ownBlock ∧ k_ ≠ gb208) v14 x14_1) ∧ Aside0 (Kd.N k25 25 w' w.heap.size (fun k_ => ((P0_ k_ ∨ P1_ k_ ∨ P2_4_ k_) ∨ w.heap.size ≤ k_) ∧ some k_ ≠ (v14 : Value).ownBlock ∧ k_ ≠ gb208) v15 x15_1) ∧ Aside0 (Kd.V Kd.string 9 w' w.heap.size (fun k_ => ((P0_ k_ ∨ P1_ k_ ∨ P2_4_ k_) ∨ w.heap.size ≤ k_) ∧ some k_ ≠ (v14 : Value).ownBlock ∧ some k_ ≠ (v15 : Value).ownBlock ∧ k_ ≠ gb208) (.slice A2_4 l2_4.length c2_4) l2_4) ∧ Aside0 (w'.heap[gb208]? = some (.cells #[.bool a2_0, .string a2_1, .int .i64 a2_2, .int .i64 a2_3, (.slice A2_4 l2_4.length c2_4)] 25 (0, 0))) ∧ Aside0 (Below w.heap.size w w'))
  case atStart => exact ⟨(([] : List (S25))), (([] : List (S25))), (0), (by first | rfl | (simp; done) | (simp [*]; done)), H', ⟨Nat.le_refl _⟩, ⟨by (with_reducible repeat (first | apply Kd.V_alloc | apply Kd.V_drewN | apply Kd.V_drew)); exact Kd.V_mono HO0.out (fun _ hk => ⟨hk.1, ⟨(by simp [Value.ownBlock]), ⟨(by simp [Value.ownBlock]), hk.2⟩⟩⟩)⟩, ⟨by (with_reducible repeat (first | apply Kd.V_alloc | apply Kd.V_drewN | apply Kd.V_drew)); exact Kd.V_mono HO1.out (fun _ hk => ⟨hk.1, ⟨(by simp [Value.ownBlock]), ⟨(by simp [Value.ownBlock]), hk.2⟩⟩⟩)⟩, ⟨by first | exact Kd.S_nil _ _ _ _ _ | exact Kd.N_nil _ _ _ _ _ | exact Kd.V_nil _ _ _ _ _ | exact Kd.Q_nil _ _ _ _ _ | exact Kd.R_nil _ _ _ _ _⟩, ⟨by first | exact Kd.S_nil _ _ _ _ _ | exact Kd.N_nil _ _ _ _ _ | exact Kd.V_nil _ _ _ _ _ | exact Kd.Q_nil _ _ _ _ _ | exact Kd.R_nil _ _ _ _ _⟩, ⟨by (with_reducible repeat (first | apply Kd.V_alloc | apply Kd.V_drewN | apply Kd.V_drew)); exact Kd.V_mono HO2_4.out (fun _ hk => ⟨hk.1, ⟨(by simp [Value.ownBlock]), ⟨(by simp [Value.ownBlock]), hk.2⟩⟩⟩)⟩, ⟨by (with_reducible repeat (first | refine blk_drewN ?_ _ | refine blk_drew ?_ | refine blk_alloc ?_ _)); exact BK208.out⟩, ⟨by repeat (first | (with_reducible first | exact HB.out | apply below_alloc | apply pw_below_drewN | apply below_drew1 | refine below_set ?_ GE208.out) | exact HB.out)⟩⟩
  case round =>
    clear H'
    try clear c1
    try clear c2
    try clear p2
    try clear c4
    obtain ⟨x14_1, x15_1, x16_1, rfl, HA, HK1, HO_0, HO_1, HO_14, HO_15, HO_209004, BK208, HB⟩ := hrel
    cases gk with
    | zero => exact absurd HA.out (by simp [tollhouselaw14_AclFirst.l0])
    | succ k1 =>
      have H := HA.out
      clear HA
      simp only [tollhouselaw14_AclFirst.l0] at H
      by_cases c10 : x16_1 < (l0.length : Int)
      · rw [if_pos c10] at H
        have c10b0 : decide (x16_1 < (l0.length : Int)) = true := decide_eq_true c10
        clear c10
        by_cases c11 : 0 ≤ x16_1
        · rw [if_pos c11] at H
          have c11b0 : decide (0 ≤ x16_1) = true := decide_eq_true c11
          clear c11
          replace H := Option.bind_eq_some_iff.mp H
          obtain ⟨t211, A120, H⟩ := H
          replace H : (if t211 = true then (if x14_1.length < 2199023255552 then (tollhouselaw14_AclFirst.l0 k1 l0 l1 a3 a4 a5 t209 (x14_1 ++ [(⟨(rd_T25 l0 x16_1).f0, (rd_T25 l0 x16_1).f1, (rd_T25 l0 x16_1).f2, (rd_T25 l0 x16_1).f3, (rd_T25 l0 x16_1).f4⟩ : S25)]) x15_1 (wrap64 (x16_1 + 1)) a2_0 a2_1 a2_2 a2_3 l2_4) else (none)) else (if x15_1.length < 2199023255552 then (tollhouselaw14_AclFirst.l0 k1 l0 l1 a3 a4 a5 t209 x14_1 (x15_1 ++ [(⟨(rd_T25 l0 x16_1).f0, (rd_T25 l0 x16_1).f1, (rd_T25 l0 x16_1).f2, (rd_T25 l0 x16_1).f3, (rd_T25 l0 x16_1).f4⟩ : S25)]) (wrap64 (x16_1 + 1)) a2_0 a2_1 a2_2 a2_3 l2_4) else (none))) = some r := H
          have A12 := Aside0.mk A120
          clear A120
          by_cases c13 : t211 = true
          · subst c13
            have H1 : (if x14_1.length < 2199023255552 then (tollhouselaw14_AclFirst.l0 k1 l0 l1 a3 a4 a5 t209 (x14_1 ++ [(⟨(rd_T25 l0 x16_1).f0, (rd_T25 l0 x16_1).f1, (rd_T25 l0 x16_1).f2, (rd_T25 l0 x16_1).f3, (rd_T25 l0 x16_1).f4⟩ : S25)]) x15_1 (wrap64 (x16_1 + 1)) a2_0 a2_1 a2_2 a2_3 l2_4) else (none)) = some r := by rw [if_pos rfl] at H; exact H
            clear H
            have H := H1
            clear H1
            by_cases c14 : x14_1.length < 2199023255552
            · rw [if_pos c14] at H
              have LMc14 := Aside0.mk c14
              clear c14
              obtain ⟨y213, hy213⟩ : ∃ y_ : List (S25), y_ = (x14_1 ++ [(⟨(rd_T25 l0 x16_1).f0, (rd_T25 l0 x16_1).f1, (rd_T25 l0 x16_1).f2, (rd_T25 l0 x16_1).f3, (rd_T25 l0 x16_1).f4⟩ : S25)]) := ⟨_, rfl⟩
              replace H : (tollhouselaw14_AclFirst.l0 k1 l0 l1 a3 a4 a5 t209 y213 x15_1 (wrap64 (x16_1 + 1)) a2_0 a2_1 a2_2 a2_3 l2_4) = some r := by first | (rw [hy213]; with_reducible exact H) | (have H2_ := (Option.bind_some _ _).symm.trans H; rw [hy213]; with_reducible exact H2_) | (have H2_ := (Option.bind_some _ _).symm.trans H; with_reducible exact H2_) | with_reducible exact H | (rw [hy213]; exact H) | exact H
              have Ny213 := Aside0.mk hy213
              clear hy213
              have H' := Aside0.mk H
              clear H
              have p210 : 0 ≤ (x16_1 : Int) := of_decide_eq_true (by first | (with_reducible assumption) | assumption)
              have q210 : x16_1 < (l0.length : Int) := of_decide_eq_true (by first | (with_reducible assumption) | assumption)
              obtain ⟨ad210, A210_4, c210_4, e210, hx210_0, hx210_1, hx210_2, hx210_3, hx210_4, hl210_4, hi210_4⟩ := at_T25 (Kd.V_reads' HO_0.out).2.2 x16_1 p210 q210
              cases e210
              obtain ⟨ce210, hce210, hMe210, hcc210⟩ := Kd.V_get HO_0.out z25 x16_1 p210 (by first | exact q210 | exact of_decide_eq_true (by first | (with_reducible assumption) | assumption) | (have e_ := (Kd.V_reads' HO_0.out).1; omega))
              obtain ⟨ua210_4, uc210_4, rfl, ul210_4, ge210_4⟩ := k25_openF hMe210
              have hv210_4 := hcc210 4 _ rfl
              rw [add_field _ _ 4 (by omega)] at hv210_4
              replace hv210_4 := Option.some.inj (hv210_4.symm.trans hx210_4)
              injection hv210_4 with hva_ hvn_ hvc_
              rw [hva_] at ge210_4
              rw [hvc_] at ul210_4
              have HL210_4 := Aside0.mk (show Kd.V Kd.string 9 _ w.heap.size _ _ ((rd_T25 l0 x16_1).f4) from Kd.V_mk ul210_4 ge210_4)
              clear hva_ hvn_ hvc_ ge210_4 ul210_4
              clear hcc210 hce210
              have HR210_4 := Aside0.mk hi210_4
              have HC210_4 := Aside0.mk hl210_4
              clear hi210_4 hl210_4
              replace p210 := eq_true p210
              replace q210 := eq_true q210
              go_wp2_with (first | ((with_reducible refine gate_callee (f := 12) rfl ?_); refine goesL_ (some 36) rfl rfl Tryd.func12 (by kernel_rfl) rfl #[.agg #[.bool ((rd_T25 l0 x16_1).f0), .string ((rd_T25 l0 x16_1).f1), .int .i64 ((rd_T25 l0 x16_1).f2), .int .i64 ((rd_T25 l0 x16_1).f3), .slice A210_4 ((rd_T25 l0 x16_1).f4).length c210_4], .string a3, .int .i64 a4, .string a5] rfl (by (try simp only [List.map_toArray, List.map_cons, List.map_nil]); first | done | rfl | (simp only [List.length_drop, List.length_take]; rfl)) ?_; (with_reducible refine (acl_Matches.calls k1 ((rd_T25 l0 x16_1).f0) ((rd_T25 l0 x16_1).f1) ((rd_T25 l0 x16_1).f2) ((rd_T25 l0 x16_1).f3) _ _ ((rd_T25 l0 x16_1).f4) a3 a4 a5 true _ ?side1 ?side2 A12.out).mono ?_); (case side1 => repeat (first | exact (by repeat (first | (with_reducible exact HR210_4.out) | (with_reducible refine Kd.C_alloc ?_ _) | (with_reducible refine Kd.C_drewN ?_ _) | (with_reducible refine Kd.C_drew ?_) | exact HR210_4.out)) | (with_reducible refine Kd.C_alloc ?_ _) | (with_reducible refine Kd.C_drewN ?_ _) | (with_reducible refine Kd.C_drew ?_))); (case side2 => exact HC210_4.out); rintro e w15 ⟨rfl, hb⟩; refine ⟨_, rfl, ?_⟩; have n0_ := Aside0.mk (Kd.V_below (by (with_reducible repeat (first | apply Kd.V_alloc | apply Kd.V_drewN | apply Kd.V_drew)); exact HO_0.out) hb); have n1_ := Aside0.mk (Kd.V_below (by (with_reducible repeat (first | apply Kd.V_alloc | apply Kd.V_drewN | apply Kd.V_drew)); exact HO_1.out) hb); have n2_ := Aside0.mk (Kd.N_below (by (with_reducible repeat (first | apply Kd.N_alloc | apply Kd.N_drewN | apply Kd.N_drew)); exact HO_14.out) hb); have n3_ := Aside0.mk (Kd.N_below (by (with_reducible repeat (first | apply Kd.N_alloc | apply Kd.N_drewN | apply Kd.N_drew)); exact HO_15.out) hb); have n4_ := Aside0.mk (Kd.V_below (by (with_reducible repeat (first | apply Kd.V_alloc | apply Kd.V_drewN | apply Kd.V_drew)); exact HO_209004.out) hb); have n5_ := Aside0.mk (Kd.V_below (by (with_reducible repeat (first | apply Kd.V_alloc | apply Kd.V_drewN | apply Kd.V_drew)); exact HL210_4.out) hb); have n6_ := Aside0.mk (blk_below (g := gb208) (o := .cells #[.bool a2_0, .string a2_1, .int .i64 a2_2, .int .i64 a2_3, .slice A2_4 l2_4.length c2_4] 25 (0, 0)) (by (with_reducible repeat (first | refine blk_drewN ?_ _ | refine blk_drew ?_ | refine blk_alloc ?_ _)); exact BK208.out) hb); have n7_ := Aside0.mk (Kd.C_below (by repeat (first | (with_reducible exact HR210_4.out) | (with_reducible refine Kd.C_alloc ?_ _) | (with_reducible refine Kd.C_drewN ?_ _) | (with_reducible refine Kd.C_drew ?_) | exact HR210_4.out)) hb); have n8_ := Aside0.mk (below_step (by repeat (first | (with_reducible first | exact HB.out | apply below_alloc | apply pw_below_drewN | apply below_drew1 | refine below_set ?_ GE208.out) | exact HB.out)) hb); clear HO_0; clear HO_1; clear HO_14; clear HO_15; clear HO_209004; clear HL210_4; clear BK208; clear HR210_4; clear HB; have HO_0 := n0_; have HO_1 := n1_; have HO_14 := n2_; have HO_15 := n3_; have HO_209004 := n4_; have HL210_4 := n5_; have BK208 := n6_; have HR210_4 := n7_; have HB := n8_; clear n0_ n1_ n2_ n3_ n4_ n5_ n6_ n7_ n8_; (try clear hb); (try clear hb2); (try clear hk); (try clear hi); have p212 : 0 ≤ (x16_1 : Int) := of_decide_eq_true (by first | (with_reducible assumption) | assumption); have q212 : x16_1 < (l0.length : Int) := of_decide_eq_true (by first | (with_reducible assumption) | assumption); obtain ⟨ad212, A212_4, c212_4, e212, hx212_0, hx212_1, hx212_2, hx212_3, hx212_4, hl212_4, hi212_4⟩ := at_T25 (Kd.V_reads' HO_0.out).2.2 x16_1 p212 q212; obtain rfl : ad210 = ad212 := (by injection e212); obtain ⟨ce212, hce212, hMe212, hcc212⟩ := Kd.V_get HO_0.out z25 x16_1 p212 (by first | exact q212 | exact of_decide_eq_true (by first | (with_reducible assumption) | assumption) | (have e_ := (Kd.V_reads' HO_0.out).1; omega)); obtain ⟨ua212_4, uc212_4, rfl, ul212_4, ge212_4⟩ := k25_openF hMe212; have hv212_4 := hcc212 4 _ rfl; rw [add_field _ _ 4 (by omega)] at hv212_4; replace hv212_4 := Option.some.inj (hv212_4.symm.trans hx212_4); injection hv212_4 with hva_ hvn_ hvc_; rw [hva_] at ge212_4; rw [hvc_] at ul212_4; have HL212_4 := Aside0.mk (show Kd.V Kd.string 9 _ w.heap.size _ _ ((rd_T25 l0 x16_1).f4) from Kd.V_mk ul212_4 ge212_4); clear hva_ hvn_ hvc_ ge212_4 ul212_4; clear hcc212 hce212; have HR212_4 := Aside0.mk hi212_4; have HC212_4 := Aside0.mk hl212_4; clear hi212_4 hl212_4; replace p212 := eq_true p212; replace q212 := eq_true q212) | ((with_reducible refine gate_builtin (b := .append) (xs := #[.tmp 37, .tmp 42]) rfl ?_); (try (refine gate_guard (by rfl) ?_; dsimp only)); at_builtin; refine Kd.N_append k25 (w0 := w) w.heap.size rfl (.tmp 37) (.tmp 42) 22 25 (.agg #[(.bool false), (.string ⟨#[]⟩), (.int .i64 0), (.int .i64 0), (.slice none 0 0)]) 64 rfl Tryd.underlying22 info25 rfl (by decide) (by omega) u14 x14_1 (⟨(rd_T25 l0 x16_1).f0, (rd_T25 l0 x16_1).f1, (rd_T25 l0 x16_1).f2, (rd_T25 l0 x16_1).f3, (rd_T25 l0 x16_1).f4⟩ : S25) [.bool ((rd_T25 l0 x16_1).f0), .string ((rd_T25 l0 x16_1).f1), .int .i64 ((rd_T25 l0 x16_1).f2), .int .i64 ((rd_T25 l0 x16_1).f3), .slice A212_4 ((rd_T25 l0 x16_1).f4).length c212_4] (fun k_ => ((P0_ k_ ∨ P1_ k_ ∨ P2_4_ k_) ∨ w.heap.size ≤ k_) ∧ some k_ ≠ (u15 : Value).ownBlock ∧ k_ ≠ gb208) (fun k_ => ((fun k_ => ((P0_ k_ ∨ P1_ k_ ∨ P2_4_ k_) ∨ w.heap.size ≤ k_) ∧ some k_ ≠ (u15 : Value).ownBlock ∧ k_ ≠ gb208)) k_ ∧ some k_ ≠ (u14 : Value).ownBlock) rfl rfl ?aP (fun _ hk => hk) ?aF ?aO ?aB ?aS ?aL ?_; (case aP => exact (k25_mkF _ _ (⟨(rd_T25 l0 x16_1).f0, (rd_T25 l0 x16_1).f1, (rd_T25 l0 x16_1).f2, (rd_T25 l0 x16_1).f3, (rd_T25 l0 x16_1).f4⟩ : S25) (Kd.V_reads' (Kd.V_mono (ok' := (fun k_ => ((fun k_ => ((P0_ k_ ∨ P1_ k_ ∨ P2_4_ k_) ∨ w.heap.size ≤ k_) ∧ some k_ ≠ (u15 : Value).ownBlock ∧ k_ ≠ gb208)) k_ ∧ some k_ ≠ (u14 : Value).ownBlock)) (HL212_4.out) (fun k_ hk => ⟨⟨hk.1, ⟨hk.2.2.1, hk.2.2.2⟩⟩, hk.2.1⟩))).2.1 (Kd.V_F (Kd.V_mono (ok' := (fun k_ => ((fun k_ => ((P0_ k_ ∨ P1_ k_ ∨ P2_4_ k_) ∨ w.heap.size ≤ k_) ∧ some k_ ≠ (u15 : Value).ownBlock ∧ k_ ≠ gb208)) k_ ∧ some k_ ≠ (u14 : Value).ownBlock)) (HL212_4.out) (fun k_ hk => ⟨⟨hk.1, ⟨hk.2.2.1, hk.2.2.2⟩⟩, hk.2.1⟩))))); (case aB => exact (by repeat (first | (with_reducible first | exact HB.out | apply below_alloc | apply pw_below_drewN | apply below_drew1 | refine below_set ?_ GE208.out) | exact HB.out))); (case aF => exact (fun k_ hk => ⟨(.inr (Nat.le_trans (below_size (by repeat (first | (with_reducible first | exact HB.out | apply below_alloc | apply pw_below_drewN | apply below_drew1 | refine below_set ?_ GE208.out) | exact HB.out))) hk)), Kd.fresh' (Kd.N_lt (by (with_reducible repeat (first | apply Kd.N_alloc | apply Kd.N_drewN | apply Kd.N_drew)); exact HO_15.out)) k_ hk, Kd.freshB (g := gb208) (o := .cells #[.bool a2_0, .string a2_1, .int .i64 a2_2, .int .i64 a2_3, .slice A2_4 l2_4.length c2_4] 25 (0, 0)) (by (with_reducible repeat (first | refine blk_drewN ?_ _ | refine blk_drew ?_ | refine blk_alloc ?_ _)); exact BK208.out) k_ hk⟩)); (case aO => exact (by (with_reducible repeat (first | apply Kd.N_alloc | apply Kd.N_drewN | apply Kd.N_drew)); exact HO_14.out)); (case aS => exact (below_size (by repeat (first | (with_reducible first | exact HB.out | apply below_alloc | apply pw_below_drewN | apply below_drew1 | refine below_set ?_ GE208.out) | exact HB.out)))); (case aL => have := LMc14.out; omega); intro v214 w16 ho hb hg hat; rw [← Ny213.out] at ho; have n0_ := Aside0.mk (Kd.V_afterv (ok := (fun k_ => ((P0_ k_ ∨ P1_ k_ ∨ P2_4_ k_) ∨ w.heap.size ≤ k_) ∧ some k_ ≠ (u15 : Value).ownBlock ∧ k_ ≠ gb208)) (by (with_reducible repeat (first | apply Kd.V_alloc | apply Kd.V_drewN | apply Kd.V_drew)); exact Kd.V_mono HO_0.out (fun _ hk => ⟨⟨hk.1, ⟨hk.2.2.1, hk.2.2.2⟩⟩, hk.2.1⟩)) hg hat); have n1_ := Aside0.mk (Kd.V_afterv (ok := (fun k_ => ((P0_ k_ ∨ P1_ k_ ∨ P2_4_ k_) ∨ w.heap.size ≤ k_) ∧ some k_ ≠ (u15 : Value).ownBlock ∧ k_ ≠ gb208)) (by (with_reducible repeat (first | apply Kd.V_alloc | apply Kd.V_drewN | apply Kd.V_drew)); exact Kd.V_mono HO_1.out (fun _ hk => ⟨⟨hk.1, ⟨hk.2.2.1, hk.2.2.2⟩⟩, hk.2.1⟩)) hg hat); have n2_ := Aside0.mk (Kd.N_afterv (ok := (fun k_ => ((P0_ k_ ∨ P1_ k_ ∨ P2_4_ k_) ∨ w.heap.size ≤ k_) ∧ k_ ≠ gb208)) (by (with_reducible repeat (first | apply Kd.N_alloc | apply Kd.N_drewN | apply Kd.N_drew)); exact Kd.N_mono HO_15.out (fun _ hk => ⟨⟨hk.1, hk.2.2⟩, hk.2.1⟩)) hg hat); have n3_ := Aside0.mk (Kd.V_afterv (ok := (fun k_ => ((P0_ k_ ∨ P1_ k_ ∨ P2_4_ k_) ∨ w.heap.size ≤ k_) ∧ some k_ ≠ (u15 : Value).ownBlock ∧ k_ ≠ gb208)) (by (with_reducible repeat (first | apply Kd.V_alloc | apply Kd.V_drewN | apply Kd.V_drew)); exact Kd.V_mono HO_209004.out (fun _ hk => ⟨⟨hk.1, ⟨hk.2.2.1, hk.2.2.2⟩⟩, hk.2.1⟩)) hg hat); have n4_ := Aside0.mk (blk_grown (g := gb208) (o := .cells #[.bool a2_0, .string a2_1, .int .i64 a2_2, .int .i64 a2_3, .slice A2_4 l2_4.length c2_4] 25 (0, 0)) (by (with_reducible repeat (first | refine blk_drewN ?_ _ | refine blk_drew ?_ | refine blk_alloc ?_ _)); exact BK208.out) hg (Kd.N_away HO_14.out (fun _ hk => hk.2.2))); have n5_ := Aside0.mk (Kd.V_afterv (ok := (fun k_ => ((P0_ k_ ∨ P1_ k_ ∨ P2_4_ k_) ∨ w.heap.size ≤ k_) ∧ some k_ ≠ (u15 : Value).ownBlock ∧ k_ ≠ gb208)) (by (with_reducible repeat (first | apply Kd.V_alloc | apply Kd.V_drewN | apply Kd.V_drew)); exact Kd.V_mono HL210_4.out (fun _ hk => ⟨⟨hk.1, ⟨hk.2.2.1, hk.2.2.2⟩⟩, hk.2.1⟩)) hg hat); have n6_ := Aside0.mk (Kd.V_afterv (ok := (fun k_ => ((P0_ k_ ∨ P1_ k_ ∨ P2_4_ k_) ∨ w.heap.size ≤ k_) ∧ some k_ ≠ (u15 : Value).ownBlock ∧ k_ ≠ gb208)) (by (with_reducible repeat (first | apply Kd.V_alloc | apply Kd.V_drewN | apply Kd.V_drew)); exact Kd.V_mono HL212_4.out (fun _ hk => ⟨⟨hk.1, ⟨hk.2.2.1, hk.2.2.2⟩⟩, hk.2.1⟩)) hg hat); have n7_ := Aside0.mk (hb); have n8_ := Aside0.mk (ho); clear HO_0; clear HO_1; clear HO_15; clear HO_209004; clear BK208; clear HL210_4; clear HL212_4; clear HB; clear HO_14; have HO_0 := n0_; have HO_1 := n1_; have HO_15 := n2_; have HO_209004 := n3_; have BK208 := n4_; have HL210_4 := n5_; have HL212_4 := n6_; have HB := n7_; have HO215 := n8_; clear n0_ n1_ n2_ n3_ n4_ n5_ n6_ n7_ n8_; clear ho hb hg hat))
              go_roundg k1
              case measure => have := HK1.out; omega
              case rel => exact ⟨(y213), (x15_1), (wrap64 (x16_1 + 1)), (by first | rfl | (simp; done) | (simp [*]; done)), H', ⟨by have := HK1.out; omega⟩, ⟨by (with_reducible repeat (first | apply Kd.V_alloc | apply Kd.V_drewN | apply Kd.V_drew)); exact Kd.V_mono HO_0.out (fun _ hk => ⟨hk.1.1, ⟨hk.2, ⟨hk.1.2.1, hk.1.2.2⟩⟩⟩)⟩, ⟨by (with_reducible repeat (first | apply Kd.V_alloc | apply Kd.V_drewN | apply Kd.V_drew)); exact Kd.V_mono HO_1.out (fun _ hk => ⟨hk.1.1, ⟨hk.2, ⟨hk.1.2.1, hk.1.2.2⟩⟩⟩)⟩, ⟨by (with_reducible repeat (first | apply Kd.N_alloc | apply Kd.N_drewN | apply Kd.N_drew)); exact HO215.out⟩, ⟨by (with_reducible repeat (first | apply Kd.N_alloc | apply Kd.N_drewN | apply Kd.N_drew)); exact Kd.N_mono HO_15.out (fun _ hk => ⟨hk.1.1, ⟨hk.2, hk.1.2⟩⟩)⟩, ⟨by (with_reducible repeat (first | apply Kd.V_alloc | apply Kd.V_drewN | apply Kd.V_drew)); exact Kd.V_mono HO_209004.out (fun _ hk => ⟨hk.1.1, ⟨hk.2, ⟨hk.1.2.1, hk.1.2.2⟩⟩⟩)⟩, ⟨by (with_reducible repeat (first | refine blk_drewN ?_ _ | refine blk_drew ?_ | refine blk_alloc ?_ _)); exact BK208.out⟩, ⟨by repeat (first | (with_reducible first | exact HB.out | apply below_alloc | apply pw_below_drewN | apply below_drew1 | refine below_set ?_ GE208.out) | exact HB.out)⟩⟩
            · rw [if_neg c14] at H
              exact absurd H (by simp)
          · replace c13 := Bool.eq_false_iff.mpr c13
            subst c13
            have H1 : (if x15_1.length < 2199023255552 then (tollhouselaw14_AclFirst.l0 k1 l0 l1 a3 a4 a5 t209 x14_1 (x15_1 ++ [(⟨(rd_T25 l0 x16_1).f0, (rd_T25 l0 x16_1).f1, (rd_T25 l0 x16_1).f2, (rd_T25 l0 x16_1).f3, (rd_T25 l0 x16_1).f4⟩ : S25)]) (wrap64 (x16_1 + 1)) a2_0 a2_1 a2_2 a2_3 l2_4) else (none)) = some r := by rw [if_neg (show ¬ (false = true) by decide)] at H; exact H
            clear H
            have H := H1
            clear H1
            by_cases c17 : x15_1.length < 2199023255552
            · rw [if_pos c17] at H
              have LMc17 := Aside0.mk c17
              clear c17
              obtain ⟨y217, hy217⟩ : ∃ y_ : List (S25), y_ = (x15_1 ++ [(⟨(rd_T25 l0 x16_1).f0, (rd_T25 l0 x16_1).f1, (rd_T25 l0 x16_1).f2, (rd_T25 l0 x16_1).f3, (rd_T25 l0 x16_1).f4⟩ : S25)]) := ⟨_, rfl⟩
              replace H : (tollhouselaw14_AclFirst.l0 k1 l0 l1 a3 a4 a5 t209 x14_1 y217 (wrap64 (x16_1 + 1)) a2_0 a2_1 a2_2 a2_3 l2_4) = some r := by first | (rw [hy217]; with_reducible exact H) | (have H2_ := (Option.bind_some _ _).symm.trans H; rw [hy217]; with_reducible exact H2_) | (have H2_ := (Option.bind_some _ _).symm.trans H; with_reducible exact H2_) | with_reducible exact H | (rw [hy217]; exact H) | exact H
              have Ny217 := Aside0.mk hy217
              clear hy217
              have H' := Aside0.mk H
              clear H
              have p210 : 0 ≤ (x16_1 : Int) := of_decide_eq_true (by first | (with_reducible assumption) | assumption)
              have q210 : x16_1 < (l0.length : Int) := of_decide_eq_true (by first | (with_reducible assumption) | assumption)
              obtain ⟨ad210, A210_4, c210_4, e210, hx210_0, hx210_1, hx210_2, hx210_3, hx210_4, hl210_4, hi210_4⟩ := at_T25 (Kd.V_reads' HO_0.out).2.2 x16_1 p210 q210
              cases e210
              obtain ⟨ce210, hce210, hMe210, hcc210⟩ := Kd.V_get HO_0.out z25 x16_1 p210 (by first | exact q210 | exact of_decide_eq_true (by first | (with_reducible assumption) | assumption) | (have e_ := (Kd.V_reads' HO_0.out).1; omega))
              obtain ⟨ua210_4, uc210_4, rfl, ul210_4, ge210_4⟩ := k25_openF hMe210
              have hv210_4 := hcc210 4 _ rfl
              rw [add_field _ _ 4 (by omega)] at hv210_4
              replace hv210_4 := Option.some.inj (hv210_4.symm.trans hx210_4)
              injection hv210_4 with hva_ hvn_ hvc_
              rw [hva_] at ge210_4
              rw [hvc_] at ul210_4
              have HL210_4 := Aside0.mk (show Kd.V Kd.string 9 _ w.heap.size _ _ ((rd_T25 l0 x16_1).f4) from Kd.V_mk ul210_4 ge210_4)
              clear hva_ hvn_ hvc_ ge210_4 ul210_4
              clear hcc210 hce210
              have HR210_4 := Aside0.mk hi210_4
              have HC210_4 := Aside0.mk hl210_4
              clear hi210_4 hl210_4
              replace p210 := eq_true p210
              replace q210 := eq_true q210
              go_wp2_with (first | ((with_reducible refine gate_callee (f := 12) rfl ?_); refine goesL_ (some 36) rfl rfl Tryd.func12 (by kernel_rfl) rfl #[.agg #[.bool ((rd_T25 l0 x16_1).f0), .string ((rd_T25 l0 x16_1).f1), .int .i64 ((rd_T25 l0 x16_1).f2), .int .i64 ((rd_T25 l0 x16_1).f3), .slice A210_4 ((rd_T25 l0 x16_1).f4).length c210_4], .string a3, .int .i64 a4, .string a5] rfl (by (try simp only [List.map_toArray, List.map_cons, List.map_nil]); first | done | rfl | (simp only [List.length_drop, List.length_take]; rfl)) ?_; (with_reducible refine (acl_Matches.calls k1 ((rd_T25 l0 x16_1).f0) ((rd_T25 l0 x16_1).f1) ((rd_T25 l0 x16_1).f2) ((rd_T25 l0 x16_1).f3) _ _ ((rd_T25 l0 x16_1).f4) a3 a4 a5 false _ ?side1 ?side2 A12.out).mono ?_); (case side1 => repeat (first | exact (by repeat (first | (with_reducible exact HR210_4.out) | (with_reducible refine Kd.C_alloc ?_ _) | (with_reducible refine Kd.C_drewN ?_ _) | (with_reducible refine Kd.C_drew ?_) | exact HR210_4.out)) | (with_reducible refine Kd.C_alloc ?_ _) | (with_reducible refine Kd.C_drewN ?_ _) | (with_reducible refine Kd.C_drew ?_))); (case side2 => exact HC210_4.out); rintro e w18 ⟨rfl, hb⟩; refine ⟨_, rfl, ?_⟩; have n0_ := Aside0.mk (Kd.V_below (by (with_reducible repeat (first | apply Kd.V_alloc | apply Kd.V_drewN | apply Kd.V_drew)); exact HO_0.out) hb); have n1_ := Aside0.mk (Kd.V_below (by (with_reducible repeat (first | apply Kd.V_alloc | apply Kd.V_drewN | apply Kd.V_drew)); exact HO_1.out) hb); have n2_ := Aside0.mk (Kd.N_below (by (with_reducible repeat (first | apply Kd.N_alloc | apply Kd.N_drewN | apply Kd.N_drew)); exact HO_14.out) hb); have n3_ := Aside0.mk (Kd.N_below (by (with_reducible repeat (first | apply Kd.N_alloc | apply Kd.N_drewN | apply Kd.N_drew)); exact HO_15.out) hb); have n4_ := Aside0.mk (Kd.V_below (by (with_reducible repeat (first | apply Kd.V_alloc | apply Kd.V_drewN | apply Kd.V_drew)); exact HO_209004.out) hb); have n5_ := Aside0.mk (Kd.V_below (by (with_reducible repeat (first | apply Kd.V_alloc | apply Kd.V_drewN | apply Kd.V_drew)); exact HL210_4.out) hb); have n6_ := Aside0.mk (blk_below (g := gb208) (o := .cells #[.bool a2_0, .string a2_1, .int .i64 a2_2, .int .i64 a2_3, .slice A2_4 l2_4.length c2_4] 25 (0, 0)) (by (with_reducible repeat (first | refine blk_drewN ?_ _ | refine blk_drew ?_ | refine blk_alloc ?_ _)); exact BK208.out) hb); have n7_ := Aside0.mk (Kd.C_below (by repeat (first | (with_reducible exact HR210_4.out) | (with_reducible refine Kd.C_alloc ?_ _) | (with_reducible refine Kd.C_drewN ?_ _) | (with_reducible refine Kd.C_drew ?_) | exact HR210_4.out)) hb); have n8_ := Aside0.mk (below_step (by repeat (first | (with_reducible first | exact HB.out | apply below_alloc | apply pw_below_drewN | apply below_drew1 | refine below_set ?_ GE208.out) | exact HB.out)) hb); clear HO_0; clear HO_1; clear HO_14; clear HO_15; clear HO_209004; clear HL210_4; clear BK208; clear HR210_4; clear HB; have HO_0 := n0_; have HO_1 := n1_; have HO_14 := n2_; have HO_15 := n3_; have HO_209004 := n4_; have HL210_4 := n5_; have BK208 := n6_; have HR210_4 := n7_; have HB := n8_; clear n0_ n1_ n2_ n3_ n4_ n5_ n6_ n7_ n8_; (try clear hb); (try clear hb2); (try clear hk); (try clear hi); have p216 : 0 ≤ (x16_1 : Int) := of_decide_eq_true (by first | (with_reducible assumption) | assumption); have q216 : x16_1 < (l0.length : Int) := of_decide_eq_true (by first | (with_reducible assumption) | assumption); obtain ⟨ad216, A216_4, c216_4, e216, hx216_0, hx216_1, hx216_2, hx216_3, hx216_4, hl216_4, hi216_4⟩ := at_T25 (Kd.V_reads' HO_0.out).2.2 x16_1 p216 q216; obtain rfl : ad210 = ad216 := (by injection e216); obtain ⟨ce216, hce216, hMe216, hcc216⟩ := Kd.V_get HO_0.out z25 x16_1 p216 (by first | exact q216 | exact of_decide_eq_true (by first | (with_reducible assumption) | assumption) | (have e_ := (Kd.V_reads' HO_0.out).1; omega)); obtain ⟨ua216_4, uc216_4, rfl, ul216_4, ge216_4⟩ := k25_openF hMe216; have hv216_4 := hcc216 4 _ rfl; rw [add_field _ _ 4 (by omega)] at hv216_4; replace hv216_4 := Option.some.inj (hv216_4.symm.trans hx216_4); injection hv216_4 with hva_ hvn_ hvc_; rw [hva_] at ge216_4; rw [hvc_] at ul216_4; have HL216_4 := Aside0.mk (show Kd.V Kd.string 9 _ w.heap.size _ _ ((rd_T25 l0 x16_1).f4) from Kd.V_mk ul216_4 ge216_4); clear hva_ hvn_ hvc_ ge216_4 ul216_4; clear hcc216 hce216; have HR216_4 := Aside0.mk hi216_4; have HC216_4 := Aside0.mk hl216_4; clear hi216_4 hl216_4; replace p216 := eq_true p216; replace q216 := eq_true q216) | ((with_reducible refine gate_builtin (b := .append) (xs := #[.tmp 44, .tmp 49]) rfl ?_); (try (refine gate_guard (by rfl) ?_; dsimp only)); at_builtin; refine Kd.N_append k25 (w0 := w) w.heap.size rfl (.tmp 44) (.tmp 49) 22 25 (.agg #[(.bool false), (.string ⟨#[]⟩), (.int .i64 0), (.int .i64 0), (.slice none 0 0)]) 64 rfl Tryd.underlying22 info25 rfl (by decide) (by omega) u15 x15_1 (⟨(rd_T25 l0 x16_1).f0, (rd_T25 l0 x16_1).f1, (rd_T25 l0 x16_1).f2, (rd_T25 l0 x16_1).f3, (rd_T25 l0 x16_1).f4⟩ : S25) [.bool ((rd_T25 l0 x16_1).f0), .string ((rd_T25 l0 x16_1).f1), .int .i64 ((rd_T25 l0 x16_1).f2), .int .i64 ((rd_T25 l0 x16_1).f3), .slice A216_4 ((rd_T25 l0 x16_1).f4).length c216_4] (fun k_ => ((P0_ k_ ∨ P1_ k_ ∨ P2_4_ k_) ∨ w.heap.size ≤ k_) ∧ some k_ ≠ (u14 : Value).ownBlock ∧ k_ ≠ gb208) (fun k_ => ((fun k_ => ((P0_ k_ ∨ P1_ k_ ∨ P2_4_ k_) ∨ w.heap.size ≤ k_) ∧ some k_ ≠ (u14 : Value).ownBlock ∧ k_ ≠ gb208)) k_ ∧ some k_ ≠ (u15 : Value).ownBlock) rfl rfl ?aP (fun _ hk => hk) ?aF ?aO ?aB ?aS ?aL ?_; (case aP => exact (k25_mkF _ _ (⟨(rd_T25 l0 x16_1).f0, (rd_T25 l0 x16_1).f1, (rd_T25 l0 x16_1).f2, (rd_T25 l0 x16_1).f3, (rd_T25 l0 x16_1).f4⟩ : S25) (Kd.V_reads' (Kd.V_mono (ok' := (fun k_ => ((fun k_ => ((P0_ k_ ∨ P1_ k_ ∨ P2_4_ k_) ∨ w.heap.size ≤ k_) ∧ some k_ ≠ (u14 : Value).ownBlock ∧ k_ ≠ gb208)) k_ ∧ some k_ ≠ (u15 : Value).ownBlock)) (HL216_4.out) (fun k_ hk => ⟨⟨hk.1, ⟨hk.2.1, hk.2.2.2⟩⟩, hk.2.2.1⟩))).2.1 (Kd.V_F (Kd.V_mono (ok' := (fun k_ => ((fun k_ => ((P0_ k_ ∨ P1_ k_ ∨ P2_4_ k_) ∨ w.heap.size ≤ k_) ∧ some k_ ≠ (u14 : Value).ownBlock ∧ k_ ≠ gb208)) k_ ∧ some k_ ≠ (u15 : Value).ownBlock)) (HL216_4.out) (fun k_ hk => ⟨⟨hk.1, ⟨hk.2.1, hk.2.2.2⟩⟩, hk.2.2.1⟩))))); (case aB => exact (by repeat (first | (with_reducible first | exact HB.out | apply below_alloc | apply pw_below_drewN | apply below_drew1 | refine below_set ?_ GE208.out) | exact HB.out))); (case aF => exact (fun k_ hk => ⟨(.inr (Nat.le_trans (below_size (by repeat (first | (with_reducible first | exact HB.out | apply below_alloc | apply pw_below_drewN | apply below_drew1 | refine below_set ?_ GE208.out) | exact HB.out))) hk)), Kd.fresh' (Kd.N_lt (by (with_reducible repeat (first | apply Kd.N_alloc | apply Kd.N_drewN | apply Kd.N_drew)); exact HO_14.out)) k_ hk, Kd.freshB (g := gb208) (o := .cells #[.bool a2_0, .string a2_1, .int .i64 a2_2, .int .i64 a2_3, .slice A2_4 l2_4.length c2_4] 25 (0, 0)) (by (with_reducible repeat (first | refine blk_drewN ?_ _ | refine blk_drew ?_ | refine blk_alloc ?_ _)); exact BK208.out) k_ hk⟩)); (case aO => exact (by (with_reducible repeat (first | apply Kd.N_alloc | apply Kd.N_drewN | apply Kd.N_drew)); exact HO_15.out)); (case aS => exact (below_size (by repeat (first | (with_reducible first | exact HB.out | apply below_alloc | apply pw_below_drewN | apply below_drew1 | refine below_set ?_ GE208.out) | exact HB.out)))); (case aL => have := LMc17.out; omega); intro v218 w19 ho hb hg hat; rw [← Ny217.out] at ho; have n0_ := Aside0.mk (Kd.V_afterv (ok := (fun k_ => ((P0_ k_ ∨ P1_ k_ ∨ P2_4_ k_) ∨ w.heap.size ≤ k_) ∧ some k_ ≠ (u14 : Value).ownBlock ∧ k_ ≠ gb208)) (by (with_reducible repeat (first | apply Kd.V_alloc | apply Kd.V_drewN | apply Kd.V_drew)); exact Kd.V_mono HO_0.out (fun _ hk => ⟨⟨hk.1, ⟨hk.2.1, hk.2.2.2⟩⟩, hk.2.2.1⟩)) hg hat); have n1_ := Aside0.mk (Kd.V_afterv (ok := (fun k_ => ((P0_ k_ ∨ P1_ k_ ∨ P2_4_ k_) ∨ w.heap.size ≤ k_) ∧ some k_ ≠ (u14 : Value).ownBlock ∧ k_ ≠ gb208)) (by (with_reducible repeat (first | apply Kd.V_alloc | apply Kd.V_drewN | apply Kd.V_drew)); exact Kd.V_mono HO_1.out (fun _ hk => ⟨⟨hk.1, ⟨hk.2.1, hk.2.2.2⟩⟩, hk.2.2.1⟩)) hg hat); have n2_ := Aside0.mk (Kd.N_afterv (ok := (fun k_ => ((P0_ k_ ∨ P1_ k_ ∨ P2_4_ k_) ∨ w.heap.size ≤ k_) ∧ k_ ≠ gb208)) (by (with_reducible repeat (first | apply Kd.N_alloc | apply Kd.N_drewN | apply Kd.N_drew)); exact Kd.N_mono HO_14.out (fun _ hk => ⟨⟨hk.1, hk.2.2⟩, hk.2.1⟩)) hg hat); have n3_ := Aside0.mk (Kd.V_afterv (ok := (fun k_ => ((P0_ k_ ∨ P1_ k_ ∨ P2_4_ k_) ∨ w.heap.size ≤ k_) ∧ some k_ ≠ (u14 : Value).ownBlock ∧ k_ ≠ gb208)) (by (with_reducible repeat (first | apply Kd.V_alloc | apply Kd.V_drewN | apply Kd.V_drew)); exact Kd.V_mono HO_209004.out (fun _ hk => ⟨⟨hk.1, ⟨hk.2.1, hk.2.2.2⟩⟩, hk.2.2.1⟩)) hg hat); have n4_ := Aside0.mk (blk_grown (g := gb208) (o := .cells #[.bool a2_0, .string a2_1, .int .i64 a2_2, .int .i64 a2_3, .slice A2_4 l2_4.length c2_4] 25 (0, 0)) (by (with_reducible repeat (first | refine blk_drewN ?_ _ | refine blk_drew ?_ | refine blk_alloc ?_ _)); exact BK208.out) hg (Kd.N_away HO_15.out (fun _ hk => hk.2.2))); have n5_ := Aside0.mk (Kd.V_afterv (ok := (fun k_ => ((P0_ k_ ∨ P1_ k_ ∨ P2_4_ k_) ∨ w.heap.size ≤ k_) ∧ some k_ ≠ (u14 : Value).ownBlock ∧ k_ ≠ gb208)) (by (with_reducible repeat (first | apply Kd.V_alloc | apply Kd.V_drewN | apply Kd.V_drew)); exact Kd.V_mono HL210_4.out (fun _ hk => ⟨⟨hk.1, ⟨hk.2.1, hk.2.2.2⟩⟩, hk.2.2.1⟩)) hg hat); have n6_ := Aside0.mk (Kd.V_afterv (ok := (fun k_ => ((P0_ k_ ∨ P1_ k_ ∨ P2_4_ k_) ∨ w.heap.size ≤ k_) ∧ some k_ ≠ (u14 : Value).ownBlock ∧ k_ ≠ gb208)) (by (with_reducible repeat (first | apply Kd.V_alloc | apply Kd.V_drewN | apply Kd.V_drew)); exact Kd.V_mono HL216_4.out (fun _ hk => ⟨⟨hk.1, ⟨hk.2.1, hk.2.2.2⟩⟩, hk.2.2.1⟩)) hg hat); have n7_ := Aside0.mk (hb); have n8_ := Aside0.mk (ho); clear HO_0; clear HO_1; clear HO_14; clear HO_209004; clear BK208; clear HL210_4; clear HL216_4; clear HB; clear HO_15; have HO_0 := n0_; have HO_1 := n1_; have HO_14 := n2_; have HO_209004 := n3_; have BK208 := n4_; have HL210_4 := n5_; have HL216_4 := n6_; have HB := n7_; have HO219 := n8_; clear n0_ n1_ n2_ n3_ n4_ n5_ n6_ n7_ n8_; clear ho hb hg hat))
              go_roundg k1
              case measure => have := HK1.out; omega
              case rel => exact ⟨(x14_1), (y217), (wrap64 (x16_1 + 1)), (by first | rfl | (simp; done) | (simp [*]; done)), H', ⟨by have := HK1.out; omega⟩, ⟨by (with_reducible repeat (first | apply Kd.V_alloc | apply Kd.V_drewN | apply Kd.V_drew)); exact Kd.V_mono HO_0.out (fun _ hk => ⟨hk.1.1, ⟨hk.1.2.1, ⟨hk.2, hk.1.2.2⟩⟩⟩)⟩, ⟨by (with_reducible repeat (first | apply Kd.V_alloc | apply Kd.V_drewN | apply Kd.V_drew)); exact Kd.V_mono HO_1.out (fun _ hk => ⟨hk.1.1, ⟨hk.1.2.1, ⟨hk.2, hk.1.2.2⟩⟩⟩)⟩, ⟨by (with_reducible repeat (first | apply Kd.N_alloc | apply Kd.N_drewN | apply Kd.N_drew)); exact Kd.N_mono HO_14.out (fun _ hk => ⟨hk.1.1, ⟨hk.2, hk.1.2⟩⟩)⟩, ⟨by (with_reducible repeat (first | apply Kd.N_alloc | apply Kd.N_drewN | apply Kd.N_drew)); exact HO219.out⟩, ⟨by (with_reducible repeat (first | apply Kd.V_alloc | apply Kd.V_drewN | apply Kd.V_drew)); exact Kd.V_mono HO_209004.out (fun _ hk => ⟨hk.1.1, ⟨hk.1.2.1, ⟨hk.2, hk.1.2.2⟩⟩⟩)⟩, ⟨by (with_reducible repeat (first | refine blk_drewN ?_ _ | refine blk_drew ?_ | refine blk_alloc ?_ _)); exact BK208.out⟩, ⟨by repeat (first | (with_reducible first | exact HB.out | apply below_alloc | apply pw_below_drewN | apply below_drew1 | refine below_set ?_ GE208.out) | exact HB.out)⟩⟩
            · rw [if_neg c17] at H
              exact absurd H (by simp)
        · rw [if_neg c11] at H
          exact absurd H (by simp)
      · rw [if_neg c10] at H
        have c10b0 : decide (x16_1 < (l0.length : Int)) = false := decide_eq_false c10
        clear c10
        by_cases c20 : (x14_1.length : Int) = 0
        · rw [if_pos c20] at H
          have c20b0 : ((x14_1.length : Int) == 0) = true := beq_iff_eq.mpr c20
          have c20b1 : ((x14_1.length : Int) != 0) = false := bne_eq_false_iff_eq.mpr c20
          clear c20
          by_cases c21 : t209 = true
          · subst c21
            have H1 : (some false) = some r := by rw [if_pos rfl] at H; exact H
            clear H
            have H := H1
            clear H1
            exact absurd ((Option.some.inj H).trans hr_) (by decide)
          · replace c21 := Bool.eq_false_iff.mpr c21
            subst c21
            have H1 : (if ([] : List (S25)).length + l0.length < 2199023255552 then ((some (([] : List (S25)) ++ l0 : List (S25))).bind fun y220 => (if y220.length + l1.length < 2199023255552 then ((acl_Admits.f k1 (y220 ++ l1) a3 a4 a5).bind fun t226 => ((acl_Admits.f k1 l1 a3 a4 a5).bind fun t227 => (if (t226 == t227) = true then ((tollhouselaw14_wakes.f k1).bind fun t228 => (some t228)) else (some false)))) else (none))) else (none)) = some r := by rw [if_neg (show ¬ (false = true) by decide)] at H; exact H
            clear H
            have H := H1
            clear H1
            by_cases c22 : ([] : List (S25)).length + l0.length < 2199023255552
            · rw [if_pos c22] at H
              have LMc22 := Aside0.mk c22
              clear c22
              obtain ⟨y220, hy220⟩ : ∃ y_ : List (S25), y_ = (([] : List (S25)) ++ l0) := ⟨_, rfl⟩
              replace H : (if y220.length + l1.length < 2199023255552 then ((acl_Admits.f k1 (y220 ++ l1) a3 a4 a5).bind fun t226 => ((acl_Admits.f k1 l1 a3 a4 a5).bind fun t227 => (if (t226 == t227) = true then ((tollhouselaw14_wakes.f k1).bind fun t228 => (some t228)) else (some false)))) else (none)) = some r := by first | (rw [hy220]; with_reducible exact H) | (have H2_ := (Option.bind_some _ _).symm.trans H; rw [hy220]; with_reducible exact H2_) | (have H2_ := (Option.bind_some _ _).symm.trans H; with_reducible exact H2_) | with_reducible exact H | (rw [hy220]; exact H) | exact H
              have Ny220 := Aside0.mk hy220
              clear hy220
              by_cases c23 : y220.length + l1.length < 2199023255552
              · rw [if_pos c23] at H
                have LMc23 := Aside0.mk c23
                clear c23
                obtain ⟨y223, hy223⟩ : ∃ y_ : List (S25), y_ = (y220 ++ l1) := ⟨_, rfl⟩
                replace H : ((acl_Admits.f k1 y223 a3 a4 a5).bind fun t226 => ((acl_Admits.f k1 l1 a3 a4 a5).bind fun t227 => (if (t226 == t227) = true then ((tollhouselaw14_wakes.f k1).bind fun t228 => (some t228)) else (some false)))) = some r := by first | (rw [hy223]; with_reducible exact H) | (have H2_ := (Option.bind_some _ _).symm.trans H; rw [hy223]; with_reducible exact H2_) | (have H2_ := (Option.bind_some _ _).symm.trans H; with_reducible exact H2_) | with_reducible exact H | (rw [hy223]; exact H) | exact H
                have Ny223 := Aside0.mk hy223
                clear hy223
                replace H := Option.bind_eq_some_iff.mp H
                obtain ⟨t226, A240, H⟩ := H
                replace H : ((acl_Admits.f k1 l1 a3 a4 a5).bind fun t227 => (if (t226 == t227) = true then ((tollhouselaw14_wakes.f k1).bind fun t228 => (some t228)) else (some false))) = some r := H
                have A24 := Aside0.mk A240
                clear A240
                replace H := Option.bind_eq_some_iff.mp H
                obtain ⟨t227, A250, H⟩ := H
                replace H : (if (t226 == t227) = true then ((tollhouselaw14_wakes.f k1).bind fun t228 => (some t228)) else (some false)) = some r := H
                have A25 := Aside0.mk A250
                clear A250
                by_cases c26 : (t226 == t227) = true
                · rw [if_pos c26] at H
                  have c26b0 : (t226 == t227) = true := c26
                  (try (have c26b1 : decide (t226 = t227) = true := by simpa using c26))
                  (try (have c26b2 : (t226 == t227) = true := by simpa using c26))
                  clear c26
                  replace H := Option.bind_eq_some_iff.mp H
                  obtain ⟨t228, A270, H⟩ := H
                  replace H : (some t228) = some r := H
                  have A27 := Aside0.mk A270
                  clear A270
                  obtain rfl := Option.some.inj H
                  obtain ⟨Ao28, co28, eo28⟩ := Kd.N_slice HO_14.out
                  subst eo28
                  go_wp2_with (first | ((with_reducible refine gate_builtin (b := .append) (xs := #[.const (.slice none 0 0), .tmp 57]) rfl ?_); (try (refine gate_guard (by rfl) ?_; dsimp only)); at_builtin; refine Kd.N_append_rows k25 (w0 := w) w.heap.size rfl (.const (.slice none 0 0)) (.tmp 57) 22 25 (.agg #[(.bool false), (.string ⟨#[]⟩), (.int .i64 0), (.int .i64 0), (.slice none 0 0)]) 64 rfl Tryd.underlying22 info25 rfl (by decide) (by omega) (.slice none 0 0) ([] : List (S25)) l0 _ _ _ (fun k_ => ((P0_ k_ ∨ P1_ k_ ∨ P2_4_ k_) ∨ w.heap.size ≤ k_) ∧ some k_ ≠ (.slice Ao28 x14_1.length co28 : Value).ownBlock ∧ some k_ ≠ (u15 : Value).ownBlock ∧ k_ ≠ gb208) (fun k_ => ((fun k_ => ((P0_ k_ ∨ P1_ k_ ∨ P2_4_ k_) ∨ w.heap.size ≤ k_) ∧ some k_ ≠ (.slice Ao28 x14_1.length co28 : Value).ownBlock ∧ some k_ ≠ (u15 : Value).ownBlock ∧ k_ ≠ gb208)) k_ ∧ some k_ ≠ (.slice none 0 0 : Value).ownBlock) rfl rfl ?aO ?aR (fun _ hk => hk) ?aF ?aB ?aS ?aL ?_; (case aR => exact (by skip; exact Kd.V_F (Kd.V_mono (ok' := (fun k_ => ((fun k_ => ((P0_ k_ ∨ P1_ k_ ∨ P2_4_ k_) ∨ w.heap.size ≤ k_) ∧ some k_ ≠ (.slice Ao28 x14_1.length co28 : Value).ownBlock ∧ some k_ ≠ (u15 : Value).ownBlock ∧ k_ ≠ gb208)) k_ ∧ some k_ ≠ (.slice none 0 0 : Value).ownBlock)) (HO_0.out) (fun k_ hk => ⟨⟨hk.1, ⟨hk.2.1, ⟨hk.2.2.1, hk.2.2.2⟩⟩⟩, (by simp [Value.ownBlock])⟩)))); (case aB => exact (by repeat (first | (with_reducible first | exact HB.out | apply below_alloc | apply pw_below_drewN | apply below_drew1 | refine below_set ?_ GE208.out) | exact HB.out))); (case aF => exact (fun k_ hk => ⟨(.inr (Nat.le_trans (below_size (by repeat (first | (with_reducible first | exact HB.out | apply below_alloc | apply pw_below_drewN | apply below_drew1 | refine below_set ?_ GE208.out) | exact HB.out))) hk)), Kd.fresh' (Kd.N_lt (by (with_reducible repeat (first | apply Kd.N_alloc | apply Kd.N_drewN | apply Kd.N_drew)); exact HO_14.out)) k_ hk, Kd.fresh' (Kd.N_lt (by (with_reducible repeat (first | apply Kd.N_alloc | apply Kd.N_drewN | apply Kd.N_drew)); exact HO_15.out)) k_ hk, Kd.freshB (g := gb208) (o := .cells #[.bool a2_0, .string a2_1, .int .i64 a2_2, .int .i64 a2_3, .slice A2_4 l2_4.length c2_4] 25 (0, 0)) (by (with_reducible repeat (first | refine blk_drewN ?_ _ | refine blk_drew ?_ | refine blk_alloc ?_ _)); exact BK208.out) k_ hk⟩)); (case aO => exact ((Kd.N_nil _ _ _ _ (fun k_ => ((P0_ k_ ∨ P1_ k_ ∨ P2_4_ k_) ∨ w.heap.size ≤ k_) ∧ some k_ ≠ (.slice Ao28 x14_1.length co28 : Value).ownBlock ∧ some k_ ≠ (u15 : Value).ownBlock ∧ k_ ≠ gb208)))); (case aS => exact (below_size (by repeat (first | (with_reducible first | exact HB.out | apply below_alloc | apply pw_below_drewN | apply below_drew1 | refine below_set ?_ GE208.out) | exact HB.out)))); (case aL => have := LMc22.out; omega); intro v221 w29 ho hb hg hat; rw [← Ny220.out] at ho; have n0_ := Aside0.mk (Kd.V_afterv (Kd.V_apart_nil (by (with_reducible repeat (first | apply Kd.V_alloc | apply Kd.V_drewN | apply Kd.V_drew)); exact HO_0.out)) hg hat); have n1_ := Aside0.mk (Kd.V_afterv (Kd.V_apart_nil (by (with_reducible repeat (first | apply Kd.V_alloc | apply Kd.V_drewN | apply Kd.V_drew)); exact HO_1.out)) hg hat); have n2_ := Aside0.mk (Kd.N_afterv (Kd.N_apart_nil (by (with_reducible repeat (first | apply Kd.N_alloc | apply Kd.N_drewN | apply Kd.N_drew)); exact HO_14.out)) hg hat); have n3_ := Aside0.mk (Kd.N_afterv (Kd.N_apart_nil (by (with_reducible repeat (first | apply Kd.N_alloc | apply Kd.N_drewN | apply Kd.N_drew)); exact HO_15.out)) hg hat); have n4_ := Aside0.mk (Kd.V_afterv (Kd.V_apart_nil (by (with_reducible repeat (first | apply Kd.V_alloc | apply Kd.V_drewN | apply Kd.V_drew)); exact HO_209004.out)) hg hat); have n5_ := Aside0.mk (blk_grown (g := gb208) (o := .cells #[.bool a2_0, .string a2_1, .int .i64 a2_2, .int .i64 a2_3, .slice A2_4 l2_4.length c2_4] 25 (0, 0)) (by (with_reducible repeat (first | refine blk_drewN ?_ _ | refine blk_drew ?_ | refine blk_alloc ?_ _)); exact BK208.out) hg (by simp [Value.ownBlock])); have n6_ := Aside0.mk (hb); have n7_ := Aside0.mk (ho); clear HO_0; clear HO_1; clear HO_14; clear HO_15; clear HO_209004; clear BK208; clear HB; have HO_0 := n0_; have HO_1 := n1_; have HO_14 := n2_; have HO_15 := n3_; have HO_209004 := n4_; have BK208 := n5_; have HB := n6_; have HO222 := n7_; clear n0_ n1_ n2_ n3_ n4_ n5_ n6_ n7_; clear ho hb hg hat) | ((with_reducible refine gate_builtin (b := .append) (xs := #[.tmp 58, .tmp 59]) rfl ?_); (try (refine gate_guard (by rfl) ?_; dsimp only)); at_builtin; refine Kd.N_append_rows k25 (w0 := w) w.heap.size rfl (.tmp 58) (.tmp 59) 22 25 (.agg #[(.bool false), (.string ⟨#[]⟩), (.int .i64 0), (.int .i64 0), (.slice none 0 0)]) 64 rfl Tryd.underlying22 info25 rfl (by decide) (by omega) v221 y220 l1 _ _ _ (fun k_ => ((P0_ k_ ∨ P1_ k_ ∨ P2_4_ k_) ∨ w.heap.size ≤ k_) ∧ some k_ ≠ (.slice Ao28 x14_1.length co28 : Value).ownBlock ∧ some k_ ≠ (u15 : Value).ownBlock ∧ k_ ≠ gb208) (fun k_ => ((fun k_ => ((P0_ k_ ∨ P1_ k_ ∨ P2_4_ k_) ∨ w.heap.size ≤ k_) ∧ some k_ ≠ (.slice Ao28 x14_1.length co28 : Value).ownBlock ∧ some k_ ≠ (u15 : Value).ownBlock ∧ k_ ≠ gb208)) k_ ∧ some k_ ≠ (v221 : Value).ownBlock) rfl rfl ?aO ?aR (fun _ hk => hk) ?aF ?aB ?aS ?aL ?_; (case aR => exact (by skip; exact Kd.V_F (Kd.V_mono (ok' := (fun k_ => ((fun k_ => ((P0_ k_ ∨ P1_ k_ ∨ P2_4_ k_) ∨ w.heap.size ≤ k_) ∧ some k_ ≠ (.slice Ao28 x14_1.length co28 : Value).ownBlock ∧ some k_ ≠ (u15 : Value).ownBlock ∧ k_ ≠ gb208)) k_ ∧ some k_ ≠ (v221 : Value).ownBlock)) (HO_1.out) (fun k_ hk => ⟨⟨hk.1.1, ⟨hk.1.2.1, ⟨hk.1.2.2.1, hk.1.2.2.2⟩⟩⟩, hk.2⟩)))); (case aB => exact (by repeat (first | (with_reducible first | exact HB.out | apply below_alloc | apply pw_below_drewN | apply below_drew1 | refine below_set ?_ GE208.out) | exact HB.out))); (case aF => exact (fun k_ hk => ⟨(.inr (Nat.le_trans (below_size (by repeat (first | (with_reducible first | exact HB.out | apply below_alloc | apply pw_below_drewN | apply below_drew1 | refine below_set ?_ GE208.out) | exact HB.out))) hk)), Kd.fresh' (Kd.N_lt (by (with_reducible repeat (first | apply Kd.N_alloc | apply Kd.N_drewN | apply Kd.N_drew)); exact HO_14.out)) k_ hk, Kd.fresh' (Kd.N_lt (by (with_reducible repeat (first | apply Kd.N_alloc | apply Kd.N_drewN | apply Kd.N_drew)); exact HO_15.out)) k_ hk, Kd.freshB (g := gb208) (o := .cells #[.bool a2_0, .string a2_1, .int .i64 a2_2, .int .i64 a2_3, .slice A2_4 l2_4.length c2_4] 25 (0, 0)) (by (with_reducible repeat (first | refine blk_drewN ?_ _ | refine blk_drew ?_ | refine blk_alloc ?_ _)); exact BK208.out) k_ hk⟩)); (case aO => exact (by (with_reducible repeat (first | apply Kd.N_alloc | apply Kd.N_drewN | apply Kd.N_drew)); exact HO222.out)); (case aS => exact (below_size (by repeat (first | (with_reducible first | exact HB.out | apply below_alloc | apply pw_below_drewN | apply below_drew1 | refine below_set ?_ GE208.out) | exact HB.out)))); (case aL => have := LMc23.out; omega); intro v224 w30 ho hb hg hat; rw [← Ny223.out] at ho; have n0_ := Aside0.mk (Kd.V_afterv (ok := (fun k_ => ((P0_ k_ ∨ P1_ k_ ∨ P2_4_ k_) ∨ w.heap.size ≤ k_) ∧ some k_ ≠ (.slice Ao28 x14_1.length co28 : Value).ownBlock ∧ some k_ ≠ (u15 : Value).ownBlock ∧ k_ ≠ gb208)) (by (with_reducible repeat (first | apply Kd.V_alloc | apply Kd.V_drewN | apply Kd.V_drew)); exact HO_0.out) hg hat); have n1_ := Aside0.mk (Kd.V_afterv (ok := (fun k_ => ((P0_ k_ ∨ P1_ k_ ∨ P2_4_ k_) ∨ w.heap.size ≤ k_) ∧ some k_ ≠ (.slice Ao28 x14_1.length co28 : Value).ownBlock ∧ some k_ ≠ (u15 : Value).ownBlock ∧ k_ ≠ gb208)) (by (with_reducible repeat (first | apply Kd.V_alloc | apply Kd.V_drewN | apply Kd.V_drew)); exact HO_1.out) hg hat); have n2_ := Aside0.mk (Kd.N_afterv (ok := (fun k_ => ((P0_ k_ ∨ P1_ k_ ∨ P2_4_ k_) ∨ w.heap.size ≤ k_) ∧ some k_ ≠ (u15 : Value).ownBlock ∧ k_ ≠ gb208)) (by (with_reducible repeat (first | apply Kd.N_alloc | apply Kd.N_drewN | apply Kd.N_drew)); exact HO_14.out) hg hat); have n3_ := Aside0.mk (Kd.N_afterv (ok := (fun k_ => ((P0_ k_ ∨ P1_ k_ ∨ P2_4_ k_) ∨ w.heap.size ≤ k_) ∧ some k_ ≠ (.slice Ao28 x14_1.length co28 : Value).ownBlock ∧ k_ ≠ gb208)) (by (with_reducible repeat (first | apply Kd.N_alloc | apply Kd.N_drewN | apply Kd.N_drew)); exact HO_15.out) hg hat); have n4_ := Aside0.mk (Kd.V_afterv (ok := (fun k_ => ((P0_ k_ ∨ P1_ k_ ∨ P2_4_ k_) ∨ w.heap.size ≤ k_) ∧ some k_ ≠ (.slice Ao28 x14_1.length co28 : Value).ownBlock ∧ some k_ ≠ (u15 : Value).ownBlock ∧ k_ ≠ gb208)) (by (with_reducible repeat (first | apply Kd.V_alloc | apply Kd.V_drewN | apply Kd.V_drew)); exact HO_209004.out) hg hat); have n5_ := Aside0.mk (blk_grown (g := gb208) (o := .cells #[.bool a2_0, .string a2_1, .int .i64 a2_2, .int .i64 a2_3, .slice A2_4 l2_4.length c2_4] 25 (0, 0)) (by (with_reducible repeat (first | refine blk_drewN ?_ _ | refine blk_drew ?_ | refine blk_alloc ?_ _)); exact BK208.out) hg (Kd.N_away HO222.out (fun _ hk => hk.2.2.2))); have n6_ := Aside0.mk (hb); have n7_ := Aside0.mk (ho); clear HO_0; clear HO_1; clear HO_14; clear HO_15; clear HO_209004; clear BK208; clear HB; clear HO222; have HO_0 := n0_; have HO_1 := n1_; have HO_14 := n2_; have HO_15 := n3_; have HO_209004 := n4_; have BK208 := n5_; have HB := n6_; have HO225 := n7_; clear n0_ n1_ n2_ n3_ n4_ n5_ n6_ n7_; clear ho hb hg hat; obtain ⟨Ao31, co31, eo31⟩ := Kd.N_slice HO225.out; subst eo31) | (go_at_call 14; (with_reducible refine (acl_Admits.calls k1 _ _ y223 a3 a4 a5 t226 _ ?side1 ?side2 A24.out).mono ?_); (case side1 => repeat (first | exact (Kd.N_reads' HO225.out).2.2 | (with_reducible refine Kd.C_alloc ?_ _) | (with_reducible refine Kd.C_drewN ?_ _) | (with_reducible refine Kd.C_drew ?_))); (case side2 => exact (Kd.N_reads' HO225.out).2.1); rintro e w32 ⟨rfl, hb⟩; have n0_ := Aside0.mk (Kd.V_below (by (with_reducible repeat (first | apply Kd.V_alloc | apply Kd.V_drewN | apply Kd.V_drew)); exact HO_0.out) hb); have n1_ := Aside0.mk (Kd.V_below (by (with_reducible repeat (first | apply Kd.V_alloc | apply Kd.V_drewN | apply Kd.V_drew)); exact HO_1.out) hb); have n2_ := Aside0.mk (Kd.N_below (by (with_reducible repeat (first | apply Kd.N_alloc | apply Kd.N_drewN | apply Kd.N_drew)); exact HO_14.out) hb); have n3_ := Aside0.mk (Kd.N_below (by (with_reducible repeat (first | apply Kd.N_alloc | apply Kd.N_drewN | apply Kd.N_drew)); exact HO_15.out) hb); have n4_ := Aside0.mk (Kd.V_below (by (with_reducible repeat (first | apply Kd.V_alloc | apply Kd.V_drewN | apply Kd.V_drew)); exact HO_209004.out) hb); have n5_ := Aside0.mk (Kd.N_below (by (with_reducible repeat (first | apply Kd.N_alloc | apply Kd.N_drewN | apply Kd.N_drew)); exact HO225.out) hb); have n6_ := Aside0.mk (blk_below (g := gb208) (o := .cells #[.bool a2_0, .string a2_1, .int .i64 a2_2, .int .i64 a2_3, .slice A2_4 l2_4.length c2_4] 25 (0, 0)) (by (with_reducible repeat (first | refine blk_drewN ?_ _ | refine blk_drew ?_ | refine blk_alloc ?_ _)); exact BK208.out) hb); have n7_ := Aside0.mk (below_step (by repeat (first | (with_reducible first | exact HB.out | apply below_alloc | apply pw_below_drewN | apply below_drew1 | refine below_set ?_ GE208.out) | exact HB.out)) hb); clear HO_0; clear HO_1; clear HO_14; clear HO_15; clear HO_209004; clear HO225; clear BK208; clear HB; have HO_0 := n0_; have HO_1 := n1_; have HO_14 := n2_; have HO_15 := n3_; have HO_209004 := n4_; have HO225 := n5_; have BK208 := n6_; have HB := n7_; clear n0_ n1_ n2_ n3_ n4_ n5_ n6_ n7_; (try clear hb); (try clear hb2); (try clear hk); (try clear hi)) | (go_at_call 14; (with_reducible refine (acl_Admits.calls k1 _ _ l1 a3 a4 a5 t227 _ ?side1 ?side2 A25.out).mono ?_); (case side1 => repeat (first | exact (Kd.V_reads' HO_1.out).2.2 | (with_reducible refine Kd.C_alloc ?_ _) | (with_reducible refine Kd.C_drewN ?_ _) | (with_reducible refine Kd.C_drew ?_))); (case side2 => exact (Kd.V_reads' HO_1.out).2.1); rintro e w33 ⟨rfl, hb⟩; have n0_ := Aside0.mk (Kd.V_below (by (with_reducible repeat (first | apply Kd.V_alloc | apply Kd.V_drewN | apply Kd.V_drew)); exact HO_0.out) hb); have n1_ := Aside0.mk (Kd.V_below (by (with_reducible repeat (first | apply Kd.V_alloc | apply Kd.V_drewN | apply Kd.V_drew)); exact HO_1.out) hb); have n2_ := Aside0.mk (Kd.N_below (by (with_reducible repeat (first | apply Kd.N_alloc | apply Kd.N_drewN | apply Kd.N_drew)); exact HO_14.out) hb); have n3_ := Aside0.mk (Kd.N_below (by (with_reducible repeat (first | apply Kd.N_alloc | apply Kd.N_drewN | apply Kd.N_drew)); exact HO_15.out) hb); have n4_ := Aside0.mk (Kd.V_below (by (with_reducible repeat (first | apply Kd.V_alloc | apply Kd.V_drewN | apply Kd.V_drew)); exact HO_209004.out) hb); have n5_ := Aside0.mk (Kd.N_below (by (with_reducible repeat (first | apply Kd.N_alloc | apply Kd.N_drewN | apply Kd.N_drew)); exact HO225.out) hb); have n6_ := Aside0.mk (blk_below (g := gb208) (o := .cells #[.bool a2_0, .string a2_1, .int .i64 a2_2, .int .i64 a2_3, .slice A2_4 l2_4.length c2_4] 25 (0, 0)) (by (with_reducible repeat (first | refine blk_drewN ?_ _ | refine blk_drew ?_ | refine blk_alloc ?_ _)); exact BK208.out) hb); have n7_ := Aside0.mk (below_step (by repeat (first | (with_reducible first | exact HB.out | apply below_alloc | apply pw_below_drewN | apply below_drew1 | refine below_set ?_ GE208.out) | exact HB.out)) hb); clear HO_0; clear HO_1; clear HO_14; clear HO_15; clear HO_209004; clear HO225; clear BK208; clear HB; have HO_0 := n0_; have HO_1 := n1_; have HO_14 := n2_; have HO_15 := n3_; have HO_209004 := n4_; have HO225 := n5_; have BK208 := n6_; have HB := n7_; clear n0_ n1_ n2_ n3_ n4_ n5_ n6_ n7_; (try clear hb); (try clear hb2); (try clear hk); (try clear hi)) | (go_at_call 16; (with_reducible refine (tollhouselaw14_wakes.calls k1 t228 _ ?sideT A27.out).mono ?_); (case sideT => repeat (first | exact HT.out | exact (Tab.below HT.out HB.out) | (with_reducible first | refine Tab.alloc ?_ _ | refine Tab.drewN ?_ _ | refine Tab.drew ?_ | refine Tab.set ?_ HT.out GE208.out _))); rintro e w34 ⟨rfl, hb⟩; have n0_ := Aside0.mk (Kd.V_below (by (with_reducible repeat (first | apply Kd.V_alloc | apply Kd.V_drewN | apply Kd.V_drew)); exact HO_0.out) hb); have n1_ := Aside0.mk (Kd.V_below (by (with_reducible repeat (first | apply Kd.V_alloc | apply Kd.V_drewN | apply Kd.V_drew)); exact HO_1.out) hb); have n2_ := Aside0.mk (Kd.N_below (by (with_reducible repeat (first | apply Kd.N_alloc | apply Kd.N_drewN | apply Kd.N_drew)); exact HO_14.out) hb); have n3_ := Aside0.mk (Kd.N_below (by (with_reducible repeat (first | apply Kd.N_alloc | apply Kd.N_drewN | apply Kd.N_drew)); exact HO_15.out) hb); have n4_ := Aside0.mk (Kd.V_below (by (with_reducible repeat (first | apply Kd.V_alloc | apply Kd.V_drewN | apply Kd.V_drew)); exact HO_209004.out) hb); have n5_ := Aside0.mk (Kd.N_below (by (with_reducible repeat (first | apply Kd.N_alloc | apply Kd.N_drewN | apply Kd.N_drew)); exact HO225.out) hb); have n6_ := Aside0.mk (blk_below (g := gb208) (o := .cells #[.bool a2_0, .string a2_1, .int .i64 a2_2, .int .i64 a2_3, .slice A2_4 l2_4.length c2_4] 25 (0, 0)) (by (with_reducible repeat (first | refine blk_drewN ?_ _ | refine blk_drew ?_ | refine blk_alloc ?_ _)); exact BK208.out) hb); have n7_ := Aside0.mk (below_step (by repeat (first | (with_reducible first | exact HB.out | apply below_alloc | apply pw_below_drewN | apply below_drew1 | refine below_set ?_ GE208.out) | exact HB.out)) hb); clear HO_0; clear HO_1; clear HO_14; clear HO_15; clear HO_209004; clear HO225; clear BK208; clear HB; have HO_0 := n0_; have HO_1 := n1_; have HO_14 := n2_; have HO_15 := n3_; have HO_209004 := n4_; have HO225 := n5_; have BK208 := n6_; have HB := n7_; clear n0_ n1_ n2_ n3_ n4_ n5_ n6_ n7_; (try clear hb); (try clear hb2); (try clear hk); (try clear hi)))
                  go_ret
                  exact ⟨by first | rfl | (simp [errW_none, errW_some] <;> rfl) | (simp [*, errW_none, errW_some] <;> rfl), by repeat (first | (with_reducible first | exact HB.out | apply below_alloc | apply pw_below_drewN | apply below_drew1 | refine below_set ?_ GE208.out) | exact HB.out)⟩
                · rw [if_neg c26] at H
                  have c26b0 : (t226 == t227) = false := by simpa using c26
                  (try (have c26b1 : decide (t226 = t227) = false := by simpa using c26))
                  (try (have c26b2 : (t226 == t227) = false := by simpa using c26))
                  (try (have c26b3 : ¬ (t226 = t227) := by simpa using c26))
                  clear c26
                  exact absurd ((Option.some.inj H).trans hr_) (by decide)
              · rw [if_neg c23] at H
                exact absurd H (by simp)
            · rw [if_neg c22] at H
              exact absurd H (by simp)
        · rw [if_neg c20] at H
          have c20b0 : ((x14_1.length : Int) == 0) = false := beq_eq_false_iff_ne.mpr c20
          have c20b1 : ((x14_1.length : Int) != 0) = true := bne_iff_ne.mpr c20
          have c20b2 : ¬ (x14_1 = []) := fun h_ => c20 (by rw [h_]; rfl)
          have HC35 := Aside0.mk H
          clear H
          obtain ⟨Ao36, co36, eo36⟩ := Kd.N_slice HO_14.out
          subst eo36
          go_upto_region 11 with (fail)
          go_cut [113] (fun v113 wc => ∃ (kq : Nat) (x113_34 : Bool), v113 = .bool x113_34 ∧ Aside0 (tollhouselaw14_AclFirst.j1 kq l0 a3 a4 a5 t209 x113_34 a2_0 a2_1 a2_2 a2_3 l2_4 = some r) ∧ Aside0 (kq ≤ k1) ∧ Aside0 (Kd.V k25 25 wc w.heap.size (fun k_ => ((P0_ k_ ∨ P1_ k_ ∨ P2_4_ k_) ∨ w.heap.size ≤ k_) ∧ k_ ≠ gb208) (.slice A0 l0.length c0) l0) ∧ Aside0 (Kd.V Kd.string 9 wc w.heap.size (fun k_ => ((P0_ k_ ∨ P1_ k_ ∨ P2_4_ k_) ∨ w.heap.size ≤ k_) ∧ k_ ≠ gb208) (.slice A2_4 l2_4.length c2_4) l2_4) ∧ Aside0 (wc.heap[gb208]? = some (.cells #[.bool a2_0, .string a2_1, .int .i64 a2_2, .int .i64 a2_3, (.slice A2_4 l2_4.length c2_4)] 25 (0, 0))) ∧ Aside0 (Below w.heap.size w wc))
          case first =>
            have H := HC35.out
            clear HC35
            by_cases c37 : 0 < (x14_1.length : Int)
            · rw [if_pos c37] at H
              have c37b0 : decide (0 < (x14_1.length : Int)) = true := decide_eq_true c37
              have c37b1 : decide (0 < x14_1.length) = true := decide_eq_true (by omega)
              clear c37
              (first | rw [c37b0] | (simp only [i64_w, i32_w]; rw [c37b0]) | skip)
              by_cases c38 : (t209 != ((rd_T25 x14_1 0).f0)) = true
              · rw [if_pos c38] at H
                have c38b0 : (t209 != ((rd_T25 x14_1 0).f0)) = true := c38
                (try (have c38b1 : decide (t209 = ((rd_T25 x14_1 0).f0)) = false := by simpa using c38))
                (try (have c38b2 : (t209 == ((rd_T25 x14_1 0).f0)) = false := by simpa using c38))
                (try (have c38b3 : ¬ (t209 = ((rd_T25 x14_1 0).f0)) := by simpa using c38))
                clear c38
                have H' := Aside0.mk H
                clear H
                have p229 : 0 ≤ (0 : Int) := (by omega)
                have q229 : 0 < (x14_1.length : Int) := of_decide_eq_true (by first | (with_reducible assumption) | assumption)
                obtain ⟨ad229, A229_4, c229_4, e229, hx229_0, hx229_1, hx229_2, hx229_3, hx229_4, hl229_4, hi229_4⟩ := at_T25 (Kd.N_reads' HO_14.out).2.2 0 p229 q229
                cases e229
                obtain ⟨ce229, hce229, hMe229, hcc229⟩ := Kd.N_get HO_14.out z25 0 p229 (by first | exact q229 | exact of_decide_eq_true (by first | (with_reducible assumption) | assumption) | (have e_ := (Kd.N_reads' HO_14.out).1; omega))
                obtain ⟨ua229_4, uc229_4, rfl, ul229_4, ge229_4⟩ := k25_openF hMe229
                have hv229_4 := hcc229 4 _ rfl
                rw [add_field _ _ 4 (by omega)] at hv229_4
                replace hv229_4 := Option.some.inj (hv229_4.symm.trans hx229_4)
                injection hv229_4 with hva_ hvn_ hvc_
                rw [hva_] at ge229_4
                rw [hvc_] at ul229_4
                have HL229_4 := Aside0.mk (show Kd.V Kd.string 9 _ w.heap.size _ _ ((rd_T25 x14_1 0).f4) from Kd.V_mk ul229_4 ge229_4)
                clear hva_ hvn_ hvc_ ge229_4 ul229_4
                clear hcc229 hce229
                have qi229 : (0 < x14_1.length) = True := eq_true (by omega)
                (try rw [show ((0 : Int)).toNat = 0 from rfl] at hx229_0)
                (try rw [show 0 * 5 = 0 from rfl] at hx229_0)
                (try rw [Addr.add_zero'] at hx229_0)
                (try rw [show ((0 : Int)).toNat = 0 from rfl] at hx229_1)
                (try rw [show 0 * 5 = 0 from rfl] at hx229_1)
                (try rw [Addr.add_zero'] at hx229_1)
                (try rw [show ((0 : Int)).toNat = 0 from rfl] at hx229_2)
                (try rw [show 0 * 5 = 0 from rfl] at hx229_2)
                (try rw [Addr.add_zero'] at hx229_2)
                (try rw [show ((0 : Int)).toNat = 0 from rfl] at hx229_3)
                (try rw [show 0 * 5 = 0 from rfl] at hx229_3)
                (try rw [Addr.add_zero'] at hx229_3)
                (try rw [show ((0 : Int)).toNat = 0 from rfl] at hx229_4)
                (try rw [show 0 * 5 = 0 from rfl] at hx229_4)
                (try rw [Addr.add_zero'] at hx229_4)
                have HR229_4 := Aside0.mk hi229_4
                have HC229_4 := Aside0.mk hl229_4
                clear hi229_4 hl229_4
                replace p229 := eq_true p229
                replace q229 := eq_true q229
                go_wp2
                go_meet
                case rel => exact ⟨_, (true), (by first | rfl | (simp; done) | (simp [*]; done)), H', ⟨by have := HK1.out; first | omega | exact Nat.le_refl _⟩, ⟨by (with_reducible repeat (first | apply Kd.V_alloc | apply Kd.V_drewN | apply Kd.V_drew)); exact Kd.V_mono HO_0.out (fun _ hk => ⟨hk.1, hk.2.2.2⟩)⟩, ⟨by (with_reducible repeat (first | apply Kd.V_alloc | apply Kd.V_drewN | apply Kd.V_drew)); exact Kd.V_mono HO_209004.out (fun _ hk => ⟨hk.1, hk.2.2.2⟩)⟩, ⟨by (with_reducible repeat (first | refine blk_drewN ?_ _ | refine blk_drew ?_ | refine blk_alloc ?_ _)); exact BK208.out⟩, ⟨by repeat (first | (with_reducible first | exact HB.out | apply below_alloc | apply pw_below_drewN | apply below_drew1 | refine below_set ?_ GE208.out) | exact HB.out)⟩⟩
              · rw [if_neg c38] at H
                have c38b0 : (t209 != ((rd_T25 x14_1 0).f0)) = false := by simpa using c38
                (try (have c38b1 : decide (t209 = ((rd_T25 x14_1 0).f0)) = true := by simpa using c38))
                (try (have c38b2 : (t209 == ((rd_T25 x14_1 0).f0)) = true := by simpa using c38))
                clear c38
                by_cases c39 : 1 ≤ (x14_1.length : Int)
                · rw [if_pos c39] at H
                  have c39b0 := eq_true c39
                  have c39b1 : decide (1 ≤ (x14_1.length : Int)) = true := decide_eq_true c39
                  clear c39
                  obtain ⟨y230, hy230⟩ : ∃ y_ : List (S25), y_ = (x14_1.take 1) := ⟨_, rfl⟩
                  replace H : ((acl_Admits.f k1 y230 a3 a4 a5).bind fun t235 => (if (t235 != t209) = true then (tollhouselaw14_AclFirst.j1 k1 l0 a3 a4 a5 t209 true a2_0 a2_1 a2_2 a2_3 l2_4) else (if x15_1.length + x14_1.length < 2199023255552 then ((acl_Admits.f k1 (x15_1 ++ x14_1) a3 a4 a5).bind fun t239 => (if (t239 != t209) = true then (tollhouselaw14_AclFirst.j1 k1 l0 a3 a4 a5 t209 true a2_0 a2_1 a2_2 a2_3 l2_4) else (if ([] : List (S25)).length + l0.length < 2199023255552 then ((some (([] : List (S25)) ++ l0 : List (S25))).bind fun y240 => (if y240.length + l1.length < 2199023255552 then ((acl_Admits.f k1 (y240 ++ l1) a3 a4 a5).bind fun t246 => (tollhouselaw14_AclFirst.j1 k1 l0 a3 a4 a5 t209 (t246 != t209) a2_0 a2_1 a2_2 a2_3 l2_4)) else (none))) else (none)))) else (none)))) = some r := by first | (rw [hy230]; with_reducible exact H) | (have H2_ := (Option.bind_some _ _).symm.trans H; rw [hy230]; with_reducible exact H2_) | (have H2_ := (Option.bind_some _ _).symm.trans H; with_reducible exact H2_) | with_reducible exact H | (rw [hy230]; exact H) | exact H
                  have Ny230 := Aside0.mk hy230
                  clear hy230
                  replace H := Option.bind_eq_some_iff.mp H
                  obtain ⟨t235, A400, H⟩ := H
                  replace H : (if (t235 != t209) = true then (tollhouselaw14_AclFirst.j1 k1 l0 a3 a4 a5 t209 true a2_0 a2_1 a2_2 a2_3 l2_4) else (if x15_1.length + x14_1.length < 2199023255552 then ((acl_Admits.f k1 (x15_1 ++ x14_1) a3 a4 a5).bind fun t239 => (if (t239 != t209) = true then (tollhouselaw14_AclFirst.j1 k1 l0 a3 a4 a5 t209 true a2_0 a2_1 a2_2 a2_3 l2_4) else (if ([] : List (S25)).length + l0.length < 2199023255552 then ((some (([] : List (S25)) ++ l0 : List (S25))).bind fun y240 => (if y240.length + l1.length < 2199023255552 then ((acl_Admits.f k1 (y240 ++ l1) a3 a4 a5).bind fun t246 => (tollhouselaw14_AclFirst.j1 k1 l0 a3 a4 a5 t209 (t246 != t209) a2_0 a2_1 a2_2 a2_3 l2_4)) else (none))) else (none)))) else (none))) = some r := H
                  have A40 := Aside0.mk A400
                  clear A400
                  by_cases c41 : (t235 != t209) = true
                  · rw [if_pos c41] at H
                    have c41b0 : (t235 != t209) = true := c41
                    (try (have c41b1 : decide (t235 = t209) = false := by simpa using c41))
                    (try (have c41b2 : (t235 == t209) = false := by simpa using c41))
                    (try (have c41b3 : ¬ (t235 = t209) := by simpa using c41))
                    clear c41
                    have H' := Aside0.mk H
                    clear H
                    have p229 : 0 ≤ (0 : Int) := (by omega)
                    have q229 : 0 < (x14_1.length : Int) := of_decide_eq_true (by first | (with_reducible assumption) | assumption)
                    obtain ⟨ad229, A229_4, c229_4, e229, hx229_0, hx229_1, hx229_2, hx229_3, hx229_4, hl229_4, hi229_4⟩ := at_T25 (Kd.N_reads' HO_14.out).2.2 0 p229 q229
                    cases e229
                    obtain ⟨ce229, hce229, hMe229, hcc229⟩ := Kd.N_get HO_14.out z25 0 p229 (by first | exact q229 | exact of_decide_eq_true (by first | (with_reducible assumption) | assumption) | (have e_ := (Kd.N_reads' HO_14.out).1; omega))
                    obtain ⟨ua229_4, uc229_4, rfl, ul229_4, ge229_4⟩ := k25_openF hMe229
                    have hv229_4 := hcc229 4 _ rfl
                    rw [add_field _ _ 4 (by omega)] at hv229_4
                    replace hv229_4 := Option.some.inj (hv229_4.symm.trans hx229_4)
                    injection hv229_4 with hva_ hvn_ hvc_
                    rw [hva_] at ge229_4
                    rw [hvc_] at ul229_4
                    have HL229_4 := Aside0.mk (show Kd.V Kd.string 9 _ w.heap.size _ _ ((rd_T25 x14_1 0).f4) from Kd.V_mk ul229_4 ge229_4)
                    clear hva_ hvn_ hvc_ ge229_4 ul229_4
                    clear hcc229 hce229
                    have qi229 : (0 < x14_1.length) = True := eq_true (by omega)
                    (try rw [show ((0 : Int)).toNat = 0 from rfl] at hx229_0)
                    (try rw [show 0 * 5 = 0 from rfl] at hx229_0)
                    (try rw [Addr.add_zero'] at hx229_0)
                    (try rw [show ((0 : Int)).toNat = 0 from rfl] at hx229_1)
                    (try rw [show 0 * 5 = 0 from rfl] at hx229_1)
                    (try rw [Addr.add_zero'] at hx229_1)
                    (try rw [show ((0 : Int)).toNat = 0 from rfl] at hx229_2)
                    (try rw [show 0 * 5 = 0 from rfl] at hx229_2)
                    (try rw [Addr.add_zero'] at hx229_2)
                    (try rw [show ((0 : Int)).toNat = 0 from rfl] at hx229_3)
                    (try rw [show 0 * 5 = 0 from rfl] at hx229_3)
                    (try rw [Addr.add_zero'] at hx229_3)
                    (try rw [show ((0 : Int)).toNat = 0 from rfl] at hx229_4)
                    (try rw [show 0 * 5 = 0 from rfl] at hx229_4)
                    (try rw [Addr.add_zero'] at hx229_4)
                    have HR229_4 := Aside0.mk hi229_4
                    have HC229_4 := Aside0.mk hl229_4
                    clear hi229_4 hl229_4
                    replace p229 := eq_true p229
                    replace q229 := eq_true q229
                    have q42 : (1 : Int) ≤ ((x14_1.length : Int) : Int) := of_decide_eq_true (by first | (with_reducible assumption) | assumption)
                    obtain ⟨i042, hi042, _, hsz42, _⟩ := info_parts info25
                    have hroom42 : x14_1.length ≤ co36 := (Kd.N_reads' HO_14.out).2.1
                    have hC42 : Kd.F k25 _ _ (some ad229) x14_1.length x14_1 := (Kd.V_at (base := w.heap.size) (Kd.N_V HO_14.out)).2.2
                    have hcut42 := cut_to (P := Tryd.prog) 22 25 .i64 Tryd.underlying22 hi042 (some ad229) x14_1.length co36 1 (by omega) q42 hroom42
                    have hr42 := Kd.F_take (m := 1) hC42 (by omega)
                    have hy42 : y230.length = (1 : Int).toNat := (by rw [Ny230.out, List.length_take]; omega)
                    rw [← Ny230.out] at hr42
                    rw [← hy42] at hcut42
                    have HO234 := Aside0.mk (show Kd.V k25 25 _ w.heap.size _ (.slice (some ad229) y230.length co36) y230 from Kd.V_mk (by omega) hr42)
                    have HC234 := Aside0.mk (show y230.length ≤ co36 from by omega)
                    clear hr42 hC42 hroom42 hi042 hsz42
                    have KY42 := Aside0.mk hy42
                    clear hy42
                    replace q42 := eq_true q42
                    go_wp2_with (first | (go_at_call 14; (with_reducible refine (acl_Admits.calls k1 _ _ y230 a3 a4 a5 t235 _ ?side1 ?side2 A40.out).mono ?_); (case side1 => repeat (first | exact (Kd.V_reads' HO234.out).2.2 | (with_reducible refine Kd.C_alloc ?_ _) | (with_reducible refine Kd.C_drewN ?_ _) | (with_reducible refine Kd.C_drew ?_))); (case side2 => exact (Kd.V_reads' HO234.out).2.1); rintro e w43 ⟨rfl, hb⟩; have n0_ := Aside0.mk (Kd.V_below (by (with_reducible repeat (first | apply Kd.V_alloc | apply Kd.V_drewN | apply Kd.V_drew)); exact HO_0.out) hb); have n1_ := Aside0.mk (Kd.V_below (by (with_reducible repeat (first | apply Kd.V_alloc | apply Kd.V_drewN | apply Kd.V_drew)); exact HO_1.out) hb); have n2_ := Aside0.mk (Kd.N_below (by (with_reducible repeat (first | apply Kd.N_alloc | apply Kd.N_drewN | apply Kd.N_drew)); exact HO_14.out) hb); have n3_ := Aside0.mk (Kd.N_below (by (with_reducible repeat (first | apply Kd.N_alloc | apply Kd.N_drewN | apply Kd.N_drew)); exact HO_15.out) hb); have n4_ := Aside0.mk (Kd.V_below (by (with_reducible repeat (first | apply Kd.V_alloc | apply Kd.V_drewN | apply Kd.V_drew)); exact HO_209004.out) hb); have n5_ := Aside0.mk (Kd.V_below (by (with_reducible repeat (first | apply Kd.V_alloc | apply Kd.V_drewN | apply Kd.V_drew)); exact HL229_4.out) hb); have n6_ := Aside0.mk (Kd.V_below (by (with_reducible repeat (first | apply Kd.V_alloc | apply Kd.V_drewN | apply Kd.V_drew)); exact HO234.out) hb); have n7_ := Aside0.mk (blk_below (g := gb208) (o := .cells #[.bool a2_0, .string a2_1, .int .i64 a2_2, .int .i64 a2_3, .slice A2_4 l2_4.length c2_4] 25 (0, 0)) (by (with_reducible repeat (first | refine blk_drewN ?_ _ | refine blk_drew ?_ | refine blk_alloc ?_ _)); exact BK208.out) hb); have n8_ := Aside0.mk (Kd.C_below (by repeat (first | (with_reducible exact HR229_4.out) | (with_reducible refine Kd.C_alloc ?_ _) | (with_reducible refine Kd.C_drewN ?_ _) | (with_reducible refine Kd.C_drew ?_) | exact HR229_4.out)) hb); have n9_ := Aside0.mk (below_step (by repeat (first | (with_reducible first | exact HB.out | apply below_alloc | apply pw_below_drewN | apply below_drew1 | refine below_set ?_ GE208.out) | exact HB.out)) hb); clear HO_0; clear HO_1; clear HO_14; clear HO_15; clear HO_209004; clear HL229_4; clear HO234; clear BK208; clear HR229_4; clear HB; have HO_0 := n0_; have HO_1 := n1_; have HO_14 := n2_; have HO_15 := n3_; have HO_209004 := n4_; have HL229_4 := n5_; have HO234 := n6_; have BK208 := n7_; have HR229_4 := n8_; have HB := n9_; clear n0_ n1_ n2_ n3_ n4_ n5_ n6_ n7_ n8_ n9_; (try clear hb); (try clear hb2); (try clear hk); (try clear hi)))
                    go_meet
                    case rel => exact ⟨_, (true), (by first | rfl | (simp; done) | (simp [*]; done)), H', ⟨by have := HK1.out; first | omega | exact Nat.le_refl _⟩, ⟨by (with_reducible repeat (first | apply Kd.V_alloc | apply Kd.V_drewN | apply Kd.V_drew)); exact Kd.V_mono HO_0.out (fun _ hk => ⟨hk.1, hk.2.2.2⟩)⟩, ⟨by (with_reducible repeat (first | apply Kd.V_alloc | apply Kd.V_drewN | apply Kd.V_drew)); exact Kd.V_mono HO_209004.out (fun _ hk => ⟨hk.1, hk.2.2.2⟩)⟩, ⟨by (with_reducible repeat (first | refine blk_drewN ?_ _ | refine blk_drew ?_ | refine blk_alloc ?_ _)); exact BK208.out⟩, ⟨by repeat (first | (with_reducible first | exact HB.out | apply below_alloc | apply pw_below_drewN | apply below_drew1 | refine below_set ?_ GE208.out) | exact HB.out)⟩⟩
                  · rw [if_neg c41] at H
                    have c41b0 : (t235 != t209) = false := by simpa using c41
                    (try (have c41b1 : decide (t235 = t209) = true := by simpa using c41))
                    (try (have c41b2 : (t235 == t209) = true := by simpa using c41))
                    clear c41
                    by_cases c44 : x15_1.length + x14_1.length < 2199023255552
                    · rw [if_pos c44] at H
                      have LMc44 := Aside0.mk c44
                      clear c44
                      obtain ⟨y236, hy236⟩ : ∃ y_ : List (S25), y_ = (x15_1 ++ x14_1) := ⟨_, rfl⟩
                      replace H : ((acl_Admits.f k1 y236 a3 a4 a5).bind fun t239 => (if (t239 != t209) = true then (tollhouselaw14_AclFirst.j1 k1 l0 a3 a4 a5 t209 true a2_0 a2_1 a2_2 a2_3 l2_4) else (if ([] : List (S25)).length + l0.length < 2199023255552 then ((some (([] : List (S25)) ++ l0 : List (S25))).bind fun y240 => (if y240.length + l1.length < 2199023255552 then ((acl_Admits.f k1 (y240 ++ l1) a3 a4 a5).bind fun t246 => (tollhouselaw14_AclFirst.j1 k1 l0 a3 a4 a5 t209 (t246 != t209) a2_0 a2_1 a2_2 a2_3 l2_4)) else (none))) else (none)))) = some r := by first | (rw [hy236]; with_reducible exact H) | (have H2_ := (Option.bind_some _ _).symm.trans H; rw [hy236]; with_reducible exact H2_) | (have H2_ := (Option.bind_some _ _).symm.trans H; with_reducible exact H2_) | with_reducible exact H | (rw [hy236]; exact H) | exact H
                      have Ny236 := Aside0.mk hy236
                      clear hy236
                      replace H := Option.bind_eq_some_iff.mp H
                      obtain ⟨t239, A450, H⟩ := H
                      replace H : (if (t239 != t209) = true then (tollhouselaw14_AclFirst.j1 k1 l0 a3 a4 a5 t209 true a2_0 a2_1 a2_2 a2_3 l2_4) else (if ([] : List (S25)).length + l0.length < 2199023255552 then ((some (([] : List (S25)) ++ l0 : List (S25))).bind fun y240 => (if y240.length + l1.length < 2199023255552 then ((acl_Admits.f k1 (y240 ++ l1) a3 a4 a5).bind fun t246 => (tollhouselaw14_AclFirst.j1 k1 l0 a3 a4 a5 t209 (t246 != t209) a2_0 a2_1 a2_2 a2_3 l2_4)) else (none))) else (none))) = some r := H
                      have A45 := Aside0.mk A450
                      clear A450
                      by_cases c46 : (t239 != t209) = true
                      · rw [if_pos c46] at H
                        have c46b0 : (t239 != t209) = true := c46
                        (try (have c46b1 : decide (t239 = t209) = false := by simpa using c46))
                        (try (have c46b2 : (t239 == t209) = false := by simpa using c46))
                        (try (have c46b3 : ¬ (t239 = t209) := by simpa using c46))
                        clear c46
                        have H' := Aside0.mk H
                        clear H
                        have p229 : 0 ≤ (0 : Int) := (by omega)
                        have q229 : 0 < (x14_1.length : Int) := of_decide_eq_true (by first | (with_reducible assumption) | assumption)
                        obtain ⟨ad229, A229_4, c229_4, e229, hx229_0, hx229_1, hx229_2, hx229_3, hx229_4, hl229_4, hi229_4⟩ := at_T25 (Kd.N_reads' HO_14.out).2.2 0 p229 q229
                        cases e229
                        obtain ⟨ce229, hce229, hMe229, hcc229⟩ := Kd.N_get HO_14.out z25 0 p229 (by first | exact q229 | exact of_decide_eq_true (by first | (with_reducible assumption) | assumption) | (have e_ := (Kd.N_reads' HO_14.out).1; omega))
                        obtain ⟨ua229_4, uc229_4, rfl, ul229_4, ge229_4⟩ := k25_openF hMe229
                        have hv229_4 := hcc229 4 _ rfl
                        rw [add_field _ _ 4 (by omega)] at hv229_4
                        replace hv229_4 := Option.some.inj (hv229_4.symm.trans hx229_4)
                        injection hv229_4 with hva_ hvn_ hvc_
                        rw [hva_] at ge229_4
                        rw [hvc_] at ul229_4
                        have HL229_4 := Aside0.mk (show Kd.V Kd.string 9 _ w.heap.size _ _ ((rd_T25 x14_1 0).f4) from Kd.V_mk ul229_4 ge229_4)
                        clear hva_ hvn_ hvc_ ge229_4 ul229_4
                        clear hcc229 hce229
                        have qi229 : (0 < x14_1.length) = True := eq_true (by omega)
                        (try rw [show ((0 : Int)).toNat = 0 from rfl] at hx229_0)
                        (try rw [show 0 * 5 = 0 from rfl] at hx229_0)
                        (try rw [Addr.add_zero'] at hx229_0)
                        (try rw [show ((0 : Int)).toNat = 0 from rfl] at hx229_1)
                        (try rw [show 0 * 5 = 0 from rfl] at hx229_1)
                        (try rw [Addr.add_zero'] at hx229_1)
                        (try rw [show ((0 : Int)).toNat = 0 from rfl] at hx229_2)
                        (try rw [show 0 * 5 = 0 from rfl] at hx229_2)
                        (try rw [Addr.add_zero'] at hx229_2)
                        (try rw [show ((0 : Int)).toNat = 0 from rfl] at hx229_3)
                        (try rw [show 0 * 5 = 0 from rfl] at hx229_3)
                        (try rw [Addr.add_zero'] at hx229_3)
                        (try rw [show ((0 : Int)).toNat = 0 from rfl] at hx229_4)
                        (try rw [show 0 * 5 = 0 from rfl] at hx229_4)
                        (try rw [Addr.add_zero'] at hx229_4)
                        have HR229_4 := Aside0.mk hi229_4
                        have HC229_4 := Aside0.mk hl229_4
                        clear hi229_4 hl229_4
                        replace p229 := eq_true p229
                        replace q229 := eq_true q229
                        have q47 : (1 : Int) ≤ ((x14_1.length : Int) : Int) := of_decide_eq_true (by first | (with_reducible assumption) | assumption)
                        obtain ⟨i047, hi047, _, hsz47, _⟩ := info_parts info25
                        have hroom47 : x14_1.length ≤ co36 := (Kd.N_reads' HO_14.out).2.1
                        have hC47 : Kd.F k25 _ _ (some ad229) x14_1.length x14_1 := (Kd.V_at (base := w.heap.size) (Kd.N_V HO_14.out)).2.2
                        have hcut47 := cut_to (P := Tryd.prog) 22 25 .i64 Tryd.underlying22 hi047 (some ad229) x14_1.length co36 1 (by omega) q47 hroom47
                        have hr47 := Kd.F_take (m := 1) hC47 (by omega)
                        have hy47 : y230.length = (1 : Int).toNat := (by rw [Ny230.out, List.length_take]; omega)
                        rw [← Ny230.out] at hr47
                        rw [← hy47] at hcut47
                        have HO234 := Aside0.mk (show Kd.V k25 25 _ w.heap.size _ (.slice (some ad229) y230.length co36) y230 from Kd.V_mk (by omega) hr47)
                        have HC234 := Aside0.mk (show y230.length ≤ co36 from by omega)
                        clear hr47 hC47 hroom47 hi047 hsz47
                        have KY47 := Aside0.mk hy47
                        clear hy47
                        replace q47 := eq_true q47
                        go_wp2_with (first | (go_at_call 14; (with_reducible refine (acl_Admits.calls k1 _ _ y230 a3 a4 a5 t235 _ ?side1 ?side2 A40.out).mono ?_); (case side1 => repeat (first | exact (Kd.V_reads' HO234.out).2.2 | (with_reducible refine Kd.C_alloc ?_ _) | (with_reducible refine Kd.C_drewN ?_ _) | (with_reducible refine Kd.C_drew ?_))); (case side2 => exact (Kd.V_reads' HO234.out).2.1); rintro e w48 ⟨rfl, hb⟩; have n0_ := Aside0.mk (Kd.V_below (by (with_reducible repeat (first | apply Kd.V_alloc | apply Kd.V_drewN | apply Kd.V_drew)); exact HO_0.out) hb); have n1_ := Aside0.mk (Kd.V_below (by (with_reducible repeat (first | apply Kd.V_alloc | apply Kd.V_drewN | apply Kd.V_drew)); exact HO_1.out) hb); have n2_ := Aside0.mk (Kd.N_below (by (with_reducible repeat (first | apply Kd.N_alloc | apply Kd.N_drewN | apply Kd.N_drew)); exact HO_14.out) hb); have n3_ := Aside0.mk (Kd.N_below (by (with_reducible repeat (first | apply Kd.N_alloc | apply Kd.N_drewN | apply Kd.N_drew)); exact HO_15.out) hb); have n4_ := Aside0.mk (Kd.V_below (by (with_reducible repeat (first | apply Kd.V_alloc | apply Kd.V_drewN | apply Kd.V_drew)); exact HO_209004.out) hb); have n5_ := Aside0.mk (Kd.V_below (by (with_reducible repeat (first | apply Kd.V_alloc | apply Kd.V_drewN | apply Kd.V_drew)); exact HL229_4.out) hb); have n6_ := Aside0.mk (Kd.V_below (by (with_reducible repeat (first | apply Kd.V_alloc | apply Kd.V_drewN | apply Kd.V_drew)); exact HO234.out) hb); have n7_ := Aside0.mk (blk_below (g := gb208) (o := .cells #[.bool a2_0, .string a2_1, .int .i64 a2_2, .int .i64 a2_3, .slice A2_4 l2_4.length c2_4] 25 (0, 0)) (by (with_reducible repeat (first | refine blk_drewN ?_ _ | refine blk_drew ?_ | refine blk_alloc ?_ _)); exact BK208.out) hb); have n8_ := Aside0.mk (Kd.C_below (by repeat (first | (with_reducible exact HR229_4.out) | (with_reducible refine Kd.C_alloc ?_ _) | (with_reducible refine Kd.C_drewN ?_ _) | (with_reducible refine Kd.C_drew ?_) | exact HR229_4.out)) hb); have n9_ := Aside0.mk (below_step (by repeat (first | (with_reducible first | exact HB.out | apply below_alloc | apply pw_below_drewN | apply below_drew1 | refine below_set ?_ GE208.out) | exact HB.out)) hb); clear HO_0; clear HO_1; clear HO_14; clear HO_15; clear HO_209004; clear HL229_4; clear HO234; clear BK208; clear HR229_4; clear HB; have HO_0 := n0_; have HO_1 := n1_; have HO_14 := n2_; have HO_15 := n3_; have HO_209004 := n4_; have HL229_4 := n5_; have HO234 := n6_; have BK208 := n7_; have HR229_4 := n8_; have HB := n9_; clear n0_ n1_ n2_ n3_ n4_ n5_ n6_ n7_ n8_ n9_; (try clear hb); (try clear hb2); (try clear hk); (try clear hi)) | ((with_reducible refine gate_builtin (b := .append) (xs := #[.tmp 92, .tmp 93]) rfl ?_); (try (refine gate_guard (by rfl) ?_; dsimp only)); at_builtin; refine Kd.N_append_rows k25 (w0 := w) w.heap.size rfl (.tmp 92) (.tmp 93) 22 25 (.agg #[(.bool false), (.string ⟨#[]⟩), (.int .i64 0), (.int .i64 0), (.slice none 0 0)]) 64 rfl Tryd.underlying22 info25 rfl (by decide) (by omega) u15 x15_1 x14_1 _ _ _ (fun k_ => ((P0_ k_ ∨ P1_ k_ ∨ P2_4_ k_) ∨ w.heap.size ≤ k_) ∧ k_ ≠ gb208) (fun k_ => ((fun k_ => ((P0_ k_ ∨ P1_ k_ ∨ P2_4_ k_) ∨ w.heap.size ≤ k_) ∧ k_ ≠ gb208)) k_ ∧ some k_ ≠ (u15 : Value).ownBlock) rfl rfl ?aO ?aR (fun _ hk => hk) ?aF ?aB ?aS ?aL ?_; (case aR => exact (by skip; exact Kd.N_F (Kd.N_mono (ok' := (fun k_ => ((fun k_ => ((P0_ k_ ∨ P1_ k_ ∨ P2_4_ k_) ∨ w.heap.size ≤ k_) ∧ k_ ≠ gb208)) k_ ∧ some k_ ≠ (u15 : Value).ownBlock)) (HO_14.out) (fun k_ hk => ⟨⟨hk.1, hk.2.2⟩, hk.2.1⟩)))); (case aB => exact (by repeat (first | (with_reducible first | exact HB.out | apply below_alloc | apply pw_below_drewN | apply below_drew1 | refine below_set ?_ GE208.out) | exact HB.out))); (case aF => exact (fun k_ hk => ⟨(.inr (Nat.le_trans (below_size (by repeat (first | (with_reducible first | exact HB.out | apply below_alloc | apply pw_below_drewN | apply below_drew1 | refine below_set ?_ GE208.out) | exact HB.out))) hk)), Kd.freshB (g := gb208) (o := .cells #[.bool a2_0, .string a2_1, .int .i64 a2_2, .int .i64 a2_3, .slice A2_4 l2_4.length c2_4] 25 (0, 0)) (by (with_reducible repeat (first | refine blk_drewN ?_ _ | refine blk_drew ?_ | refine blk_alloc ?_ _)); exact BK208.out) k_ hk⟩)); (case aO => exact (by (with_reducible repeat (first | apply Kd.N_alloc | apply Kd.N_drewN | apply Kd.N_drew)); exact Kd.N_mono HO_15.out (fun _ hk => ⟨hk.1, hk.2.2⟩))); (case aS => exact (below_size (by repeat (first | (with_reducible first | exact HB.out | apply below_alloc | apply pw_below_drewN | apply below_drew1 | refine below_set ?_ GE208.out) | exact HB.out)))); (case aL => have := LMc44.out; omega); intro v237 w49 ho hb hg hat; rw [← Ny236.out] at ho; have n0_ := Aside0.mk (Kd.V_afterv (ok := (fun k_ => ((P0_ k_ ∨ P1_ k_ ∨ P2_4_ k_) ∨ w.heap.size ≤ k_) ∧ some k_ ≠ (.slice (some ad229) x14_1.length co36 : Value).ownBlock ∧ k_ ≠ gb208)) (by (with_reducible repeat (first | apply Kd.V_alloc | apply Kd.V_drewN | apply Kd.V_drew)); exact Kd.V_mono HO_0.out (fun _ hk => ⟨⟨hk.1, ⟨hk.2.1, hk.2.2.2⟩⟩, hk.2.2.1⟩)) hg hat); have n1_ := Aside0.mk (Kd.V_afterv (ok := (fun k_ => ((P0_ k_ ∨ P1_ k_ ∨ P2_4_ k_) ∨ w.heap.size ≤ k_) ∧ some k_ ≠ (.slice (some ad229) x14_1.length co36 : Value).ownBlock ∧ k_ ≠ gb208)) (by (with_reducible repeat (first | apply Kd.V_alloc | apply Kd.V_drewN | apply Kd.V_drew)); exact Kd.V_mono HO_1.out (fun _ hk => ⟨⟨hk.1, ⟨hk.2.1, hk.2.2.2⟩⟩, hk.2.2.1⟩)) hg hat); have n2_ := Aside0.mk (Kd.N_afterv (ok := (fun k_ => ((P0_ k_ ∨ P1_ k_ ∨ P2_4_ k_) ∨ w.heap.size ≤ k_) ∧ k_ ≠ gb208)) (by (with_reducible repeat (first | apply Kd.N_alloc | apply Kd.N_drewN | apply Kd.N_drew)); exact Kd.N_mono HO_14.out (fun _ hk => ⟨⟨hk.1, hk.2.2⟩, hk.2.1⟩)) hg hat); have n3_ := Aside0.mk (Kd.V_afterv (ok := (fun k_ => ((P0_ k_ ∨ P1_ k_ ∨ P2_4_ k_) ∨ w.heap.size ≤ k_) ∧ some k_ ≠ (.slice (some ad229) x14_1.length co36 : Value).ownBlock ∧ k_ ≠ gb208)) (by (with_reducible repeat (first | apply Kd.V_alloc | apply Kd.V_drewN | apply Kd.V_drew)); exact Kd.V_mono HO_209004.out (fun _ hk => ⟨⟨hk.1, ⟨hk.2.1, hk.2.2.2⟩⟩, hk.2.2.1⟩)) hg hat); have n4_ := Aside0.mk (blk_grown (g := gb208) (o := .cells #[.bool a2_0, .string a2_1, .int .i64 a2_2, .int .i64 a2_3, .slice A2_4 l2_4.length c2_4] 25 (0, 0)) (by (with_reducible repeat (first | refine blk_drewN ?_ _ | refine blk_drew ?_ | refine blk_alloc ?_ _)); exact BK208.out) hg (Kd.N_away HO_15.out (fun _ hk => hk.2.2))); have n5_ := Aside0.mk (Kd.V_afterv (ok := (fun k_ => ((P0_ k_ ∨ P1_ k_ ∨ P2_4_ k_) ∨ w.heap.size ≤ k_) ∧ some k_ ≠ (.slice (some ad229) x14_1.length co36 : Value).ownBlock ∧ k_ ≠ gb208)) (by (with_reducible repeat (first | apply Kd.V_alloc | apply Kd.V_drewN | apply Kd.V_drew)); exact Kd.V_mono HL229_4.out (fun _ hk => ⟨⟨hk.1.1, ⟨hk.2, hk.1.2.2⟩⟩, hk.1.2.1⟩)) hg hat); have n6_ := Aside0.mk (Kd.V_afterv (ok := (fun k_ => ((P0_ k_ ∨ P1_ k_ ∨ P2_4_ k_) ∨ w.heap.size ≤ k_) ∧ k_ ≠ gb208)) (by (with_reducible repeat (first | apply Kd.V_alloc | apply Kd.V_drewN | apply Kd.V_drew)); exact Kd.V_mono HO234.out (fun _ hk => ⟨⟨hk.1, hk.2.2⟩, hk.2.1⟩)) hg hat); have n7_ := Aside0.mk (hb); have n8_ := Aside0.mk (ho); clear HO_0; clear HO_1; clear HO_14; clear HO_209004; clear BK208; clear HL229_4; clear HO234; clear HB; clear HO_15; have HO_0 := n0_; have HO_1 := n1_; have HO_14 := n2_; have HO_209004 := n3_; have BK208 := n4_; have HL229_4 := n5_; have HO234 := n6_; have HB := n7_; have HO238 := n8_; clear n0_ n1_ n2_ n3_ n4_ n5_ n6_ n7_ n8_; clear ho hb hg hat; obtain ⟨Ao50, co50, eo50⟩ := Kd.N_slice HO238.out; subst eo50) | (go_at_call 14; (with_reducible refine (acl_Admits.calls k1 _ _ y236 a3 a4 a5 t239 _ ?side1 ?side2 A45.out).mono ?_); (case side1 => repeat (first | exact (Kd.N_reads' HO238.out).2.2 | (with_reducible refine Kd.C_alloc ?_ _) | (with_reducible refine Kd.C_drewN ?_ _) | (with_reducible refine Kd.C_drew ?_))); (case side2 => exact (Kd.N_reads' HO238.out).2.1); rintro e w51 ⟨rfl, hb⟩; have n0_ := Aside0.mk (Kd.V_below (by (with_reducible repeat (first | apply Kd.V_alloc | apply Kd.V_drewN | apply Kd.V_drew)); exact HO_0.out) hb); have n1_ := Aside0.mk (Kd.V_below (by (with_reducible repeat (first | apply Kd.V_alloc | apply Kd.V_drewN | apply Kd.V_drew)); exact HO_1.out) hb); have n2_ := Aside0.mk (Kd.N_below (by (with_reducible repeat (first | apply Kd.N_alloc | apply Kd.N_drewN | apply Kd.N_drew)); exact HO_14.out) hb); have n3_ := Aside0.mk (Kd.V_below (by (with_reducible repeat (first | apply Kd.V_alloc | apply Kd.V_drewN | apply Kd.V_drew)); exact HO_209004.out) hb); have n4_ := Aside0.mk (Kd.V_below (by (with_reducible repeat (first | apply Kd.V_alloc | apply Kd.V_drewN | apply Kd.V_drew)); exact HL229_4.out) hb); have n5_ := Aside0.mk (Kd.V_below (by (with_reducible repeat (first | apply Kd.V_alloc | apply Kd.V_drewN | apply Kd.V_drew)); exact HO234.out) hb); have n6_ := Aside0.mk (Kd.N_below (by (with_reducible repeat (first | apply Kd.N_alloc | apply Kd.N_drewN | apply Kd.N_drew)); exact HO238.out) hb); have n7_ := Aside0.mk (blk_below (g := gb208) (o := .cells #[.bool a2_0, .string a2_1, .int .i64 a2_2, .int .i64 a2_3, .slice A2_4 l2_4.length c2_4] 25 (0, 0)) (by (with_reducible repeat (first | refine blk_drewN ?_ _ | refine blk_drew ?_ | refine blk_alloc ?_ _)); exact BK208.out) hb); have n8_ := Aside0.mk (below_step (by repeat (first | (with_reducible first | exact HB.out | apply below_alloc | apply pw_below_drewN | apply below_drew1 | refine below_set ?_ GE208.out) | exact HB.out)) hb); clear HO_0; clear HO_1; clear HO_14; clear HO_209004; clear HL229_4; clear HO234; clear HO238; clear BK208; clear HB; have HO_0 := n0_; have HO_1 := n1_; have HO_14 := n2_; have HO_209004 := n3_; have HL229_4 := n4_; have HO234 := n5_; have HO238 := n6_; have BK208 := n7_; have HB := n8_; clear n0_ n1_ n2_ n3_ n4_ n5_ n6_ n7_ n8_; (try clear hb); (try clear hb2); (try clear hk); (try clear hi)))
                        go_meet
                        case rel => exact ⟨_, (true), (by first | rfl | (simp; done) | (simp [*]; done)), H', ⟨by have := HK1.out; first | omega | exact Nat.le_refl _⟩, ⟨by (with_reducible repeat (first | apply Kd.V_alloc | apply Kd.V_drewN | apply Kd.V_drew)); exact Kd.V_mono HO_0.out (fun _ hk => ⟨hk.1.1, hk.1.2.2⟩)⟩, ⟨by (with_reducible repeat (first | apply Kd.V_alloc | apply Kd.V_drewN | apply Kd.V_drew)); exact Kd.V_mono HO_209004.out (fun _ hk => ⟨hk.1.1, hk.1.2.2⟩)⟩, ⟨by (with_reducible repeat (first | refine blk_drewN ?_ _ | refine blk_drew ?_ | refine blk_alloc ?_ _)); exact BK208.out⟩, ⟨by repeat (first | (with_reducible first | exact HB.out | apply below_alloc | apply pw_below_drewN | apply below_drew1 | refine below_set ?_ GE208.out) | exact HB.out)⟩⟩
                      · rw [if_neg c46] at H
                        have c46b0 : (t239 != t209) = false := by simpa using c46
                        (try (have c46b1 : decide (t239 = t209) = true := by simpa using c46))
                        (try (have c46b2 : (t239 == t209) = true := by simpa using c46))
                        clear c46
                        by_cases c52 : ([] : List (S25)).length + l0.length < 2199023255552
                        · rw [if_pos c52] at H
                          have LMc52 := Aside0.mk c52
                          clear c52
                          obtain ⟨y240, hy240⟩ : ∃ y_ : List (S25), y_ = (([] : List (S25)) ++ l0) := ⟨_, rfl⟩
                          replace H : (if y240.length + l1.length < 2199023255552 then ((acl_Admits.f k1 (y240 ++ l1) a3 a4 a5).bind fun t246 => (tollhouselaw14_AclFirst.j1 k1 l0 a3 a4 a5 t209 (t246 != t209) a2_0 a2_1 a2_2 a2_3 l2_4)) else (none)) = some r := by first | (rw [hy240]; with_reducible exact H) | (have H2_ := (Option.bind_some _ _).symm.trans H; rw [hy240]; with_reducible exact H2_) | (have H2_ := (Option.bind_some _ _).symm.trans H; with_reducible exact H2_) | with_reducible exact H | (rw [hy240]; exact H) | exact H
                          have Ny240 := Aside0.mk hy240
                          clear hy240
                          by_cases c53 : y240.length + l1.length < 2199023255552
                          · rw [if_pos c53] at H
                            have LMc53 := Aside0.mk c53
                            clear c53
                            obtain ⟨y243, hy243⟩ : ∃ y_ : List (S25), y_ = (y240 ++ l1) := ⟨_, rfl⟩
                            replace H : ((acl_Admits.f k1 y243 a3 a4 a5).bind fun t246 => (tollhouselaw14_AclFirst.j1 k1 l0 a3 a4 a5 t209 (t246 != t209) a2_0 a2_1 a2_2 a2_3 l2_4)) = some r := by first | (rw [hy243]; with_reducible exact H) | (have H2_ := (Option.bind_some _ _).symm.trans H; rw [hy243]; with_reducible exact H2_) | (have H2_ := (Option.bind_some _ _).symm.trans H; with_reducible exact H2_) | with_reducible exact H | (rw [hy243]; exact H) | exact H
                            have Ny243 := Aside0.mk hy243
                            clear hy243
                            replace H := Option.bind_eq_some_iff.mp H
                            obtain ⟨t246, A540, H⟩ := H
                            replace H : (tollhouselaw14_AclFirst.j1 k1 l0 a3 a4 a5 t209 (t246 != t209) a2_0 a2_1 a2_2 a2_3 l2_4) = some r := H
                            have A54 := Aside0.mk A540
                            clear A540
                            have H' := Aside0.mk H
                            clear H
                            have p229 : 0 ≤ (0 : Int) := (by omega)
                            have q229 : 0 < (x14_1.length : Int) := of_decide_eq_true (by first | (with_reducible assumption) | assumption)
                            obtain ⟨ad229, A229_4, c229_4, e229, hx229_0, hx229_1, hx229_2, hx229_3, hx229_4, hl229_4, hi229_4⟩ := at_T25 (Kd.N_reads' HO_14.out).2.2 0 p229 q229
                            cases e229
                            obtain ⟨ce229, hce229, hMe229, hcc229⟩ := Kd.N_get HO_14.out z25 0 p229 (by first | exact q229 | exact of_decide_eq_true (by first | (with_reducible assumption) | assumption) | (have e_ := (Kd.N_reads' HO_14.out).1; omega))
                            obtain ⟨ua229_4, uc229_4, rfl, ul229_4, ge229_4⟩ := k25_openF hMe229
                            have hv229_4 := hcc229 4 _ rfl
                            rw [add_field _ _ 4 (by omega)] at hv229_4
                            replace hv229_4 := Option.some.inj (hv229_4.symm.trans hx229_4)
                            injection hv229_4 with hva_ hvn_ hvc_
                            rw [hva_] at ge229_4
                            rw [hvc_] at ul229_4
                            have HL229_4 := Aside0.mk (show Kd.V Kd.string 9 _ w.heap.size _ _ ((rd_T25 x14_1 0).f4) from Kd.V_mk ul229_4 ge229_4)
                            clear hva_ hvn_ hvc_ ge229_4 ul229_4
                            clear hcc229 hce229
                            have qi229 : (0 < x14_1.length) = True := eq_true (by omega)
                            (try rw [show ((0 : Int)).toNat = 0 from rfl] at hx229_0)
                            (try rw [show 0 * 5 = 0 from rfl] at hx229_0)
                            (try rw [Addr.add_zero'] at hx229_0)
                            (try rw [show ((0 : Int)).toNat = 0 from rfl] at hx229_1)
                            (try rw [show 0 * 5 = 0 from rfl] at hx229_1)
                            (try rw [Addr.add_zero'] at hx229_1)
                            (try rw [show ((0 : Int)).toNat = 0 from rfl] at hx229_2)
                            (try rw [show 0 * 5 = 0 from rfl] at hx229_2)
                            (try rw [Addr.add_zero'] at hx229_2)
                            (try rw [show ((0 : Int)).toNat = 0 from rfl] at hx229_3)
                            (try rw [show 0 * 5 = 0 from rfl] at hx229_3)
                            (try rw [Addr.add_zero'] at hx229_3)
                            (try rw [show ((0 : Int)).toNat = 0 from rfl] at hx229_4)
                            (try rw [show 0 * 5 = 0 from rfl] at hx229_4)
                            (try rw [Addr.add_zero'] at hx229_4)
                            have HR229_4 := Aside0.mk hi229_4
                            have HC229_4 := Aside0.mk hl229_4
                            clear hi229_4 hl229_4
                            replace p229 := eq_true p229
                            replace q229 := eq_true q229
                            have q55 : (1 : Int) ≤ ((x14_1.length : Int) : Int) := of_decide_eq_true (by first | (with_reducible assumption) | assumption)
                            obtain ⟨i055, hi055, _, hsz55, _⟩ := info_parts info25
                            have hroom55 : x14_1.length ≤ co36 := (Kd.N_reads' HO_14.out).2.1
                            have hC55 : Kd.F k25 _ _ (some ad229) x14_1.length x14_1 := (Kd.V_at (base := w.heap.size) (Kd.N_V HO_14.out)).2.2
                            have hcut55 := cut_to (P := Tryd.prog) 22 25 .i64 Tryd.underlying22 hi055 (some ad229) x14_1.length co36 1 (by omega) q55 hroom55
                            have hr55 := Kd.F_take (m := 1) hC55 (by omega)
                            have hy55 : y230.length = (1 : Int).toNat := (by rw [Ny230.out, List.length_take]; omega)
                            rw [← Ny230.out] at hr55
                            rw [← hy55] at hcut55
                            have HO234 := Aside0.mk (show Kd.V k25 25 _ w.heap.size _ (.slice (some ad229) y230.length co36) y230 from Kd.V_mk (by omega) hr55)
                            have HC234 := Aside0.mk (show y230.length ≤ co36 from by omega)
                            clear hr55 hC55 hroom55 hi055 hsz55
                            have KY55 := Aside0.mk hy55
                            clear hy55
                            replace q55 := eq_true q55
                            go_wp2_with (first | (go_at_call 14; (with_reducible refine (acl_Admits.calls k1 _ _ y230 a3 a4 a5 t235 _ ?side1 ?side2 A40.out).mono ?_); (case side1 => repeat (first | exact (Kd.V_reads' HO234.out).2.2 | (with_reducible refine Kd.C_alloc ?_ _) | (with_reducible refine Kd.C_drewN ?_ _) | (with_reducible refine Kd.C_drew ?_))); (case side2 => exact (Kd.V_reads' HO234.out).2.1); rintro e w56 ⟨rfl, hb⟩; have n0_ := Aside0.mk (Kd.V_below (by (with_reducible repeat (first | apply Kd.V_alloc | apply Kd.V_drewN | apply Kd.V_drew)); exact HO_0.out) hb); have n1_ := Aside0.mk (Kd.V_below (by (with_reducible repeat (first | apply Kd.V_alloc | apply Kd.V_drewN | apply Kd.V_drew)); exact HO_1.out) hb); have n2_ := Aside0.mk (Kd.N_below (by (with_reducible repeat (first | apply Kd.N_alloc | apply Kd.N_drewN | apply Kd.N_drew)); exact HO_14.out) hb); have n3_ := Aside0.mk (Kd.N_below (by (with_reducible repeat (first | apply Kd.N_alloc | apply Kd.N_drewN | apply Kd.N_drew)); exact HO_15.out) hb); have n4_ := Aside0.mk (Kd.V_below (by (with_reducible repeat (first | apply Kd.V_alloc | apply Kd.V_drewN | apply Kd.V_drew)); exact HO_209004.out) hb); have n5_ := Aside0.mk (Kd.V_below (by (with_reducible repeat (first | apply Kd.V_alloc | apply Kd.V_drewN | apply Kd.V_drew)); exact HL229_4.out) hb); have n6_ := Aside0.mk (Kd.V_below (by (with_reducible repeat (first | apply Kd.V_alloc | apply Kd.V_drewN | apply Kd.V_drew)); exact HO234.out) hb); have n7_ := Aside0.mk (blk_below (g := gb208) (o := .cells #[.bool a2_0, .string a2_1, .int .i64 a2_2, .int .i64 a2_3, .slice A2_4 l2_4.length c2_4] 25 (0, 0)) (by (with_reducible repeat (first | refine blk_drewN ?_ _ | refine blk_drew ?_ | refine blk_alloc ?_ _)); exact BK208.out) hb); have n8_ := Aside0.mk (Kd.C_below (by repeat (first | (with_reducible exact HR229_4.out) | (with_reducible refine Kd.C_alloc ?_ _) | (with_reducible refine Kd.C_drewN ?_ _) | (with_reducible refine Kd.C_drew ?_) | exact HR229_4.out)) hb); have n9_ := Aside0.mk (below_step (by repeat (first | (with_reducible first | exact HB.out | apply below_alloc | apply pw_below_drewN | apply below_drew1 | refine below_set ?_ GE208.out) | exact HB.out)) hb); clear HO_0; clear HO_1; clear HO_14; clear HO_15; clear HO_209004; clear HL229_4; clear HO234; clear BK208; clear HR229_4; clear HB; have HO_0 := n0_; have HO_1 := n1_; have HO_14 := n2_; have HO_15 := n3_; have HO_209004 := n4_; have HL229_4 := n5_; have HO234 := n6_; have BK208 := n7_; have HR229_4 := n8_; have HB := n9_; clear n0_ n1_ n2_ n3_ n4_ n5_ n6_ n7_ n8_ n9_; (try clear hb); (try clear hb2); (try clear hk); (try clear hi)) | ((with_reducible refine gate_builtin (b := .append) (xs := #[.tmp 92, .tmp 93]) rfl ?_); (try (refine gate_guard (by rfl) ?_; dsimp only)); at_builtin; refine Kd.N_append_rows k25 (w0 := w) w.heap.size rfl (.tmp 92) (.tmp 93) 22 25 (.agg #[(.bool false), (.string ⟨#[]⟩), (.int .i64 0), (.int .i64 0), (.slice none 0 0)]) 64 rfl Tryd.underlying22 info25 rfl (by decide) (by omega) u15 x15_1 x14_1 _ _ _ (fun k_ => ((P0_ k_ ∨ P1_ k_ ∨ P2_4_ k_) ∨ w.heap.size ≤ k_) ∧ k_ ≠ gb208) (fun k_ => ((fun k_ => ((P0_ k_ ∨ P1_ k_ ∨ P2_4_ k_) ∨ w.heap.size ≤ k_) ∧ k_ ≠ gb208)) k_ ∧ some k_ ≠ (u15 : Value).ownBlock) rfl rfl ?aO ?aR (fun _ hk => hk) ?aF ?aB ?aS ?aL ?_; (case aR => exact (by skip; exact Kd.N_F (Kd.N_mono (ok' := (fun k_ => ((fun k_ => ((P0_ k_ ∨ P1_ k_ ∨ P2_4_ k_) ∨ w.heap.size ≤ k_) ∧ k_ ≠ gb208)) k_ ∧ some k_ ≠ (u15 : Value).ownBlock)) (HO_14.out) (fun k_ hk => ⟨⟨hk.1, hk.2.2⟩, hk.2.1⟩)))); (case aB => exact (by repeat (first | (with_reducible first | exact HB.out | apply below_alloc | apply pw_below_drewN | apply below_drew1 | refine below_set ?_ GE208.out) | exact HB.out))); (case aF => exact (fun k_ hk => ⟨(.inr (Nat.le_trans (below_size (by repeat (first | (with_reducible first | exact HB.out | apply below_alloc | apply pw_below_drewN | apply below_drew1 | refine below_set ?_ GE208.out) | exact HB.out))) hk)), Kd.freshB (g := gb208) (o := .cells #[.bool a2_0, .string a2_1, .int .i64 a2_2, .int .i64 a2_3, .slice A2_4 l2_4.length c2_4] 25 (0, 0)) (by (with_reducible repeat (first | refine blk_drewN ?_ _ | refine blk_drew ?_ | refine blk_alloc ?_ _)); exact BK208.out) k_ hk⟩)); (case aO => exact (by (with_reducible repeat (first | apply Kd.N_alloc | apply Kd.N_drewN | apply Kd.N_drew)); exact Kd.N_mono HO_15.out (fun _ hk => ⟨hk.1, hk.2.2⟩))); (case aS => exact (below_size (by repeat (first | (with_reducible first | exact HB.out | apply below_alloc | apply pw_below_drewN | apply below_drew1 | refine below_set ?_ GE208.out) | exact HB.out)))); (case aL => have := LMc44.out; omega); intro v237 w57 ho hb hg hat; rw [← Ny236.out] at ho; have n0_ := Aside0.mk (Kd.V_afterv (ok := (fun k_ => ((P0_ k_ ∨ P1_ k_ ∨ P2_4_ k_) ∨ w.heap.size ≤ k_) ∧ some k_ ≠ (.slice (some ad229) x14_1.length co36 : Value).ownBlock ∧ k_ ≠ gb208)) (by (with_reducible repeat (first | apply Kd.V_alloc | apply Kd.V_drewN | apply Kd.V_drew)); exact Kd.V_mono HO_0.out (fun _ hk => ⟨⟨hk.1, ⟨hk.2.1, hk.2.2.2⟩⟩, hk.2.2.1⟩)) hg hat); have n1_ := Aside0.mk (Kd.V_afterv (ok := (fun k_ => ((P0_ k_ ∨ P1_ k_ ∨ P2_4_ k_) ∨ w.heap.size ≤ k_) ∧ some k_ ≠ (.slice (some ad229) x14_1.length co36 : Value).ownBlock ∧ k_ ≠ gb208)) (by (with_reducible repeat (first | apply Kd.V_alloc | apply Kd.V_drewN | apply Kd.V_drew)); exact Kd.V_mono HO_1.out (fun _ hk => ⟨⟨hk.1, ⟨hk.2.1, hk.2.2.2⟩⟩, hk.2.2.1⟩)) hg hat); have n2_ := Aside0.mk (Kd.N_afterv (ok := (fun k_ => ((P0_ k_ ∨ P1_ k_ ∨ P2_4_ k_) ∨ w.heap.size ≤ k_) ∧ k_ ≠ gb208)) (by (with_reducible repeat (first | apply Kd.N_alloc | apply Kd.N_drewN | apply Kd.N_drew)); exact Kd.N_mono HO_14.out (fun _ hk => ⟨⟨hk.1, hk.2.2⟩, hk.2.1⟩)) hg hat); have n3_ := Aside0.mk (Kd.V_afterv (ok := (fun k_ => ((P0_ k_ ∨ P1_ k_ ∨ P2_4_ k_) ∨ w.heap.size ≤ k_) ∧ some k_ ≠ (.slice (some ad229) x14_1.length co36 : Value).ownBlock ∧ k_ ≠ gb208)) (by (with_reducible repeat (first | apply Kd.V_alloc | apply Kd.V_drewN | apply Kd.V_drew)); exact Kd.V_mono HO_209004.out (fun _ hk => ⟨⟨hk.1, ⟨hk.2.1, hk.2.2.2⟩⟩, hk.2.2.1⟩)) hg hat); have n4_ := Aside0.mk (blk_grown (g := gb208) (o := .cells #[.bool a2_0, .string a2_1, .int .i64 a2_2, .int .i64 a2_3, .slice A2_4 l2_4.length c2_4] 25 (0, 0)) (by (with_reducible repeat (first | refine blk_drewN ?_ _ | refine blk_drew ?_ | refine blk_alloc ?_ _)); exact BK208.out) hg (Kd.N_away HO_15.out (fun _ hk => hk.2.2))); have n5_ := Aside0.mk (Kd.V_afterv (ok := (fun k_ => ((P0_ k_ ∨ P1_ k_ ∨ P2_4_ k_) ∨ w.heap.size ≤ k_) ∧ some k_ ≠ (.slice (some ad229) x14_1.length co36 : Value).ownBlock ∧ k_ ≠ gb208)) (by (with_reducible repeat (first | apply Kd.V_alloc | apply Kd.V_drewN | apply Kd.V_drew)); exact Kd.V_mono HL229_4.out (fun _ hk => ⟨⟨hk.1.1, ⟨hk.2, hk.1.2.2⟩⟩, hk.1.2.1⟩)) hg hat); have n6_ := Aside0.mk (Kd.V_afterv (ok := (fun k_ => ((P0_ k_ ∨ P1_ k_ ∨ P2_4_ k_) ∨ w.heap.size ≤ k_) ∧ k_ ≠ gb208)) (by (with_reducible repeat (first | apply Kd.V_alloc | apply Kd.V_drewN | apply Kd.V_drew)); exact Kd.V_mono HO234.out (fun _ hk => ⟨⟨hk.1, hk.2.2⟩, hk.2.1⟩)) hg hat); have n7_ := Aside0.mk (hb); have n8_ := Aside0.mk (ho); clear HO_0; clear HO_1; clear HO_14; clear HO_209004; clear BK208; clear HL229_4; clear HO234; clear HB; clear HO_15; have HO_0 := n0_; have HO_1 := n1_; have HO_14 := n2_; have HO_209004 := n3_; have BK208 := n4_; have HL229_4 := n5_; have HO234 := n6_; have HB := n7_; have HO238 := n8_; clear n0_ n1_ n2_ n3_ n4_ n5_ n6_ n7_ n8_; clear ho hb hg hat; obtain ⟨Ao58, co58, eo58⟩ := Kd.N_slice HO238.out; subst eo58) | (go_at_call 14; (with_reducible refine (acl_Admits.calls k1 _ _ y236 a3 a4 a5 t239 _ ?side1 ?side2 A45.out).mono ?_); (case side1 => repeat (first | exact (Kd.N_reads' HO238.out).2.2 | (with_reducible refine Kd.C_alloc ?_ _) | (with_reducible refine Kd.C_drewN ?_ _) | (with_reducible refine Kd.C_drew ?_))); (case side2 => exact (Kd.N_reads' HO238.out).2.1); rintro e w59 ⟨rfl, hb⟩; have n0_ := Aside0.mk (Kd.V_below (by (with_reducible repeat (first | apply Kd.V_alloc | apply Kd.V_drewN | apply Kd.V_drew)); exact HO_0.out) hb); have n1_ := Aside0.mk (Kd.V_below (by (with_reducible repeat (first | apply Kd.V_alloc | apply Kd.V_drewN | apply Kd.V_drew)); exact HO_1.out) hb); have n2_ := Aside0.mk (Kd.N_below (by (with_reducible repeat (first | apply Kd.N_alloc | apply Kd.N_drewN | apply Kd.N_drew)); exact HO_14.out) hb); have n3_ := Aside0.mk (Kd.V_below (by (with_reducible repeat (first | apply Kd.V_alloc | apply Kd.V_drewN | apply Kd.V_drew)); exact HO_209004.out) hb); have n4_ := Aside0.mk (Kd.V_below (by (with_reducible repeat (first | apply Kd.V_alloc | apply Kd.V_drewN | apply Kd.V_drew)); exact HL229_4.out) hb); have n5_ := Aside0.mk (Kd.V_below (by (with_reducible repeat (first | apply Kd.V_alloc | apply Kd.V_drewN | apply Kd.V_drew)); exact HO234.out) hb); have n6_ := Aside0.mk (Kd.N_below (by (with_reducible repeat (first | apply Kd.N_alloc | apply Kd.N_drewN | apply Kd.N_drew)); exact HO238.out) hb); have n7_ := Aside0.mk (blk_below (g := gb208) (o := .cells #[.bool a2_0, .string a2_1, .int .i64 a2_2, .int .i64 a2_3, .slice A2_4 l2_4.length c2_4] 25 (0, 0)) (by (with_reducible repeat (first | refine blk_drewN ?_ _ | refine blk_drew ?_ | refine blk_alloc ?_ _)); exact BK208.out) hb); have n8_ := Aside0.mk (below_step (by repeat (first | (with_reducible first | exact HB.out | apply below_alloc | apply pw_below_drewN | apply below_drew1 | refine below_set ?_ GE208.out) | exact HB.out)) hb); clear HO_0; clear HO_1; clear HO_14; clear HO_209004; clear HL229_4; clear HO234; clear HO238; clear BK208; clear HB; have HO_0 := n0_; have HO_1 := n1_; have HO_14 := n2_; have HO_209004 := n3_; have HL229_4 := n4_; have HO234 := n5_; have HO238 := n6_; have BK208 := n7_; have HB := n8_; clear n0_ n1_ n2_ n3_ n4_ n5_ n6_ n7_ n8_; (try clear hb); (try clear hb2); (try clear hk); (try clear hi)) | ((with_reducible refine gate_builtin (b := .append) (xs := #[.const (.slice none 0 0), .tmp 103]) rfl ?_); (try (refine gate_guard (by rfl) ?_; dsimp only)); at_builtin; refine Kd.N_append_rows k25 (w0 := w) w.heap.size rfl (.const (.slice none 0 0)) (.tmp 103) 22 25 (.agg #[(.bool false), (.string ⟨#[]⟩), (.int .i64 0), (.int .i64 0), (.slice none 0 0)]) 64 rfl Tryd.underlying22 info25 rfl (by decide) (by omega) (.slice none 0 0) ([] : List (S25)) l0 _ _ _ (fun k_ => ((P0_ k_ ∨ P1_ k_ ∨ P2_4_ k_) ∨ w.heap.size ≤ k_) ∧ some k_ ≠ (.slice (some ad229) x14_1.length co36 : Value).ownBlock ∧ some k_ ≠ (.slice Ao58 y236.length co58 : Value).ownBlock ∧ k_ ≠ gb208) (fun k_ => ((fun k_ => ((P0_ k_ ∨ P1_ k_ ∨ P2_4_ k_) ∨ w.heap.size ≤ k_) ∧ some k_ ≠ (.slice (some ad229) x14_1.length co36 : Value).ownBlock ∧ some k_ ≠ (.slice Ao58 y236.length co58 : Value).ownBlock ∧ k_ ≠ gb208)) k_ ∧ some k_ ≠ (.slice none 0 0 : Value).ownBlock) rfl rfl ?aO ?aR (fun _ hk => hk) ?aF ?aB ?aS ?aL ?_; (case aR => exact (by skip; exact Kd.V_F (Kd.V_mono (ok' := (fun k_ => ((fun k_ => ((P0_ k_ ∨ P1_ k_ ∨ P2_4_ k_) ∨ w.heap.size ≤ k_) ∧ some k_ ≠ (.slice (some ad229) x14_1.length co36 : Value).ownBlock ∧ some k_ ≠ (.slice Ao58 y236.length co58 : Value).ownBlock ∧ k_ ≠ gb208)) k_ ∧ some k_ ≠ (.slice none 0 0 : Value).ownBlock)) (HO_0.out) (fun k_ hk => ⟨⟨hk.1.1, ⟨hk.1.2.1, ⟨hk.2, hk.1.2.2⟩⟩⟩, (by simp [Value.ownBlock])⟩)))); (case aB => exact (by repeat (first | (with_reducible first | exact HB.out | apply below_alloc | apply pw_below_drewN | apply below_drew1 | refine below_set ?_ GE208.out) | exact HB.out))); (case aF => exact (fun k_ hk => ⟨(.inr (Nat.le_trans (below_size (by repeat (first | (with_reducible first | exact HB.out | apply below_alloc | apply pw_below_drewN | apply below_drew1 | refine below_set ?_ GE208.out) | exact HB.out))) hk)), Kd.fresh' (Kd.N_lt (by (with_reducible repeat (first | apply Kd.N_alloc | apply Kd.N_drewN | apply Kd.N_drew)); exact HO_14.out)) k_ hk, Kd.fresh' (Kd.N_lt (by (with_reducible repeat (first | apply Kd.N_alloc | apply Kd.N_drewN | apply Kd.N_drew)); exact HO238.out)) k_ hk, Kd.freshB (g := gb208) (o := .cells #[.bool a2_0, .string a2_1, .int .i64 a2_2, .int .i64 a2_3, .slice A2_4 l2_4.length c2_4] 25 (0, 0)) (by (with_reducible repeat (first | refine blk_drewN ?_ _ | refine blk_drew ?_ | refine blk_alloc ?_ _)); exact BK208.out) k_ hk⟩)); (case aO => exact ((Kd.N_nil _ _ _ _ (fun k_ => ((P0_ k_ ∨ P1_ k_ ∨ P2_4_ k_) ∨ w.heap.size ≤ k_) ∧ some k_ ≠ (.slice (some ad229) x14_1.length co36 : Value).ownBlock ∧ some k_ ≠ (.slice Ao58 y236.length co58 : Value).ownBlock ∧ k_ ≠ gb208)))); (case aS => exact (below_size (by repeat (first | (with_reducible first | exact HB.out | apply below_alloc | apply pw_below_drewN | apply below_drew1 | refine below_set ?_ GE208.out) | exact HB.out)))); (case aL => have := LMc52.out; omega); intro v241 w60 ho hb hg hat; rw [← Ny240.out] at ho; have n0_ := Aside0.mk (Kd.V_afterv (Kd.V_apart_nil (by (with_reducible repeat (first | apply Kd.V_alloc | apply Kd.V_drewN | apply Kd.V_drew)); exact HO_0.out)) hg hat); have n1_ := Aside0.mk (Kd.V_afterv (Kd.V_apart_nil (by (with_reducible repeat (first | apply Kd.V_alloc | apply Kd.V_drewN | apply Kd.V_drew)); exact HO_1.out)) hg hat); have n2_ := Aside0.mk (Kd.N_afterv (Kd.N_apart_nil (by (with_reducible repeat (first | apply Kd.N_alloc | apply Kd.N_drewN | apply Kd.N_drew)); exact HO_14.out)) hg hat); have n3_ := Aside0.mk (Kd.V_afterv (Kd.V_apart_nil (by (with_reducible repeat (first | apply Kd.V_alloc | apply Kd.V_drewN | apply Kd.V_drew)); exact HO_209004.out)) hg hat); have n4_ := Aside0.mk (blk_grown (g := gb208) (o := .cells #[.bool a2_0, .string a2_1, .int .i64 a2_2, .int .i64 a2_3, .slice A2_4 l2_4.length c2_4] 25 (0, 0)) (by (with_reducible repeat (first | refine blk_drewN ?_ _ | refine blk_drew ?_ | refine blk_alloc ?_ _)); exact BK208.out) hg (by simp [Value.ownBlock])); have n5_ := Aside0.mk (Kd.V_afterv (Kd.V_apart_nil (by (with_reducible repeat (first | apply Kd.V_alloc | apply Kd.V_drewN | apply Kd.V_drew)); exact HL229_4.out)) hg hat); have n6_ := Aside0.mk (Kd.V_afterv (Kd.V_apart_nil (by (with_reducible repeat (first | apply Kd.V_alloc | apply Kd.V_drewN | apply Kd.V_drew)); exact HO234.out)) hg hat); have n7_ := Aside0.mk (Kd.N_afterv (Kd.N_apart_nil (by (with_reducible repeat (first | apply Kd.N_alloc | apply Kd.N_drewN | apply Kd.N_drew)); exact HO238.out)) hg hat); have n8_ := Aside0.mk (hb); have n9_ := Aside0.mk (ho); clear HO_0; clear HO_1; clear HO_14; clear HO_209004; clear BK208; clear HL229_4; clear HO234; clear HO238; clear HB; have HO_0 := n0_; have HO_1 := n1_; have HO_14 := n2_; have HO_209004 := n3_; have BK208 := n4_; have HL229_4 := n5_; have HO234 := n6_; have HO238 := n7_; have HB := n8_; have HO242 := n9_; clear n0_ n1_ n2_ n3_ n4_ n5_ n6_ n7_ n8_ n9_; clear ho hb hg hat) | ((with_reducible refine gate_builtin (b := .append) (xs := #[.tmp 104, .tmp 105]) rfl ?_); (try (refine gate_guard (by rfl) ?_; dsimp only)); at_builtin; refine Kd.N_append_rows k25 (w0 := w) w.heap.size rfl (.tmp 104) (.tmp 105) 22 25 (.agg #[(.bool false), (.string ⟨#[]⟩), (.int .i64 0), (.int .i64 0), (.slice none 0 0)]) 64 rfl Tryd.underlying22 info25 rfl (by decide) (by omega) v241 y240 l1 _ _ _ (fun k_ => ((P0_ k_ ∨ P1_ k_ ∨ P2_4_ k_) ∨ w.heap.size ≤ k_) ∧ some k_ ≠ (.slice (some ad229) x14_1.length co36 : Value).ownBlock ∧ some k_ ≠ (.slice Ao58 y236.length co58 : Value).ownBlock ∧ k_ ≠ gb208) (fun k_ => ((fun k_ => ((P0_ k_ ∨ P1_ k_ ∨ P2_4_ k_) ∨ w.heap.size ≤ k_) ∧ some k_ ≠ (.slice (some ad229) x14_1.length co36 : Value).ownBlock ∧ some k_ ≠ (.slice Ao58 y236.length co58 : Value).ownBlock ∧ k_ ≠ gb208)) k_ ∧ some k_ ≠ (v241 : Value).ownBlock) rfl rfl ?aO ?aR (fun _ hk => hk) ?aF ?aB ?aS ?aL ?_; (case aR => exact (by skip; exact Kd.V_F (Kd.V_mono (ok' := (fun k_ => ((fun k_ => ((P0_ k_ ∨ P1_ k_ ∨ P2_4_ k_) ∨ w.heap.size ≤ k_) ∧ some k_ ≠ (.slice (some ad229) x14_1.length co36 : Value).ownBlock ∧ some k_ ≠ (.slice Ao58 y236.length co58 : Value).ownBlock ∧ k_ ≠ gb208)) k_ ∧ some k_ ≠ (v241 : Value).ownBlock)) (HO_1.out) (fun k_ hk => ⟨⟨hk.1.1.1, ⟨hk.1.1.2.1, ⟨hk.1.2, hk.1.1.2.2⟩⟩⟩, hk.2⟩)))); (case aB => exact (by repeat (first | (with_reducible first | exact HB.out | apply below_alloc | apply pw_below_drewN | apply below_drew1 | refine below_set ?_ GE208.out) | exact HB.out))); (case aF => exact (fun k_ hk => ⟨(.inr (Nat.le_trans (below_size (by repeat (first | (with_reducible first | exact HB.out | apply below_alloc | apply pw_below_drewN | apply below_drew1 | refine below_set ?_ GE208.out) | exact HB.out))) hk)), Kd.fresh' (Kd.N_lt (by (with_reducible repeat (first | apply Kd.N_alloc | apply Kd.N_drewN | apply Kd.N_drew)); exact HO_14.out)) k_ hk, Kd.fresh' (Kd.N_lt (by (with_reducible repeat (first | apply Kd.N_alloc | apply Kd.N_drewN | apply Kd.N_drew)); exact HO238.out)) k_ hk, Kd.freshB (g := gb208) (o := .cells #[.bool a2_0, .string a2_1, .int .i64 a2_2, .int .i64 a2_3, .slice A2_4 l2_4.length c2_4] 25 (0, 0)) (by (with_reducible repeat (first | refine blk_drewN ?_ _ | refine blk_drew ?_ | refine blk_alloc ?_ _)); exact BK208.out) k_ hk⟩)); (case aO => exact (by (with_reducible repeat (first | apply Kd.N_alloc | apply Kd.N_drewN | apply Kd.N_drew)); exact HO242.out)); (case aS => exact (below_size (by repeat (first | (with_reducible first | exact HB.out | apply below_alloc | apply pw_below_drewN | apply below_drew1 | refine below_set ?_ GE208.out) | exact HB.out)))); (case aL => have := LMc53.out; omega); intro v244 w61 ho hb hg hat; rw [← Ny243.out] at ho; have n0_ := Aside0.mk (Kd.V_afterv (ok := (fun k_ => ((P0_ k_ ∨ P1_ k_ ∨ P2_4_ k_) ∨ w.heap.size ≤ k_) ∧ some k_ ≠ (.slice (some ad229) x14_1.length co36 : Value).ownBlock ∧ some k_ ≠ (.slice Ao58 y236.length co58 : Value).ownBlock ∧ k_ ≠ gb208)) (by (with_reducible repeat (first | apply Kd.V_alloc | apply Kd.V_drewN | apply Kd.V_drew)); exact Kd.V_mono HO_0.out (fun _ hk => ⟨⟨hk.1.1.1, ⟨hk.1.1.2.1, ⟨hk.1.2, hk.1.1.2.2⟩⟩⟩, hk.2⟩)) hg hat); have n1_ := Aside0.mk (Kd.V_afterv (ok := (fun k_ => ((P0_ k_ ∨ P1_ k_ ∨ P2_4_ k_) ∨ w.heap.size ≤ k_) ∧ some k_ ≠ (.slice (some ad229) x14_1.length co36 : Value).ownBlock ∧ some k_ ≠ (.slice Ao58 y236.length co58 : Value).ownBlock ∧ k_ ≠ gb208)) (by (with_reducible repeat (first | apply Kd.V_alloc | apply Kd.V_drewN | apply Kd.V_drew)); exact Kd.V_mono HO_1.out (fun _ hk => ⟨⟨hk.1.1.1, ⟨hk.1.1.2.1, ⟨hk.1.2, hk.1.1.2.2⟩⟩⟩, hk.2⟩)) hg hat); have n2_ := Aside0.mk (Kd.N_afterv (ok := (fun k_ => ((P0_ k_ ∨ P1_ k_ ∨ P2_4_ k_) ∨ w.heap.size ≤ k_) ∧ some k_ ≠ (.slice Ao58 y236.length co58 : Value).ownBlock ∧ k_ ≠ gb208)) (by (with_reducible repeat (first | apply Kd.N_alloc | apply Kd.N_drewN | apply Kd.N_drew)); exact Kd.N_mono HO_14.out (fun _ hk => ⟨⟨hk.1.1.1, ⟨hk.1.2, hk.1.1.2⟩⟩, hk.2⟩)) hg hat); have n3_ := Aside0.mk (Kd.V_afterv (ok := (fun k_ => ((P0_ k_ ∨ P1_ k_ ∨ P2_4_ k_) ∨ w.heap.size ≤ k_) ∧ some k_ ≠ (.slice (some ad229) x14_1.length co36 : Value).ownBlock ∧ some k_ ≠ (.slice Ao58 y236.length co58 : Value).ownBlock ∧ k_ ≠ gb208)) (by (with_reducible repeat (first | apply Kd.V_alloc | apply Kd.V_drewN | apply Kd.V_drew)); exact Kd.V_mono HO_209004.out (fun _ hk => ⟨⟨hk.1.1.1, ⟨hk.1.1.2.1, ⟨hk.1.2, hk.1.1.2.2⟩⟩⟩, hk.2⟩)) hg hat); have n4_ := Aside0.mk (blk_grown (g := gb208) (o := .cells #[.bool a2_0, .string a2_1, .int .i64 a2_2, .int .i64 a2_3, .slice A2_4 l2_4.length c2_4] 25 (0, 0)) (by (with_reducible repeat (first | refine blk_drewN ?_ _ | refine blk_drew ?_ | refine blk_alloc ?_ _)); exact BK208.out) hg (Kd.N_away HO242.out (fun _ hk => hk.2.2.2))); have n5_ := Aside0.mk (Kd.V_afterv (ok := (fun k_ => ((P0_ k_ ∨ P1_ k_ ∨ P2_4_ k_) ∨ w.heap.size ≤ k_) ∧ some k_ ≠ (.slice (some ad229) x14_1.length co36 : Value).ownBlock ∧ some k_ ≠ (.slice Ao58 y236.length co58 : Value).ownBlock ∧ k_ ≠ gb208)) (by (with_reducible repeat (first | apply Kd.V_alloc | apply Kd.V_drewN | apply Kd.V_drew)); exact Kd.V_mono HL229_4.out (fun _ hk => ⟨⟨hk.1.1.1, ⟨hk.1.1.2.1, ⟨hk.1.2, hk.1.1.2.2⟩⟩⟩, hk.2⟩)) hg hat); have n6_ := Aside0.mk (Kd.V_afterv (ok := (fun k_ => ((P0_ k_ ∨ P1_ k_ ∨ P2_4_ k_) ∨ w.heap.size ≤ k_) ∧ some k_ ≠ (.slice Ao58 y236.length co58 : Value).ownBlock ∧ k_ ≠ gb208)) (by (with_reducible repeat (first | apply Kd.V_alloc | apply Kd.V_drewN | apply Kd.V_drew)); exact Kd.V_mono HO234.out (fun _ hk => ⟨⟨hk.1.1.1, ⟨hk.1.2, hk.1.1.2⟩⟩, hk.2⟩)) hg hat); have n7_ := Aside0.mk (Kd.N_afterv (ok := (fun k_ => ((P0_ k_ ∨ P1_ k_ ∨ P2_4_ k_) ∨ w.heap.size ≤ k_) ∧ k_ ≠ gb208)) (by (with_reducible repeat (first | apply Kd.N_alloc | apply Kd.N_drewN | apply Kd.N_drew)); exact HO238.out) hg hat); have n8_ := Aside0.mk (hb); have n9_ := Aside0.mk (ho); clear HO_0; clear HO_1; clear HO_14; clear HO_209004; clear BK208; clear HL229_4; clear HO234; clear HO238; clear HB; clear HO242; have HO_0 := n0_; have HO_1 := n1_; have HO_14 := n2_; have HO_209004 := n3_; have BK208 := n4_; have HL229_4 := n5_; have HO234 := n6_; have HO238 := n7_; have HB := n8_; have HO245 := n9_; clear n0_ n1_ n2_ n3_ n4_ n5_ n6_ n7_ n8_ n9_; clear ho hb hg hat; obtain ⟨Ao62, co62, eo62⟩ := Kd.N_slice HO245.out; subst eo62) | (go_at_call 14; (with_reducible refine (acl_Admits.calls k1 _ _ y243 a3 a4 a5 t246 _ ?side1 ?side2 A54.out).mono ?_); (case side1 => repeat (first | exact (Kd.N_reads' HO245.out).2.2 | (with_reducible refine Kd.C_alloc ?_ _) | (with_reducible refine Kd.C_drewN ?_ _) | (with_reducible refine Kd.C_drew ?_))); (case side2 => exact (Kd.N_reads' HO245.out).2.1); rintro e w63 ⟨rfl, hb⟩; have n0_ := Aside0.mk (Kd.V_below (by (with_reducible repeat (first | apply Kd.V_alloc | apply Kd.V_drewN | apply Kd.V_drew)); exact HO_0.out) hb); have n1_ := Aside0.mk (Kd.V_below (by (with_reducible repeat (first | apply Kd.V_alloc | apply Kd.V_drewN | apply Kd.V_drew)); exact HO_1.out) hb); have n2_ := Aside0.mk (Kd.N_below (by (with_reducible repeat (first | apply Kd.N_alloc | apply Kd.N_drewN | apply Kd.N_drew)); exact HO_14.out) hb); have n3_ := Aside0.mk (Kd.V_below (by (with_reducible repeat (first | apply Kd.V_alloc | apply Kd.V_drewN | apply Kd.V_drew)); exact HO_209004.out) hb); have n4_ := Aside0.mk (Kd.V_below (by (with_reducible repeat (first | apply Kd.V_alloc | apply Kd.V_drewN | apply Kd.V_drew)); exact HL229_4.out) hb); have n5_ := Aside0.mk (Kd.V_below (by (with_reducible repeat (first | apply Kd.V_alloc | apply Kd.V_drewN | apply Kd.V_drew)); exact HO234.out) hb); have n6_ := Aside0.mk (Kd.N_below (by (with_reducible repeat (first | apply Kd.N_alloc | apply Kd.N_drewN | apply Kd.N_drew)); exact HO238.out) hb); have n7_ := Aside0.mk (Kd.N_below (by (with_reducible repeat (first | apply Kd.N_alloc | apply Kd.N_drewN | apply Kd.N_drew)); exact HO245.out) hb); have n8_ := Aside0.mk (blk_below (g := gb208) (o := .cells #[.bool a2_0, .string a2_1, .int .i64 a2_2, .int .i64 a2_3, .slice A2_4 l2_4.length c2_4] 25 (0, 0)) (by (with_reducible repeat (first | refine blk_drewN ?_ _ | refine blk_drew ?_ | refine blk_alloc ?_ _)); exact BK208.out) hb); have n9_ := Aside0.mk (below_step (by repeat (first | (with_reducible first | exact HB.out | apply below_alloc | apply pw_below_drewN | apply below_drew1 | refine below_set ?_ GE208.out) | exact HB.out)) hb); clear HO_0; clear HO_1; clear HO_14; clear HO_209004; clear HL229_4; clear HO234; clear HO238; clear HO245; clear BK208; clear HB; have HO_0 := n0_; have HO_1 := n1_; have HO_14 := n2_; have HO_209004 := n3_; have HL229_4 := n4_; have HO234 := n5_; have HO238 := n6_; have HO245 := n7_; have BK208 := n8_; have HB := n9_; clear n0_ n1_ n2_ n3_ n4_ n5_ n6_ n7_ n8_ n9_; (try clear hb); (try clear hb2); (try clear hk); (try clear hi)))
                            go_meet
                            case rel => exact ⟨_, ((t246 != t209)), (by first | rfl | (simp; done) | (simp [*]; done)), H', ⟨by have := HK1.out; first | omega | exact Nat.le_refl _⟩, ⟨by (with_reducible repeat (first | apply Kd.V_alloc | apply Kd.V_drewN | apply Kd.V_drew)); exact Kd.V_mono HO_0.out (fun _ hk => ⟨hk.1.1, hk.1.2.2.2⟩)⟩, ⟨by (with_reducible repeat (first | apply Kd.V_alloc | apply Kd.V_drewN | apply Kd.V_drew)); exact Kd.V_mono HO_209004.out (fun _ hk => ⟨hk.1.1, hk.1.2.2.2⟩)⟩, ⟨by (with_reducible repeat (first | refine blk_drewN ?_ _ | refine blk_drew ?_ | refine blk_alloc ?_ _)); exact BK208.out⟩, ⟨by repeat (first | (with_reducible first | exact HB.out | apply below_alloc | apply pw_below_drewN | apply below_drew1 | refine below_set ?_ GE208.out) | exact HB.out)⟩⟩
                          · rw [if_neg c53] at H
                            exact absurd H (by simp)
                        · rw [if_neg c52] at H
                          exact absurd H (by simp)
                    · rw [if_neg c44] at H
                      exact absurd H (by simp)
                · rw [if_neg c39] at H
                  exact absurd H (by simp)
            · rw [if_neg c37] at H
              exact absurd H (by simp)
          case rest =>
            clear HC35
            try clear c1
            try clear c2
            try clear p2
            try clear q2
            try clear hx2
            try clear qi2
            try clear c3
            try clear c4
            try clear q4
            try clear c5
            try clear q5
            try clear p6
            try clear c10
            try clear c10b0
            try clear c11
            try clear c11b0
            try clear c12
            try clear c13
            try clear c14
            try clear c17
            try clear c20
            try clear c20b0
            try clear c20b1
            try clear c20b2
            try clear c21
            try clear p21
            try clear q21
            try clear hx21
            try clear c22
            try clear p22
            try clear q22
            try clear hx22
            try clear qi22
            try clear c23
            try clear c26
            try clear c26b0
            try clear c26b1
            try clear c26b2
            try clear c37
            try clear c37b0
            try clear c37b1
            try clear c38
            try clear c38b0
            try clear c38b1
            try clear c38b2
            try clear c39
            try clear c39b0
            try clear c39b1
            try clear c41
            try clear c41b0
            try clear c41b1
            try clear c41b2
            try clear q42
            try clear c44
            try clear c46
            try clear c46b0
            try clear c46b1
            try clear c46b2
            try clear q47
            try clear c52
            try clear c53
            try clear q55
            try clear hx210_0
            try clear hx210_1
            try clear hx210_2
            try clear hx210_3
            try clear hx210_4
            try clear hx212_0
            try clear hx212_1
            try clear hx212_2
            try clear hx212_3
            try clear hx212_4
            try clear hx216_0
            try clear hx216_1
            try clear hx216_2
            try clear hx216_3
            try clear hx216_4
            try clear hx229_0
            try clear hx229_1
            try clear hx229_2
            try clear hx229_3
            try clear hx229_4
            try clear p2
            try clear p210
            try clear p212
            try clear p216
            try clear p229
            try clear q210
            try clear q212
            try clear q216
            try clear q229
            try clear q42
            try clear q47
            try clear q55
            obtain ⟨kq, x113_34, rfl, HA, HJ34, HO_0, HO_209004, BK208, HB⟩ := hcut
            cases kq with
            | zero => exact absurd HA.out (by simp [tollhouselaw14_AclFirst.j1])
            | succ kj34 =>
              have H := HA.out
              clear HA
              simp only [tollhouselaw14_AclFirst.j1] at H
              by_cases c64 : x113_34 = true
              · subst c64
                have H1 : (some false) = some r := by rw [if_pos rfl] at H; exact H
                clear H
                have H := H1
                clear H1
                exact absurd ((Option.some.inj H).trans hr_) (by decide)
              · replace c64 := Bool.eq_false_iff.mpr c64
                subst c64
                have H1 : ((some (([(⟨a2_0, a2_1, a2_2, a2_3, l2_4⟩ : S25)] : List (S25)) : List (S25))).bind fun y247 => (if y247.length + l0.length < 2199023255552 then ((some (y247 ++ l0 : List (S25))).bind fun y250 => ((acl_Matches.f kj34 a2_0 a2_1 a2_2 a2_3 l2_4 a3 a4 a5).bind fun t253 => (if t253 = true then ((acl_Admits.f kj34 y250 a3 a4 a5).bind fun t254 => (if (t254 == a2_0) = true then ((tollhouselaw14_wakes.f kj34).bind fun t255 => (some t255)) else (some false))) else ((acl_Admits.f kj34 y250 a3 a4 a5).bind fun t256 => (if (t256 == t209) = true then ((tollhouselaw14_wakes.f kj34).bind fun t257 => (some t257)) else (some false)))))) else (none))) = some r := by rw [if_neg (show ¬ (false = true) by decide)] at H; exact H
                clear H
                have H := H1
                clear H1
                obtain ⟨y247, hy247⟩ : ∃ y_ : List (S25), y_ = (([(⟨a2_0, a2_1, a2_2, a2_3, l2_4⟩ : S25)] : List (S25))) := ⟨_, rfl⟩
                replace H : (if y247.length + l0.length < 2199023255552 then ((some (y247 ++ l0 : List (S25))).bind fun y250 => ((acl_Matches.f kj34 a2_0 a2_1 a2_2 a2_3 l2_4 a3 a4 a5).bind fun t253 => (if t253 = true then ((acl_Admits.f kj34 y250 a3 a4 a5).bind fun t254 => (if (t254 == a2_0) = true then ((tollhouselaw14_wakes.f kj34).bind fun t255 => (some t255)) else (some false))) else ((acl_Admits.f kj34 y250 a3 a4 a5).bind fun t256 => (if (t256 == t209) = true then ((tollhouselaw14_wakes.f kj34).bind fun t257 => (some t257)) else (some false)))))) else (none)) = some r := by first | (rw [hy247]; with_reducible exact H) | (have H2_ := (Option.bind_some _ _).symm.trans H; rw [hy247]; with_reducible exact H2_) | (have H2_ := (Option.bind_some _ _).symm.trans H; with_reducible exact H2_) | with_reducible exact H | (rw [hy247]; exact H) | exact H
                have Ny247 := Aside0.mk hy247
                clear hy247
                by_cases c65 : y247.length + l0.length < 2199023255552
                · rw [if_pos c65] at H
                  have LMc65 := Aside0.mk c65
                  clear c65
                  obtain ⟨y250, hy250⟩ : ∃ y_ : List (S25), y_ = (y247 ++ l0) := ⟨_, rfl⟩
                  replace H : ((acl_Matches.f kj34 a2_0 a2_1 a2_2 a2_3 l2_4 a3 a4 a5).bind fun t253 => (if t253 = true then ((acl_Admits.f kj34 y250 a3 a4 a5).bind fun t254 => (if (t254 == a2_0) = true then ((tollhouselaw14_wakes.f kj34).bind fun t255 => (some t255)) else (some false))) else ((acl_Admits.f kj34 y250 a3 a4 a5).bind fun t256 => (if (t256 == t209) = true then ((tollhouselaw14_wakes.f kj34).bind fun t257 => (some t257)) else (some false))))) = some r := by first | (rw [hy250]; with_reducible exact H) | (have H2_ := (Option.bind_some _ _).symm.trans H; rw [hy250]; with_reducible exact H2_) | (have H2_ := (Option.bind_some _ _).symm.trans H; with_reducible exact H2_) | with_reducible exact H | (rw [hy250]; exact H) | exact H
                  have Ny250 := Aside0.mk hy250
                  clear hy250
                  replace H := Option.bind_eq_some_iff.mp H
                  obtain ⟨t253, A660, H⟩ := H
                  replace H : (if t253 = true then ((acl_Admits.f kj34 y250 a3 a4 a5).bind fun t254 => (if (t254 == a2_0) = true then ((tollhouselaw14_wakes.f kj34).bind fun t255 => (some t255)) else (some false))) else ((acl_Admits.f kj34 y250 a3 a4 a5).bind fun t256 => (if (t256 == t209) = true then ((tollhouselaw14_wakes.f kj34).bind fun t257 => (some t257)) else (some false)))) = some r := H
                  have A66 := Aside0.mk A660
                  clear A660
                  by_cases c67 : t253 = true
                  · subst c67
                    have H1 : ((acl_Admits.f kj34 y250 a3 a4 a5).bind fun t254 => (if (t254 == a2_0) = true then ((tollhouselaw14_wakes.f kj34).bind fun t255 => (some t255)) else (some false))) = some r := by rw [if_pos rfl] at H; exact H
                    clear H
                    have H := H1
                    clear H1
                    replace H := Option.bind_eq_some_iff.mp H
                    obtain ⟨t254, A680, H⟩ := H
                    replace H : (if (t254 == a2_0) = true then ((tollhouselaw14_wakes.f kj34).bind fun t255 => (some t255)) else (some false)) = some r := H
                    have A68 := Aside0.mk A680
                    clear A680
                    by_cases c69 : (t254 == a2_0) = true
                    · rw [if_pos c69] at H
                      have c69b0 : (t254 == a2_0) = true := c69
                      (try (have c69b1 : decide (t254 = a2_0) = true := by simpa using c69))
                      (try (have c69b2 : (t254 == a2_0) = true := by simpa using c69))
                      clear c69
                      replace H := Option.bind_eq_some_iff.mp H
                      obtain ⟨t255, A700, H⟩ := H
                      replace H : (some t255) = some r := H
                      have A70 := Aside0.mk A700
                      clear A700
                      obtain rfl := Option.some.inj H
                      have hcz71_0 : wc.cell? ⟨gb208, 0, none⟩ = some (.bool a2_0) := (blk_cell BK208.out 0).trans rfl
                      have hcz71_1 : wc.cell? ⟨gb208, 1, none⟩ = some (.string a2_1) := (blk_cell BK208.out 1).trans rfl
                      have hcz71_2 : wc.cell? ⟨gb208, 2, none⟩ = some (.int .i64 a2_2) := (blk_cell BK208.out 2).trans rfl
                      have hcz71_3 : wc.cell? ⟨gb208, 3, none⟩ = some (.int .i64 a2_3) := (blk_cell BK208.out 3).trans rfl
                      have hcz71_4 : wc.cell? ⟨gb208, 4, none⟩ = some (.slice A2_4 l2_4.length c2_4) := (blk_cell BK208.out 4).trans rfl
                      have hfz71_0 := blk_frozen BK208.out 0
                      have hfz71_1 := blk_frozen BK208.out 1
                      have hfz71_2 := blk_frozen BK208.out 2
                      have hfz71_3 := blk_frozen BK208.out 3
                      have hfz71_4 := blk_frozen BK208.out 4
                      try go_wp2_with (first | ((with_reducible refine gate_dst (N := 115) rfl ?_); (try (refine gate_guard (by rfl) ?_; dsimp only)); refine Kd.N_lit k25 _ 25 ?hg (N' := 115) ?hd (xs := ([(⟨a2_0, a2_1, a2_2, a2_3, l2_4⟩ : S25)] : List (S25))) (inner := [.bool a2_0, .string a2_1, .int .i64 a2_2, .int .i64 a2_3, .slice A2_4 l2_4.length c2_4]) (ok := (fun k_ => ((P0_ k_ ∨ P1_ k_ ∨ P2_4_ k_) ∨ w.heap.size ≤ k_) ∧ k_ ≠ gb208)) (okp := (fun k_ => ((P0_ k_ ∨ P1_ k_ ∨ P2_4_ k_) ∨ w.heap.size ≤ k_) ∧ k_ ≠ gb208)) ?hr ?hp (fun _ hk => hk) ((show ∀ k_, wc.heap.size ≤ k_ → (fun k_ => ((P0_ k_ ∨ P1_ k_ ∨ P2_4_ k_) ∨ w.heap.size ≤ k_) ∧ k_ ≠ gb208) k_ from fun k_ hk => ⟨(.inr (Nat.le_trans (below_size (by repeat (first | (with_reducible first | exact HB.out | apply below_alloc | apply pw_below_drewN | apply below_drew1 | refine below_set ?_ GE208.out) | exact HB.out))) hk)), Kd.freshB (g := gb208) (o := .cells #[.bool a2_0, .string a2_1, .int .i64 a2_2, .int .i64 a2_3, .slice A2_4 l2_4.length c2_4] 25 (0, 0)) (by (with_reducible repeat (first | refine blk_drewN ?_ _ | refine blk_drew ?_ | refine blk_alloc ?_ _)); exact BK208.out) k_ hk⟩) _ (Nat.le_refl _)) (Below.refl _ _) (Nat.le_refl _) (by simp) ?_; (case hd => rfl); (case hg => rfl); (case hr => first | (go_simp; done) | (go_simp; rfl)); (case hp => exact (Reps.c5 (show Kd.FK k25 _ _ (⟨a2_0, a2_1, a2_2, a2_3, l2_4⟩ : S25) [.bool a2_0, .string a2_1, .int .i64 a2_2, .int .i64 a2_3, .slice A2_4 l2_4.length c2_4] from (k25_mkF _ _ (⟨a2_0, a2_1, a2_2, a2_3, l2_4⟩ : S25) (Kd.V_reads' (Kd.V_mono (ok' := (fun k_ => ((P0_ k_ ∨ P1_ k_ ∨ P2_4_ k_) ∨ w.heap.size ≤ k_) ∧ k_ ≠ gb208)) (HO_209004.out) (fun k_ hk => ⟨hk.1, hk.2⟩))).2.1 (Kd.V_F (Kd.V_mono (ok' := (fun k_ => ((P0_ k_ ∨ P1_ k_ ∨ P2_4_ k_) ∨ w.heap.size ≤ k_) ∧ k_ ≠ gb208)) (HO_209004.out) (fun k_ hk => ⟨hk.1, hk.2⟩))))) (Reps.none _ _))); intro v248 w72 ho73 hb hg_ hnew_; clear hg_ hnew_; (first | rw [← Ny247.out] at ho73 | (simp only [Int.reduceToNat] at ho73; rw [← Ny247.out] at ho73)); have n0_ := Aside0.mk (Kd.V_elder' (by (with_reducible repeat (first | apply Kd.V_alloc | apply Kd.V_drewN | apply Kd.V_drew)); exact HO_0.out) (Kd.N_base ho73) hb); have n1_ := Aside0.mk (Kd.V_elder' (by (with_reducible repeat (first | apply Kd.V_alloc | apply Kd.V_drewN | apply Kd.V_drew)); exact HO_209004.out) (Kd.N_base ho73) hb); have n2_ := Aside0.mk (Kd.N_lower ho73 (below_size (by repeat (first | (with_reducible first | exact HB.out | apply below_alloc | apply pw_below_drewN | apply below_drew1 | refine below_set ?_ GE208.out) | exact HB.out)))); have n3_ := Aside0.mk (blk_below (g := gb208) (o := .cells #[.bool a2_0, .string a2_1, .int .i64 a2_2, .int .i64 a2_3, .slice A2_4 l2_4.length c2_4] 25 (0, 0)) (by (with_reducible repeat (first | refine blk_drewN ?_ _ | refine blk_drew ?_ | refine blk_alloc ?_ _)); exact BK208.out) hb); have n4_ := Aside0.mk (below_step (by repeat (first | (with_reducible first | exact HB.out | apply below_alloc | apply pw_below_drewN | apply below_drew1 | refine below_set ?_ GE208.out) | exact HB.out)) hb); clear HO_0; clear HO_209004; clear BK208; clear HB; have HO_0 := n0_; have HO_209004 := n1_; have HO249 := n2_; have BK208 := n3_; have HB := n4_; clear n0_ n1_ n2_ n3_ n4_; clear hb ho73) | ((with_reducible refine gate_builtin (b := .append) (xs := #[.tmp 115, .tmp 116]) rfl ?_); (try (refine gate_guard (by rfl) ?_; dsimp only)); at_builtin; refine Kd.N_append_rows k25 (w0 := w) w.heap.size rfl (.tmp 115) (.tmp 116) 22 25 (.agg #[(.bool false), (.string ⟨#[]⟩), (.int .i64 0), (.int .i64 0), (.slice none 0 0)]) 64 rfl Tryd.underlying22 info25 rfl (by decide) (by omega) v248 y247 l0 _ _ _ (fun k_ => ((P0_ k_ ∨ P1_ k_ ∨ P2_4_ k_) ∨ w.heap.size ≤ k_) ∧ k_ ≠ gb208) (fun k_ => ((fun k_ => ((P0_ k_ ∨ P1_ k_ ∨ P2_4_ k_) ∨ w.heap.size ≤ k_) ∧ k_ ≠ gb208)) k_ ∧ some k_ ≠ (v248 : Value).ownBlock) rfl rfl ?aO ?aR (fun _ hk => hk) ?aF ?aB ?aS ?aL ?_; (case aR => exact (by skip; exact Kd.V_F (Kd.V_mono (ok' := (fun k_ => ((fun k_ => ((P0_ k_ ∨ P1_ k_ ∨ P2_4_ k_) ∨ w.heap.size ≤ k_) ∧ k_ ≠ gb208)) k_ ∧ some k_ ≠ (v248 : Value).ownBlock)) (HO_0.out) (fun k_ hk => ⟨⟨hk.1.1, hk.1.2⟩, hk.2⟩)))); (case aB => exact (by repeat (first | (with_reducible first | exact HB.out | apply below_alloc | apply pw_below_drewN | apply below_drew1 | refine below_set ?_ GE208.out) | exact HB.out))); (case aF => exact (fun k_ hk => ⟨(.inr (Nat.le_trans (below_size (by repeat (first | (with_reducible first | exact HB.out | apply below_alloc | apply pw_below_drewN | apply below_drew1 | refine below_set ?_ GE208.out) | exact HB.out))) hk)), Kd.freshB (g := gb208) (o := .cells #[.bool a2_0, .string a2_1, .int .i64 a2_2, .int .i64 a2_3, .slice A2_4 l2_4.length c2_4] 25 (0, 0)) (by (with_reducible repeat (first | refine blk_drewN ?_ _ | refine blk_drew ?_ | refine blk_alloc ?_ _)); exact BK208.out) k_ hk⟩)); (case aO => exact (by (with_reducible repeat (first | apply Kd.N_alloc | apply Kd.N_drewN | apply Kd.N_drew)); exact HO249.out)); (case aS => exact (below_size (by repeat (first | (with_reducible first | exact HB.out | apply below_alloc | apply pw_below_drewN | apply below_drew1 | refine below_set ?_ GE208.out) | exact HB.out)))); (case aL => have := LMc65.out; omega); intro v251 w74 ho hb hg hat; rw [← Ny250.out] at ho; have n0_ := Aside0.mk (Kd.V_afterv (ok := (fun k_ => ((P0_ k_ ∨ P1_ k_ ∨ P2_4_ k_) ∨ w.heap.size ≤ k_) ∧ k_ ≠ gb208)) (by (with_reducible repeat (first | apply Kd.V_alloc | apply Kd.V_drewN | apply Kd.V_drew)); exact HO_0.out) hg hat); have n1_ := Aside0.mk (Kd.V_afterv (ok := (fun k_ => ((P0_ k_ ∨ P1_ k_ ∨ P2_4_ k_) ∨ w.heap.size ≤ k_) ∧ k_ ≠ gb208)) (by (with_reducible repeat (first | apply Kd.V_alloc | apply Kd.V_drewN | apply Kd.V_drew)); exact HO_209004.out) hg hat); have n2_ := Aside0.mk (blk_grown (g := gb208) (o := .cells #[.bool a2_0, .string a2_1, .int .i64 a2_2, .int .i64 a2_3, .slice A2_4 l2_4.length c2_4] 25 (0, 0)) (by (with_reducible repeat (first | refine blk_drewN ?_ _ | refine blk_drew ?_ | refine blk_alloc ?_ _)); exact BK208.out) hg (Kd.N_away HO249.out (fun _ hk => hk.2))); have n3_ := Aside0.mk (hb); have n4_ := Aside0.mk (ho); clear HO_0; clear HO_209004; clear BK208; clear HB; clear HO249; have HO_0 := n0_; have HO_209004 := n1_; have BK208 := n2_; have HB := n3_; have HO252 := n4_; clear n0_ n1_ n2_ n3_ n4_; clear ho hb hg hat; have hcz75_0 : w74.cell? ⟨gb208, 0, none⟩ = some (.bool a2_0) := (blk_cell BK208.out 0).trans rfl; have hcz75_1 : w74.cell? ⟨gb208, 1, none⟩ = some (.string a2_1) := (blk_cell BK208.out 1).trans rfl; have hcz75_2 : w74.cell? ⟨gb208, 2, none⟩ = some (.int .i64 a2_2) := (blk_cell BK208.out 2).trans rfl; have hcz75_3 : w74.cell? ⟨gb208, 3, none⟩ = some (.int .i64 a2_3) := (blk_cell BK208.out 3).trans rfl; have hcz75_4 : w74.cell? ⟨gb208, 4, none⟩ = some (.slice A2_4 l2_4.length c2_4) := (blk_cell BK208.out 4).trans rfl; have hfz75_0 := blk_frozen BK208.out 0; have hfz75_1 := blk_frozen BK208.out 1; have hfz75_2 := blk_frozen BK208.out 2; have hfz75_3 := blk_frozen BK208.out 3; have hfz75_4 := blk_frozen BK208.out 4) | ((with_reducible refine gate_callee (f := 12) rfl ?_); refine goesL_ (some 122) rfl rfl Tryd.func12 (by kernel_rfl) rfl #[.agg #[.bool a2_0, .string a2_1, .int .i64 a2_2, .int .i64 a2_3, .slice A2_4 l2_4.length c2_4], .string a3, .int .i64 a4, .string a5] rfl (by (try simp only [List.map_toArray, List.map_cons, List.map_nil]); first | done | rfl | (simp only [List.length_drop, List.length_take]; rfl)) ?_; (with_reducible refine (acl_Matches.calls kj34 a2_0 a2_1 a2_2 a2_3 _ _ l2_4 a3 a4 a5 true _ ?side1 ?side2 A66.out).mono ?_); (case side1 => repeat (first | exact (Kd.V_reads' HO_209004.out).2.2 | (with_reducible refine Kd.C_alloc ?_ _) | (with_reducible refine Kd.C_drewN ?_ _) | (with_reducible refine Kd.C_drew ?_))); (case side2 => exact (Kd.V_reads' HO_209004.out).2.1); rintro e w76 ⟨rfl, hb⟩; refine ⟨_, rfl, ?_⟩; have n0_ := Aside0.mk (Kd.V_below (by (with_reducible repeat (first | apply Kd.V_alloc | apply Kd.V_drewN | apply Kd.V_drew)); exact HO_0.out) hb); have n1_ := Aside0.mk (Kd.V_below (by (with_reducible repeat (first | apply Kd.V_alloc | apply Kd.V_drewN | apply Kd.V_drew)); exact HO_209004.out) hb); have n2_ := Aside0.mk (Kd.N_below (by (with_reducible repeat (first | apply Kd.N_alloc | apply Kd.N_drewN | apply Kd.N_drew)); exact HO252.out) hb); have n3_ := Aside0.mk (blk_below (g := gb208) (o := .cells #[.bool a2_0, .string a2_1, .int .i64 a2_2, .int .i64 a2_3, .slice A2_4 l2_4.length c2_4] 25 (0, 0)) (by (with_reducible repeat (first | refine blk_drewN ?_ _ | refine blk_drew ?_ | refine blk_alloc ?_ _)); exact BK208.out) hb); have n4_ := Aside0.mk (below_step (by repeat (first | (with_reducible first | exact HB.out | apply below_alloc | apply pw_below_drewN | apply below_drew1 | refine below_set ?_ GE208.out) | exact HB.out)) hb); clear HO_0; clear HO_209004; clear HO252; clear BK208; clear HB; have HO_0 := n0_; have HO_209004 := n1_; have HO252 := n2_; have BK208 := n3_; have HB := n4_; clear n0_ n1_ n2_ n3_ n4_; (try clear hb); (try clear hb2); (try clear hk); (try clear hi)))
                      have n0_ := Aside0.mk (Kd.V_drew HO_0.out)
                      have n1_ := Aside0.mk (Kd.V_drew HO_209004.out)
                      have n2_ := Aside0.mk (Kd.N_drew HO252.out)
                      have n3_ := Aside0.mk (blk_drew BK208.out)
                      have n4_ := Aside0.mk (below_drew1 HB.out)
                      clear HO_0
                      clear HO_209004
                      clear HO252
                      clear BK208
                      clear HB
                      have HO_0 := n0_
                      have HO_209004 := n1_
                      have HO252 := n2_
                      have BK208 := n3_
                      have HB := n4_
                      clear n0_ n1_ n2_ n3_ n4_
                      obtain ⟨Ao78, co78, eo78⟩ := Kd.N_slice HO252.out
                      (first | subst eo78 | (injection eo78 with f1_ f2_ f3_; have f4_ := f1_.symm; have f5_ := f3_.symm; clear f1_ f2_ f3_; subst f4_; subst f5_))
                      refine start_ (n := 12) (S := fun w' => w'.cell? ⟨gb208, 0, none⟩ = some (.bool a2_0) ∧ w'.cell? ⟨gb208, 1, none⟩ = some (.string a2_1) ∧ w'.cell? ⟨gb208, 2, none⟩ = some (.int .i64 a2_2) ∧ w'.cell? ⟨gb208, 3, none⟩ = some (.int .i64 a2_3) ∧ w'.cell? ⟨gb208, 4, none⟩ = some (.slice A2_4 l2_4.length c2_4)) (ds := []) #[false, false, false, false, false, false, false, false, false, false, false, false] (by kernel_rfl) rfl rfl ⟨(blk_cell BK208.out 0).trans rfl, (blk_cell BK208.out 1).trans rfl, (blk_cell BK208.out 2).trans rfl, (blk_cell BK208.out 3).trans rfl, (blk_cell BK208.out 4).trans rfl⟩ (fun hHeld => ?_); refine with_tabW tollhouselaw14_AclFirst.tab15 tollhouselaw14_AclFirst.bits15 (fun HT_ HW_ => ?_)
                      generalize w76.drew = w77 at HO_0 HO_209004 HO252 BK208 HB hHeld ⊢
                      refine pure_ (i := 0) (N := some 123) (v := ?_) (a' := ?_) #[true, false, false, false, false, false, false, false, false, false, false, false] rfl rfl (any_of HT_.out (by kernel_rfl)) (fun _ _ _ h => h) (Or.inl ⟨by rfl, ?_⟩) ?_ ?_
                      rotate_left
                      · intro w'
                        go_simp
                        with_reducible rfl
                      rotate_left
                      · simp only [Act.put, List.setIfInBounds_toArray, List.set_cons_zero, List.set_cons_succ, i64_w, i32_w]
                        rfl
                      refine pure_ (i := 1) (N := some 124) (v := ?_) (a' := ?_) #[true, true, false, false, false, false, false, false, false, false, false, false] rfl rfl (any_of HT_.out (by kernel_rfl)) (fun _ _ _ h => h) (Or.inl ⟨by rfl, ?_⟩) ?_ ?_
                      rotate_left
                      · intro w'
                        go_simp
                        with_reducible rfl
                      rotate_left
                      · simp only [Act.put, List.setIfInBounds_toArray, List.set_cons_zero, List.set_cons_succ, i64_w, i32_w]
                        rfl
                      refine pure_ (i := 2) (N := some 125) (v := ?_) (a' := ?_) #[true, true, true, false, false, false, false, false, false, false, false, false] rfl rfl (any_of HT_.out (by kernel_rfl)) (fun _ _ _ h => h) (Or.inl ⟨by rfl, ?_⟩) ?_ ?_
                      rotate_left
                      · intro w'
                        go_simp
                        with_reducible rfl
                      rotate_left
                      · simp only [Act.put, List.setIfInBounds_toArray, List.set_cons_zero, List.set_cons_succ, i64_w, i32_w]
                        rfl
                      refine pure_ (i := 3) (N := some 126) (v := ?_) (a' := ?_) #[true, true, true, true, false, false, false, false, false, false, false, false] rfl rfl (any_of HT_.out (by kernel_rfl)) (fun _ _ _ h => h) (Or.inl ⟨by rfl, ?_⟩) ?_ ?_
                      rotate_left
                      · intro w'
                        go_simp
                        with_reducible rfl
                      rotate_left
                      · simp only [Act.put, List.setIfInBounds_toArray, List.set_cons_zero, List.set_cons_succ, i64_w, i32_w]
                        rfl
                      refine pure_ (i := 5) (N := some 128) (v := ?_) (a' := ?_) #[true, true, true, true, false, true, false, false, false, false, false, false] rfl rfl (any_of HT_.out (by kernel_rfl)) (fun _ _ _ h => h) (Or.inl ⟨by rfl, ?_⟩) ?_ ?_
                      rotate_left
                      · intro w'
                        go_simp
                        with_reducible rfl
                      rotate_left
                      · simp only [Act.put, List.setIfInBounds_toArray, List.set_cons_zero, List.set_cons_succ, i64_w, i32_w]
                        rfl
                      refine take_ (i := 6) (N := some 129) (v := ?_) (a' := ?_) #[true, true, true, true, false, true, true, false, false, false, false, false] rfl rfl (take_ofW HT_.out HW_.out (by kernel_rfl)) (fun _ _ _ h => h) (Or.inl ⟨by rfl, ?_⟩) hHeld ?_ ?_
                      rotate_left
                      · rintro w' ⟨s0, s1, s2, s3, s4⟩
                        go_simp
                        with_reducible rfl
                      rotate_left
                      · simp only [Act.put, List.setIfInBounds_toArray, List.set_cons_zero, List.set_cons_succ, i64_w, i32_w]
                        rfl
                      refine one_ (i := 4) (N := some 127) #[true, true, true, true, true, true, true, false, false, false, false, false] rfl rfl (one_of HT_.out (by kernel_rfl)) (by decide) (fun K hK => ?_)
                      refine goes_ Tryd.func14 (by kernel_rfl) rfl #[.slice Ao78 y250.length co78, .string a3, .int .i64 a4, .string a5] (by rfl) rfl rfl (by (try simp only [List.map_toArray, List.map_cons, List.map_nil]); first | done | rfl | (simp only [List.length_drop, List.length_take]; rfl)) ?_
                      with_reducible refine (acl_Admits.calls kj34 _ _ y250 a3 a4 a5 t254 _ ?side1 ?side2 A68.out).mono ?_
                      (case side1 => repeat (first | exact (Kd.N_reads' HO252.out).2.2 | (with_reducible refine Kd.C_alloc ?_ _) | (with_reducible refine Kd.C_drewN ?_ _) | (with_reducible refine Kd.C_drew ?_)))
                      (case side2 => exact (Kd.N_reads' HO252.out).2.1)
                      rintro e w79 ⟨rfl, hb⟩
                      refine ⟨_, rfl, ?_⟩
                      have n0_ := Aside0.mk (Kd.V_below (by (with_reducible repeat (first | apply Kd.V_alloc | apply Kd.V_drewN | apply Kd.V_drew)); exact HO_0.out) hb)
                      have n1_ := Aside0.mk (Kd.V_below (by (with_reducible repeat (first | apply Kd.V_alloc | apply Kd.V_drewN | apply Kd.V_drew)); exact HO_209004.out) hb)
                      have n2_ := Aside0.mk (Kd.N_below (by (with_reducible repeat (first | apply Kd.N_alloc | apply Kd.N_drewN | apply Kd.N_drew)); exact HO252.out) hb)
                      have n3_ := Aside0.mk (blk_below (g := gb208) (o := .cells #[.bool a2_0, .string a2_1, .int .i64 a2_2, .int .i64 a2_3, .slice A2_4 l2_4.length c2_4] 25 (0, 0)) (by (with_reducible repeat (first | refine blk_drewN ?_ _ | refine blk_drew ?_ | refine blk_alloc ?_ _)); exact BK208.out) hb)
                      have n4_ := Aside0.mk (below_step (by repeat (first | (with_reducible first | exact HB.out | apply below_alloc | apply pw_below_drewN | apply below_drew1 | refine below_set ?_ GE208.out) | exact HB.out)) hb)
                      clear HO_0
                      clear HO_209004
                      clear HO252
                      clear BK208
                      clear HB
                      have HO_0 := n0_
                      have HO_209004 := n1_
                      have HO252 := n2_
                      have BK208 := n3_
                      have HB := n4_
                      clear n0_ n1_ n2_ n3_ n4_
                      (try clear hb)
                      (try clear hb2)
                      (try clear hk)
                      (try clear hi)
                      refine hK.out _ _ ⟨(blk_cell BK208.out 0).trans rfl, (blk_cell BK208.out 1).trans rfl, (blk_cell BK208.out 2).trans rfl, (blk_cell BK208.out 3).trans rfl, (blk_cell BK208.out 4).trans rfl⟩ (fun hHeld => ?_)
                      clear hK K
                      refine norm_ (a' := ?_) ?_ ?_
                      rotate_left
                      · show Act.put _ (some 127) _ = _
                        simp only [Act.put, List.setIfInBounds_toArray, List.set_cons_zero, List.set_cons_succ, i64_w, i32_w]
                        rfl
                      refine pure_ (i := 7) (N := some 130) (v := ?_) (a' := ?_) #[true, true, true, true, true, true, true, true, false, false, false, false] rfl rfl (any_of HT_.out (by kernel_rfl)) (fun _ _ _ h => h) (Or.inl ⟨by rfl, ?_⟩) ?_ ?_
                      rotate_left
                      · intro w'
                        go_simp
                        with_reducible rfl
                      rotate_left
                      · simp only [Act.put, List.setIfInBounds_toArray, List.set_cons_zero, List.set_cons_succ, i64_w, i32_w]
                        rfl
                      refine pure_ (i := 8) (N := some 131) (v := ?_) (a' := ?_) #[true, true, true, true, true, true, true, true, true, false, false, false] rfl rfl (any_of HT_.out (by kernel_rfl)) (fun _ _ _ h => h) (Or.inl ⟨by rfl, ?_⟩) ?_ ?_
                      rotate_left
                      · intro w'
                        go_simp
                        with_reducible rfl
                      rotate_left
                      · simp only [Act.put, List.setIfInBounds_toArray, List.set_cons_zero, List.set_cons_succ, i64_w, i32_w]
                        rfl
                      refine one_ (i := 9) (N := some 132) #[true, true, true, true, true, true, true, true, true, true, false, false] rfl rfl (one_of HT_.out (by kernel_rfl)) (by decide) (fun K hK => ?_)
                      refine goes_ Tryd.func16 (by kernel_rfl) rfl #[] (by rfl) rfl rfl (by (try simp only [List.map_toArray, List.map_cons, List.map_nil]); first | done | rfl | (simp only [List.length_drop, List.length_take]; rfl)) ?_
                      with_reducible refine (tollhouselaw14_wakes.calls kj34  t255 _ ?sideT A70.out).mono ?_
                      case sideT => repeat (first | exact HT.out | exact (Tab.below HT.out HB.out) | (with_reducible first | refine Tab.alloc ?_ _ | refine Tab.drewN ?_ _ | refine Tab.drew ?_ | refine Tab.set ?_ HT.out GE208.out _))
                      rintro e w80 ⟨rfl, hb⟩
                      refine ⟨_, rfl, ?_⟩
                      have n0_ := Aside0.mk (Kd.V_below (by (with_reducible repeat (first | apply Kd.V_alloc | apply Kd.V_drewN | apply Kd.V_drew)); exact HO_0.out) hb)
                      have n1_ := Aside0.mk (Kd.V_below (by (with_reducible repeat (first | apply Kd.V_alloc | apply Kd.V_drewN | apply Kd.V_drew)); exact HO_209004.out) hb)
                      have n2_ := Aside0.mk (Kd.N_below (by (with_reducible repeat (first | apply Kd.N_alloc | apply Kd.N_drewN | apply Kd.N_drew)); exact HO252.out) hb)
                      have n3_ := Aside0.mk (blk_below (g := gb208) (o := .cells #[.bool a2_0, .string a2_1, .int .i64 a2_2, .int .i64 a2_3, .slice A2_4 l2_4.length c2_4] 25 (0, 0)) (by (with_reducible repeat (first | refine blk_drewN ?_ _ | refine blk_drew ?_ | refine blk_alloc ?_ _)); exact BK208.out) hb)
                      have n4_ := Aside0.mk (below_step (by repeat (first | (with_reducible first | exact HB.out | apply below_alloc | apply pw_below_drewN | apply below_drew1 | refine below_set ?_ GE208.out) | exact HB.out)) hb)
                      clear HO_0
                      clear HO_209004
                      clear HO252
                      clear BK208
                      clear HB
                      have HO_0 := n0_
                      have HO_209004 := n1_
                      have HO252 := n2_
                      have BK208 := n3_
                      have HB := n4_
                      clear n0_ n1_ n2_ n3_ n4_
                      (try clear hb)
                      (try clear hb2)
                      (try clear hk)
                      (try clear hi)
                      refine hK.out _ _ ⟨(blk_cell BK208.out 0).trans rfl, (blk_cell BK208.out 1).trans rfl, (blk_cell BK208.out 2).trans rfl, (blk_cell BK208.out 3).trans rfl, (blk_cell BK208.out 4).trans rfl⟩ (fun hHeld => ?_)
                      clear hK K
                      refine norm_ (a' := ?_) ?_ ?_
                      rotate_left
                      · show Act.put _ (some 132) _ = _
                        simp only [Act.put, List.setIfInBounds_toArray, List.set_cons_zero, List.set_cons_succ, i64_w, i32_w]
                        rfl
                      refine pure_ (i := 10) (N := some 133) (v := ?_) (a' := ?_) #[true, true, true, true, true, true, true, true, true, true, true, false] rfl rfl (any_of HT_.out (by kernel_rfl)) (fun _ _ _ h => h) (Or.inl ⟨by rfl, ?_⟩) ?_ ?_
                      rotate_left
                      · intro w'
                        go_simp
                        with_reducible rfl
                      rotate_left
                      · simp only [Act.put, List.setIfInBounds_toArray, List.set_cons_zero, List.set_cons_succ, i64_w, i32_w]
                        rfl
                      refine pure_ (i := 11) (N := some 12) (v := ?_) (a' := ?_) #[true, true, true, true, true, true, true, true, true, true, true, true] rfl rfl (any_of HT_.out (by kernel_rfl)) (fun _ _ _ h => h) (Or.inl ⟨by rfl, ?_⟩) ?_ ?_
                      rotate_left
                      · intro w'
                        go_simp
                        with_reducible rfl
                      rotate_left
                      · simp only [Act.put, List.setIfInBounds_toArray, List.set_cons_zero, List.set_cons_succ, i64_w, i32_w]
                        rfl
                      refine done_ (done_of HT_.out (by kernel_rfl)) ?_
                      try go_wp2
                      go_ret
                      exact ⟨by first | rfl | (simp [errW_none, errW_some] <;> rfl) | (simp [*, errW_none, errW_some] <;> rfl), by repeat (first | (with_reducible first | exact HB.out | apply below_alloc | apply pw_below_drewN | apply below_drew1 | refine below_set ?_ GE208.out) | exact HB.out)⟩
                    · rw [if_neg c69] at H
                      have c69b0 : (t254 == a2_0) = false := by simpa using c69
                      (try (have c69b1 : decide (t254 = a2_0) = false := by simpa using c69))
                      (try (have c69b2 : (t254 == a2_0) = false := by simpa using c69))
                      (try (have c69b3 : ¬ (t254 = a2_0) := by simpa using c69))
                      clear c69
                      exact absurd ((Option.some.inj H).trans hr_) (by decide)
                  · replace c67 := Bool.eq_false_iff.mpr c67
                    subst c67
                    have H1 : ((acl_Admits.f kj34 y250 a3 a4 a5).bind fun t256 => (if (t256 == t209) = true then ((tollhouselaw14_wakes.f kj34).bind fun t257 => (some t257)) else (some false))) = some r := by rw [if_neg (show ¬ (false = true) by decide)] at H; exact H
                    clear H
                    have H := H1
                    clear H1
                    replace H := Option.bind_eq_some_iff.mp H
                    obtain ⟨t256, A810, H⟩ := H
                    replace H : (if (t256 == t209) = true then ((tollhouselaw14_wakes.f kj34).bind fun t257 => (some t257)) else (some false)) = some r := H
                    have A81 := Aside0.mk A810
                    clear A810
                    by_cases c82 : (t256 == t209) = true
                    · rw [if_pos c82] at H
                      have c82b0 : (t256 == t209) = true := c82
                      (try (have c82b1 : decide (t256 = t209) = true := by simpa using c82))
                      (try (have c82b2 : (t256 == t209) = true := by simpa using c82))
                      clear c82
                      replace H := Option.bind_eq_some_iff.mp H
                      obtain ⟨t257, A830, H⟩ := H
                      replace H : (some t257) = some r := H
                      have A83 := Aside0.mk A830
                      clear A830
                      obtain rfl := Option.some.inj H
                      have hcz84_0 : wc.cell? ⟨gb208, 0, none⟩ = some (.bool a2_0) := (blk_cell BK208.out 0).trans rfl
                      have hcz84_1 : wc.cell? ⟨gb208, 1, none⟩ = some (.string a2_1) := (blk_cell BK208.out 1).trans rfl
                      have hcz84_2 : wc.cell? ⟨gb208, 2, none⟩ = some (.int .i64 a2_2) := (blk_cell BK208.out 2).trans rfl
                      have hcz84_3 : wc.cell? ⟨gb208, 3, none⟩ = some (.int .i64 a2_3) := (blk_cell BK208.out 3).trans rfl
                      have hcz84_4 : wc.cell? ⟨gb208, 4, none⟩ = some (.slice A2_4 l2_4.length c2_4) := (blk_cell BK208.out 4).trans rfl
                      have hfz84_0 := blk_frozen BK208.out 0
                      have hfz84_1 := blk_frozen BK208.out 1
                      have hfz84_2 := blk_frozen BK208.out 2
                      have hfz84_3 := blk_frozen BK208.out 3
                      have hfz84_4 := blk_frozen BK208.out 4
                      go_wp2_with (first | ((with_reducible refine gate_dst (N := 115) rfl ?_); (try (refine gate_guard (by rfl) ?_; dsimp only)); refine Kd.N_lit k25 _ 25 ?hg (N' := 115) ?hd (xs := ([(⟨a2_0, a2_1, a2_2, a2_3, l2_4⟩ : S25)] : List (S25))) (inner := [.bool a2_0, .string a2_1, .int .i64 a2_2, .int .i64 a2_3, .slice A2_4 l2_4.length c2_4]) (ok := (fun k_ => ((P0_ k_ ∨ P1_ k_ ∨ P2_4_ k_) ∨ w.heap.size ≤ k_) ∧ k_ ≠ gb208)) (okp := (fun k_ => ((P0_ k_ ∨ P1_ k_ ∨ P2_4_ k_) ∨ w.heap.size ≤ k_) ∧ k_ ≠ gb208)) ?hr ?hp (fun _ hk => hk) ((show ∀ k_, wc.heap.size ≤ k_ → (fun k_ => ((P0_ k_ ∨ P1_ k_ ∨ P2_4_ k_) ∨ w.heap.size ≤ k_) ∧ k_ ≠ gb208) k_ from fun k_ hk => ⟨(.inr (Nat.le_trans (below_size (by repeat (first | (with_reducible first | exact HB.out | apply below_alloc | apply pw_below_drewN | apply below_drew1 | refine below_set ?_ GE208.out) | exact HB.out))) hk)), Kd.freshB (g := gb208) (o := .cells #[.bool a2_0, .string a2_1, .int .i64 a2_2, .int .i64 a2_3, .slice A2_4 l2_4.length c2_4] 25 (0, 0)) (by (with_reducible repeat (first | refine blk_drewN ?_ _ | refine blk_drew ?_ | refine blk_alloc ?_ _)); exact BK208.out) k_ hk⟩) _ (Nat.le_refl _)) (Below.refl _ _) (Nat.le_refl _) (by simp) ?_; (case hd => rfl); (case hg => rfl); (case hr => first | (go_simp; done) | (go_simp; rfl)); (case hp => exact (Reps.c5 (show Kd.FK k25 _ _ (⟨a2_0, a2_1, a2_2, a2_3, l2_4⟩ : S25) [.bool a2_0, .string a2_1, .int .i64 a2_2, .int .i64 a2_3, .slice A2_4 l2_4.length c2_4] from (k25_mkF _ _ (⟨a2_0, a2_1, a2_2, a2_3, l2_4⟩ : S25) (Kd.V_reads' (Kd.V_mono (ok' := (fun k_ => ((P0_ k_ ∨ P1_ k_ ∨ P2_4_ k_) ∨ w.heap.size ≤ k_) ∧ k_ ≠ gb208)) (HO_209004.out) (fun k_ hk => ⟨hk.1, hk.2⟩))).2.1 (Kd.V_F (Kd.V_mono (ok' := (fun k_ => ((P0_ k_ ∨ P1_ k_ ∨ P2_4_ k_) ∨ w.heap.size ≤ k_) ∧ k_ ≠ gb208)) (HO_209004.out) (fun k_ hk => ⟨hk.1, hk.2⟩))))) (Reps.none _ _))); intro v248 w85 ho86 hb hg_ hnew_; clear hg_ hnew_; (first | rw [← Ny247.out] at ho86 | (simp only [Int.reduceToNat] at ho86; rw [← Ny247.out] at ho86)); have n0_ := Aside0.mk (Kd.V_elder' (by (with_reducible repeat (first | apply Kd.V_alloc | apply Kd.V_drewN | apply Kd.V_drew)); exact HO_0.out) (Kd.N_base ho86) hb); have n1_ := Aside0.mk (Kd.V_elder' (by (with_reducible repeat (first | apply Kd.V_alloc | apply Kd.V_drewN | apply Kd.V_drew)); exact HO_209004.out) (Kd.N_base ho86) hb); have n2_ := Aside0.mk (Kd.N_lower ho86 (below_size (by repeat (first | (with_reducible first | exact HB.out | apply below_alloc | apply pw_below_drewN | apply below_drew1 | refine below_set ?_ GE208.out) | exact HB.out)))); have n3_ := Aside0.mk (blk_below (g := gb208) (o := .cells #[.bool a2_0, .string a2_1, .int .i64 a2_2, .int .i64 a2_3, .slice A2_4 l2_4.length c2_4] 25 (0, 0)) (by (with_reducible repeat (first | refine blk_drewN ?_ _ | refine blk_drew ?_ | refine blk_alloc ?_ _)); exact BK208.out) hb); have n4_ := Aside0.mk (below_step (by repeat (first | (with_reducible first | exact HB.out | apply below_alloc | apply pw_below_drewN | apply below_drew1 | refine below_set ?_ GE208.out) | exact HB.out)) hb); clear HO_0; clear HO_209004; clear BK208; clear HB; have HO_0 := n0_; have HO_209004 := n1_; have HO249 := n2_; have BK208 := n3_; have HB := n4_; clear n0_ n1_ n2_ n3_ n4_; clear hb ho86) | ((with_reducible refine gate_builtin (b := .append) (xs := #[.tmp 115, .tmp 116]) rfl ?_); (try (refine gate_guard (by rfl) ?_; dsimp only)); at_builtin; refine Kd.N_append_rows k25 (w0 := w) w.heap.size rfl (.tmp 115) (.tmp 116) 22 25 (.agg #[(.bool false), (.string ⟨#[]⟩), (.int .i64 0), (.int .i64 0), (.slice none 0 0)]) 64 rfl Tryd.underlying22 info25 rfl (by decide) (by omega) v248 y247 l0 _ _ _ (fun k_ => ((P0_ k_ ∨ P1_ k_ ∨ P2_4_ k_) ∨ w.heap.size ≤ k_) ∧ k_ ≠ gb208) (fun k_ => ((fun k_ => ((P0_ k_ ∨ P1_ k_ ∨ P2_4_ k_) ∨ w.heap.size ≤ k_) ∧ k_ ≠ gb208)) k_ ∧ some k_ ≠ (v248 : Value).ownBlock) rfl rfl ?aO ?aR (fun _ hk => hk) ?aF ?aB ?aS ?aL ?_; (case aR => exact (by skip; exact Kd.V_F (Kd.V_mono (ok' := (fun k_ => ((fun k_ => ((P0_ k_ ∨ P1_ k_ ∨ P2_4_ k_) ∨ w.heap.size ≤ k_) ∧ k_ ≠ gb208)) k_ ∧ some k_ ≠ (v248 : Value).ownBlock)) (HO_0.out) (fun k_ hk => ⟨⟨hk.1.1, hk.1.2⟩, hk.2⟩)))); (case aB => exact (by repeat (first | (with_reducible first | exact HB.out | apply below_alloc | apply pw_below_drewN | apply below_drew1 | refine below_set ?_ GE208.out) | exact HB.out))); (case aF => exact (fun k_ hk => ⟨(.inr (Nat.le_trans (below_size (by repeat (first | (with_reducible first | exact HB.out | apply below_alloc | apply pw_below_drewN | apply below_drew1 | refine below_set ?_ GE208.out) | exact HB.out))) hk)), Kd.freshB (g := gb208) (o := .cells #[.bool a2_0, .string a2_1, .int .i64 a2_2, .int .i64 a2_3, .slice A2_4 l2_4.length c2_4] 25 (0, 0)) (by (with_reducible repeat (first | refine blk_drewN ?_ _ | refine blk_drew ?_ | refine blk_alloc ?_ _)); exact BK208.out) k_ hk⟩)); (case aO => exact (by (with_reducible repeat (first | apply Kd.N_alloc | apply Kd.N_drewN | apply Kd.N_drew)); exact HO249.out)); (case aS => exact (below_size (by repeat (first | (with_reducible first | exact HB.out | apply below_alloc | apply pw_below_drewN | apply below_drew1 | refine below_set ?_ GE208.out) | exact HB.out)))); (case aL => have := LMc65.out; omega); intro v251 w87 ho hb hg hat; rw [← Ny250.out] at ho; have n0_ := Aside0.mk (Kd.V_afterv (ok := (fun k_ => ((P0_ k_ ∨ P1_ k_ ∨ P2_4_ k_) ∨ w.heap.size ≤ k_) ∧ k_ ≠ gb208)) (by (with_reducible repeat (first | apply Kd.V_alloc | apply Kd.V_drewN | apply Kd.V_drew)); exact HO_0.out) hg hat); have n1_ := Aside0.mk (Kd.V_afterv (ok := (fun k_ => ((P0_ k_ ∨ P1_ k_ ∨ P2_4_ k_) ∨ w.heap.size ≤ k_) ∧ k_ ≠ gb208)) (by (with_reducible repeat (first | apply Kd.V_alloc | apply Kd.V_drewN | apply Kd.V_drew)); exact HO_209004.out) hg hat); have n2_ := Aside0.mk (blk_grown (g := gb208) (o := .cells #[.bool a2_0, .string a2_1, .int .i64 a2_2, .int .i64 a2_3, .slice A2_4 l2_4.length c2_4] 25 (0, 0)) (by (with_reducible repeat (first | refine blk_drewN ?_ _ | refine blk_drew ?_ | refine blk_alloc ?_ _)); exact BK208.out) hg (Kd.N_away HO249.out (fun _ hk => hk.2))); have n3_ := Aside0.mk (hb); have n4_ := Aside0.mk (ho); clear HO_0; clear HO_209004; clear BK208; clear HB; clear HO249; have HO_0 := n0_; have HO_209004 := n1_; have BK208 := n2_; have HB := n3_; have HO252 := n4_; clear n0_ n1_ n2_ n3_ n4_; clear ho hb hg hat; have hcz88_0 : w87.cell? ⟨gb208, 0, none⟩ = some (.bool a2_0) := (blk_cell BK208.out 0).trans rfl; have hcz88_1 : w87.cell? ⟨gb208, 1, none⟩ = some (.string a2_1) := (blk_cell BK208.out 1).trans rfl; have hcz88_2 : w87.cell? ⟨gb208, 2, none⟩ = some (.int .i64 a2_2) := (blk_cell BK208.out 2).trans rfl; have hcz88_3 : w87.cell? ⟨gb208, 3, none⟩ = some (.int .i64 a2_3) := (blk_cell BK208.out 3).trans rfl; have hcz88_4 : w87.cell? ⟨gb208, 4, none⟩ = some (.slice A2_4 l2_4.length c2_4) := (blk_cell BK208.out 4).trans rfl; have hfz88_0 := blk_frozen BK208.out 0; have hfz88_1 := blk_frozen BK208.out 1; have hfz88_2 := blk_frozen BK208.out 2; have hfz88_3 := blk_frozen BK208.out 3; have hfz88_4 := blk_frozen BK208.out 4) | ((with_reducible refine gate_callee (f := 12) rfl ?_); refine goesL_ (some 122) rfl rfl Tryd.func12 (by kernel_rfl) rfl #[.agg #[.bool a2_0, .string a2_1, .int .i64 a2_2, .int .i64 a2_3, .slice A2_4 l2_4.length c2_4], .string a3, .int .i64 a4, .string a5] rfl (by (try simp only [List.map_toArray, List.map_cons, List.map_nil]); first | done | rfl | (simp only [List.length_drop, List.length_take]; rfl)) ?_; (with_reducible refine (acl_Matches.calls kj34 a2_0 a2_1 a2_2 a2_3 _ _ l2_4 a3 a4 a5 false _ ?side1 ?side2 A66.out).mono ?_); (case side1 => repeat (first | exact (Kd.V_reads' HO_209004.out).2.2 | (with_reducible refine Kd.C_alloc ?_ _) | (with_reducible refine Kd.C_drewN ?_ _) | (with_reducible refine Kd.C_drew ?_))); (case side2 => exact (Kd.V_reads' HO_209004.out).2.1); rintro e w89 ⟨rfl, hb⟩; refine ⟨_, rfl, ?_⟩; have n0_ := Aside0.mk (Kd.V_below (by (with_reducible repeat (first | apply Kd.V_alloc | apply Kd.V_drewN | apply Kd.V_drew)); exact HO_0.out) hb); have n1_ := Aside0.mk (Kd.V_below (by (with_reducible repeat (first | apply Kd.V_alloc | apply Kd.V_drewN | apply Kd.V_drew)); exact HO_209004.out) hb); have n2_ := Aside0.mk (Kd.N_below (by (with_reducible repeat (first | apply Kd.N_alloc | apply Kd.N_drewN | apply Kd.N_drew)); exact HO252.out) hb); have n3_ := Aside0.mk (blk_below (g := gb208) (o := .cells #[.bool a2_0, .string a2_1, .int .i64 a2_2, .int .i64 a2_3, .slice A2_4 l2_4.length c2_4] 25 (0, 0)) (by (with_reducible repeat (first | refine blk_drewN ?_ _ | refine blk_drew ?_ | refine blk_alloc ?_ _)); exact BK208.out) hb); have n4_ := Aside0.mk (below_step (by repeat (first | (with_reducible first | exact HB.out | apply below_alloc | apply pw_below_drewN | apply below_drew1 | refine below_set ?_ GE208.out) | exact HB.out)) hb); clear HO_0; clear HO_209004; clear HO252; clear BK208; clear HB; have HO_0 := n0_; have HO_209004 := n1_; have HO252 := n2_; have BK208 := n3_; have HB := n4_; clear n0_ n1_ n2_ n3_ n4_; (try clear hb); (try clear hb2); (try clear hk); (try clear hi); obtain ⟨Ao90, co90, eo90⟩ := Kd.N_slice HO252.out; subst eo90) | ((with_reducible refine gate_callee (f := 14) rfl ?_); refine goesL_ (some 138) rfl rfl Tryd.func14 (by kernel_rfl) rfl #[.slice Ao90 y250.length co90, .string a3, .int .i64 a4, .string a5] rfl (by (try simp only [List.map_toArray, List.map_cons, List.map_nil]); first | done | rfl | (simp only [List.length_drop, List.length_take]; rfl)) ?_; (with_reducible refine (acl_Admits.calls kj34 _ _ y250 a3 a4 a5 t256 _ ?side1 ?side2 A81.out).mono ?_); (case side1 => repeat (first | exact (Kd.N_reads' HO252.out).2.2 | (with_reducible refine Kd.C_alloc ?_ _) | (with_reducible refine Kd.C_drewN ?_ _) | (with_reducible refine Kd.C_drew ?_))); (case side2 => exact (Kd.N_reads' HO252.out).2.1); rintro e w91 ⟨rfl, hb⟩; refine ⟨_, rfl, ?_⟩; have n0_ := Aside0.mk (Kd.V_below (by (with_reducible repeat (first | apply Kd.V_alloc | apply Kd.V_drewN | apply Kd.V_drew)); exact HO_0.out) hb); have n1_ := Aside0.mk (Kd.V_below (by (with_reducible repeat (first | apply Kd.V_alloc | apply Kd.V_drewN | apply Kd.V_drew)); exact HO_209004.out) hb); have n2_ := Aside0.mk (Kd.N_below (by (with_reducible repeat (first | apply Kd.N_alloc | apply Kd.N_drewN | apply Kd.N_drew)); exact HO252.out) hb); have n3_ := Aside0.mk (blk_below (g := gb208) (o := .cells #[.bool a2_0, .string a2_1, .int .i64 a2_2, .int .i64 a2_3, .slice A2_4 l2_4.length c2_4] 25 (0, 0)) (by (with_reducible repeat (first | refine blk_drewN ?_ _ | refine blk_drew ?_ | refine blk_alloc ?_ _)); exact BK208.out) hb); have n4_ := Aside0.mk (below_step (by repeat (first | (with_reducible first | exact HB.out | apply below_alloc | apply pw_below_drewN | apply below_drew1 | refine below_set ?_ GE208.out) | exact HB.out)) hb); clear HO_0; clear HO_209004; clear HO252; clear BK208; clear HB; have HO_0 := n0_; have HO_209004 := n1_; have HO252 := n2_; have BK208 := n3_; have HB := n4_; clear n0_ n1_ n2_ n3_ n4_; (try clear hb); (try clear hb2); (try clear hk); (try clear hi)) | (go_at_call 16; (with_reducible refine (tollhouselaw14_wakes.calls kj34 t257 _ ?sideT A83.out).mono ?_); (case sideT => repeat (first | exact HT.out | exact (Tab.below HT.out HB.out) | (with_reducible first | refine Tab.alloc ?_ _ | refine Tab.drewN ?_ _ | refine Tab.drew ?_ | refine Tab.set ?_ HT.out GE208.out _))); rintro e w92 ⟨rfl, hb⟩; have n0_ := Aside0.mk (Kd.V_below (by (with_reducible repeat (first | apply Kd.V_alloc | apply Kd.V_drewN | apply Kd.V_drew)); exact HO_0.out) hb); have n1_ := Aside0.mk (Kd.V_below (by (with_reducible repeat (first | apply Kd.V_alloc | apply Kd.V_drewN | apply Kd.V_drew)); exact HO_209004.out) hb); have n2_ := Aside0.mk (Kd.N_below (by (with_reducible repeat (first | apply Kd.N_alloc | apply Kd.N_drewN | apply Kd.N_drew)); exact HO252.out) hb); have n3_ := Aside0.mk (blk_below (g := gb208) (o := .cells #[.bool a2_0, .string a2_1, .int .i64 a2_2, .int .i64 a2_3, .slice A2_4 l2_4.length c2_4] 25 (0, 0)) (by (with_reducible repeat (first | refine blk_drewN ?_ _ | refine blk_drew ?_ | refine blk_alloc ?_ _)); exact BK208.out) hb); have n4_ := Aside0.mk (below_step (by repeat (first | (with_reducible first | exact HB.out | apply below_alloc | apply pw_below_drewN | apply below_drew1 | refine below_set ?_ GE208.out) | exact HB.out)) hb); clear HO_0; clear HO_209004; clear HO252; clear BK208; clear HB; have HO_0 := n0_; have HO_209004 := n1_; have HO252 := n2_; have BK208 := n3_; have HB := n4_; clear n0_ n1_ n2_ n3_ n4_; (try clear hb); (try clear hb2); (try clear hk); (try clear hi)))
                      go_ret
                      exact ⟨by first | rfl | (simp [errW_none, errW_some] <;> rfl) | (simp [*, errW_none, errW_some] <;> rfl), by repeat (first | (with_reducible first | exact HB.out | apply below_alloc | apply pw_below_drewN | apply below_drew1 | refine below_set ?_ GE208.out) | exact HB.out)⟩
                    · rw [if_neg c82] at H
                      have c82b0 : (t256 == t209) = false := by simpa using c82
                      (try (have c82b1 : decide (t256 = t209) = false := by simpa using c82))
                      (try (have c82b2 : (t256 == t209) = false := by simpa using c82))
                      (try (have c82b3 : ¬ (t256 = t209) := by simpa using c82))
                      clear c82
                      exact absurd ((Option.some.inj H).trans hr_) (by decide)
                · rw [if_neg c65] at H
                  exact absurd H (by simp)

end Go.Proofs.YthfppglmjkjcoaaDoor.P
