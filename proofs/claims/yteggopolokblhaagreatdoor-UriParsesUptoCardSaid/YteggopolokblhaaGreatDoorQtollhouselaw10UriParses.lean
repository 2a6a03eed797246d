/- The walk of the Go function tollhouselaw10 UriParses, and what it computes. By program. Conditions: none but those that each theorem names. -/
import Derived.Test.YteggopolokblhaaGreatDoorQ0
import Derived.Test.YteggopolokblhaaGreatDoorQEq1
import Derived.Test.YteggopolokblhaaGreatDoorQUriB
import Derived.Test.YteggopolokblhaaGreatDoorQRef10b
import Derived.Test.YteggopolokblhaaGreatDoorQtollhouselaw10wakes
namespace Go.Proofs.YteggopolokblhaaGreatDoor.P
open Go.RowKit Go.Proofs.YteggopolokblhaaGreatDoorW.PrintWords Go.Proofs.YteggopolokblhaaGreatDoorW.PrintLast Go.Proofs.YteggopolokblhaaGreatDoorW.PrintMore
attribute [local go_sem] max2_int min2_int max_two min_two max_three min_three max_four min_four
set_option linter.unusedVariables false
set_option linter.unusedSimpArgs false

attribute [local go_sem high] eqA23
/-! ### tollhouselaw10_UriParses: function 3 -/
def tollhouselaw10_UriParses.f (k : Nat) (a0 : ByteArray) : Option (Bool) := (uri_Parse.f k a0).bind fun bt307 => ((tollhouseref10_Parse.f k a0).bind fun bt312 => ((uri_Authority.f k a0).bind fun bt317 => ((tollhouseref10_Authority.f k a0).bind fun bt320 => (if (bt307.1.toList == bt312.1.toList && (bt307.2.1 == bt312.2.1 && (bt307.2.2.1.toList == bt312.2.2.1.toList))) = true then (if bt307.2.2.2 = bt312.2.2.2 then (if bt317.1.toList = bt320.1.toList then (if bt317.2.1 = bt320.2.1 then (if bt317.2.2 = bt320.2.2 then ((tollhouselaw10_wakes.f k).bind fun t323 => (some t323)) else (some false)) else (some false)) else (some false)) else (some false)) else (some false)))))
theorem tollhouselaw10_UriParses.mono : ∀ a0 k, LeO (tollhouselaw10_UriParses.f k a0) (tollhouselaw10_UriParses.f (k + 1) a0) := by
  intro a0 k
  unfold tollhouselaw10_UriParses.f
  repeat' first
      | (with_reducible exact tollhouselaw10_wakes.mono _)
      | (with_reducible exact tollhouseref10_Authority.mono _ _)
      | (with_reducible exact tollhouseref10_Parse.mono _ _)
      | (with_reducible exact uri_Authority.mono _ _)
      | (with_reducible exact uri_Parse.mono _ _)
      | (with_reducible exact LeO.refl _)
      | (with_reducible exact LeO.none _)
      | (with_reducible refine LeO.ite ?_ ?_)
      | (with_reducible refine LeO.bind ?_ (fun _ => ?_))
      | exact tollhouselaw10_wakes.mono _
      | exact tollhouseref10_Authority.mono _ _
      | exact tollhouseref10_Parse.mono _ _
      | exact uri_Authority.mono _ _
      | exact uri_Parse.mono _ _
      | exact LeO.none _
      | refine LeO.ite ?_ ?_
      | refine LeO.bind ?_ (fun _ => ?_)
set_option maxHeartbeats 8000000 in
set_option maxRecDepth 100000 in
theorem tollhouselaw10_UriParses.calls (k : Nat) (a0 : ByteArray) (r : Bool) (w : World) (hr_ : r = true) (hT : Tab w) (h : tollhouselaw10_UriParses.f k a0 = some r) :
    Calls Tryz.prog 3 #[.string a0] w fun e w' => e = .returned (.bool r) ∧ Below w.heap.size w w' := by
  have HT := Aside0.mk hT
  clear hT
  have hu23 := Tryz.underlying23
  have HB := Aside0.mk (Below.refl w.heap.size w)
  have H : ((uri_Parse.f k a0).bind fun bt307 => ((tollhouseref10_Parse.f k a0).bind fun bt312 => ((uri_Authority.f k a0).bind fun bt317 => ((tollhouseref10_Authority.f k a0).bind fun bt320 => (if (bt307.1.toList == bt312.1.toList && (bt307.2.1 == bt312.2.1 && (bt307.2.2.1.toList == bt312.2.2.1.toList))) = true then (if bt307.2.2.2 = bt312.2.2.2 then (if bt317.1.toList = bt320.1.toList then (if bt317.2.1 = bt320.2.1 then (if bt317.2.2 = bt320.2.2 then ((tollhouselaw10_wakes.f k).bind fun t323 => (some t323)) else (some false)) else (some false)) else (some false)) else (some false)) else (some false)))))) = some r := h
  clear h
  replace H := Option.bind_eq_some_iff.mp H
  obtain ⟨⟨t307, t308, t309, t310⟩, A20, H⟩ := H
  replace H : ((tollhouseref10_Parse.f k a0).bind fun bt312 => ((uri_Authority.f k a0).bind fun bt317 => ((tollhouseref10_Authority.f k a0).bind fun bt320 => (if (t307.toList == bt312.1.toList && (t308 == bt312.2.1 && (t309.toList == bt312.2.2.1.toList))) = true then (if t310 = bt312.2.2.2 then (if bt317.1.toList = bt320.1.toList then (if bt317.2.1 = bt320.2.1 then (if bt317.2.2 = bt320.2.2 then ((tollhouselaw10_wakes.f k).bind fun t323 => (some t323)) else (some false)) else (some false)) else (some false)) else (some false)) else (some false))))) = some r := H
  have A2 := Aside0.mk A20
  clear A20
  replace H := Option.bind_eq_some_iff.mp H
  obtain ⟨⟨t312, t313, t314, t315⟩, A30, H⟩ := H
  replace H : ((uri_Authority.f k a0).bind fun bt317 => ((tollhouseref10_Authority.f k a0).bind fun bt320 => (if (t307.toList == t312.toList && (t308 == t313 && (t309.toList == t314.toList))) = true then (if t310 = t315 then (if bt317.1.toList = bt320.1.toList then (if bt317.2.1 = bt320.2.1 then (if bt317.2.2 = bt320.2.2 then ((tollhouselaw10_wakes.f k).bind fun t323 => (some t323)) else (some false)) else (some false)) else (some false)) else (some false)) else (some false)))) = some r := H
  have A3 := Aside0.mk A30
  clear A30
  replace H := Option.bind_eq_some_iff.mp H
  obtain ⟨⟨t317, t318, t319⟩, A40, H⟩ := H
  replace H : ((tollhouseref10_Authority.f k a0).bind fun bt320 => (if (t307.toList == t312.toList && (t308 == t313 && (t309.toList == t314.toList))) = true then (if t310 = t315 then (if t317.toList = bt320.1.toList then (if t318 = bt320.2.1 then (if t319 = bt320.2.2 then ((tollhouselaw10_wakes.f k).bind fun t323 => (some t323)) else (some false)) else (some false)) else (some false)) else (some false)) else (some false))) = some r := H
  have A4 := Aside0.mk A40
  clear A40
  replace H := Option.bind_eq_some_iff.mp H
  obtain ⟨⟨t320, t321, t322⟩, A50, H⟩ := H
  replace H : (if (t307.toList == t312.toList && (t308 == t313 && (t309.toList == t314.toList))) = true then (if t310 = t315 then (if t317.toList = t320.toList then (if t318 = t321 then (if t319 = t322 then ((tollhouselaw10_wakes.f k).bind fun t323 => (some t323)) else (some false)) else (some false)) else (some false)) else (some false)) else (some false)) = some r := H
  have A5 := Aside0.mk A50
  clear A50
  by_cases c6 : (t307.toList == t312.toList && (t308 == t313 && (t309.toList == t314.toList))) = true
  · rw [if_pos c6] at H
    have c6b0 : (t307.toList == t312.toList && (t308 == t313 && (t309.toList == t314.toList))) = true := c6
    (try (have c6b1 : decide (t307.toList = t312.toList && (t308 == t313 && (t309.toList == t314.toList))) = true := by simpa using c6))
    (try (have c6b2 : (t307.toList == t312.toList && (t308 == t313 && (t309.toList == t314.toList))) = true := by simpa using c6))
    clear c6
    by_cases c7 : t310 = t315
    · rw [if_pos c7] at H
      have c7b0 : (t310 == t315) = true := beq_iff_eq.mpr c7
      have c7b1 : (t310 != t315) = false := bne_eq_false_iff_eq.mpr c7
      clear c7
      by_cases c8 : t317.toList = t320.toList
      · rw [if_pos c8] at H
        have c8b0 : (t317.toList == t320.toList) = true := beq_iff_eq.mpr c8
        have c8b1 : (t317.toList != t320.toList) = false := bne_eq_false_iff_eq.mpr c8
        clear c8
        by_cases c9 : t318 = t321
        · rw [if_pos c9] at H
          have c9b0 : (t318 == t321) = true := beq_iff_eq.mpr c9
          have c9b1 : (t318 != t321) = false := bne_eq_false_iff_eq.mpr c9
          clear c9
          by_cases c10 : t319 = t322
          · rw [if_pos c10] at H
            have c10b0 : (t319 == t322) = true := beq_iff_eq.mpr c10
            have c10b1 : (t319 != t322) = false := bne_eq_false_iff_eq.mpr c10
            clear c10
            replace H := Option.bind_eq_some_iff.mp H
            obtain ⟨t323, A110, H⟩ := H
            replace H : (some t323) = some r := H
            have A11 := Aside0.mk A110
            clear A110
            obtain rfl := Option.some.inj H
            go_enter Tryz.func3, Tryz.ntmps3
            go_wp2_with (first | ((with_reducible refine gate_callee (f := 5) rfl ?_); refine goesL_ (some 15) rfl rfl Tryz.func5 (by kernel_rfl) rfl #[.string a0] rfl (by (try simp only [List.map_toArray, List.map_cons, List.map_nil]); first | done | rfl | (simp only [List.length_drop, List.length_take]; rfl)) ?_; (with_reducible refine (uri_Parse.calls k a0 t307 t308 t309 t310 _ ?sideT A2.out).mono ?_); (case sideT => repeat (first | exact HT.out | exact (Tab.below HT.out HB.out) | (with_reducible first | refine Tab.alloc ?_ _ | refine Tab.drewN ?_ _ | refine Tab.drew ?_ | refine Tab.set ?_ HT.out GE311.out _ | refine Tab.set ?_ HT.out GE316.out _))); rintro e w12 ⟨rfl, hb⟩; refine ⟨_, rfl, ?_⟩; have n0_ := Aside0.mk (below_step (by repeat (first | (with_reducible first | exact HB.out | apply below_alloc | apply pw_below_drewN | apply below_drew1) | exact HB.out)) hb); clear HB; have HB := n0_; clear n0_; (try clear hb); (try clear hb2); (try clear hk); (try clear hi)) | ((with_reducible refine gate_dst (N := 3) rfl ?_); refine box_event ?hg (N := 3) ?hd (cs := #[.string (⟨#[]⟩ : ByteArray), .int .i64 0, .string (⟨#[]⟩ : ByteArray)]) (t := 23) ?hr ?_; (case hd => rfl); (case hg => rfl); (case hr => first | (go_simp; done) | (go_simp; rfl)); intro gb311 hg w13 hbox hb; have n0_ := Aside0.mk (below_step (by repeat (first | (with_reducible first | exact HB.out | apply below_alloc | apply pw_below_drewN | apply below_drew1) | exact HB.out)) hb); have n1_ := Aside0.mk (hbox); have n2_ := Aside0.mk ((by rw [hg]; exact (below_size (by repeat (first | (with_reducible first | exact HB.out | apply below_alloc | apply pw_below_drewN | apply below_drew1) | exact HB.out))) : w.heap.size ≤ gb311)); have n3_ := Aside0.mk ((by rw [hg]; exact (below_size (by repeat (first | (with_reducible first | exact HB.out | apply below_alloc | apply pw_below_drewN | apply below_drew1) | exact HB.out))) : w.heap.size ≤ gb311)); clear HB; have HB := n0_; have BK311 := n1_; have GW311 := n2_; have GE311 := n3_; clear n0_ n1_ n2_ n3_; clear hb hbox hg; have hcz14_0 : w13.cell? ⟨gb311, 0, none⟩ = some (.string (⟨#[]⟩ : ByteArray)) := (blk_cell BK311.out 0).trans rfl; have hcz14_1 : w13.cell? ⟨gb311, 1, none⟩ = some (.int .i64 0) := (blk_cell BK311.out 1).trans rfl; have hcz14_2 : w13.cell? ⟨gb311, 2, none⟩ = some (.string (⟨#[]⟩ : ByteArray)) := (blk_cell BK311.out 2).trans rfl; have hfz14_0 := blk_frozen BK311.out 0; have hfz14_1 := blk_frozen BK311.out 1; have hfz14_2 := blk_frozen BK311.out 2) | ((with_reducible refine gate_callee (f := 6) rfl ?_); refine goesL_ (some 20) rfl rfl Tryz.func6 (by kernel_rfl) rfl #[.string a0] rfl (by (try simp only [List.map_toArray, List.map_cons, List.map_nil]); first | done | rfl | (simp only [List.length_drop, List.length_take]; rfl)) ?_; (with_reducible refine (tollhouseref10_Parse.calls k a0 t312 t313 t314 t315 _ A3.out).mono ?_); rintro e w15 ⟨rfl, hb⟩; refine ⟨_, rfl, ?_⟩; have n0_ := Aside0.mk (blk_below (g := gb311) (o := .cells #[.string t307, .int .i64 t308, .string t309] 23 (0, 0)) (by (with_reducible repeat (first | refine blk_drewN ?_ _ | refine blk_drew ?_ | refine blk_alloc ?_ _)); refine blk_put (cs := #[.string t307, .int .i64 t308, .string (⟨#[]⟩ : ByteArray)]) ?_ 2 _ rfl; (with_reducible repeat (first | refine blk_drewN ?_ _ | refine blk_drew ?_ | refine blk_alloc ?_ _)); refine blk_put (cs := #[.string t307, .int .i64 0, .string (⟨#[]⟩ : ByteArray)]) ?_ 1 _ rfl; (with_reducible repeat (first | refine blk_drewN ?_ _ | refine blk_drew ?_ | refine blk_alloc ?_ _)); refine blk_put (cs := #[.string (⟨#[]⟩ : ByteArray), .int .i64 0, .string (⟨#[]⟩ : ByteArray)]) ?_ 0 _ rfl; (with_reducible repeat (first | refine blk_drewN ?_ _ | refine blk_drew ?_ | refine blk_alloc ?_ _)); exact BK311.out) hb); have n1_ := Aside0.mk (below_step (by repeat (first | (with_reducible first | exact HB.out | apply below_alloc | apply pw_below_drewN | apply below_drew1 | refine below_set ?_ GE311.out) | exact HB.out)) hb); clear BK311; clear HB; have BK311 := n0_; have HB := n1_; clear n0_ n1_; (try clear hb); (try clear hb2); (try clear hk); (try clear hi)) | ((with_reducible refine gate_dst (N := 5) rfl ?_); refine box_event ?hg (N := 5) ?hd (cs := #[.string (⟨#[]⟩ : ByteArray), .int .i64 0, .string (⟨#[]⟩ : ByteArray)]) (t := 23) ?hr ?_; (case hd => rfl); (case hg => rfl); (case hr => first | (go_simp; done) | (go_simp; rfl)); intro gb316 hg w16 hbox hb; have n0_ := Aside0.mk (blk_below (g := gb311) (o := .cells #[.string t307, .int .i64 t308, .string t309] 23 (0, 0)) (by (with_reducible repeat (first | refine blk_drewN ?_ _ | refine blk_drew ?_ | refine blk_alloc ?_ _)); exact BK311.out) hb); have n1_ := Aside0.mk (below_step (by repeat (first | (with_reducible first | exact HB.out | apply below_alloc | apply pw_below_drewN | apply below_drew1 | refine below_set ?_ GE311.out) | exact HB.out)) hb); have n2_ := Aside0.mk (hbox); have n3_ := Aside0.mk ((by rw [hg]; exact (below_size (by repeat (first | (with_reducible first | exact HB.out | apply below_alloc | apply pw_below_drewN | apply below_drew1 | refine below_set ?_ GE311.out) | exact HB.out))) : w.heap.size ≤ gb316)); have n4_ := Aside0.mk ((by rw [hg]; exact (below_size (by repeat (first | (with_reducible first | exact HB.out | apply below_alloc | apply pw_below_drewN | apply below_drew1 | refine below_set ?_ GE311.out) | exact HB.out))) : w.heap.size ≤ gb316)); have n5_ := Aside0.mk ((by rw [hg]; exact Nat.ne_of_lt (blk_lt (g := gb311) (o := .cells #[.string t307, .int .i64 t308, .string t309] 23 (0, 0)) (by (with_reducible repeat (first | refine blk_drewN ?_ _ | refine blk_drew ?_ | refine blk_alloc ?_ _)); exact BK311.out)) : gb311 ≠ gb316)); have n6_ := Aside0.mk ((by rw [hg]; exact Nat.ne_of_gt (blk_lt (g := gb311) (o := .cells #[.string t307, .int .i64 t308, .string t309] 23 (0, 0)) (by (with_reducible repeat (first | refine blk_drewN ?_ _ | refine blk_drew ?_ | refine blk_alloc ?_ _)); exact BK311.out)) : gb316 ≠ gb311)); clear BK311; clear HB; have BK311 := n0_; have HB := n1_; have BK316 := n2_; have GW316 := n3_; have GE316 := n4_; have NB311_316 := n5_; have NB316_311 := n6_; clear n0_ n1_ n2_ n3_ n4_ n5_ n6_; clear hb hbox hg; have hnb17 := NB316_311.out; have hnc17 := NB311_316.out; have hcz18_0 : w16.cell? ⟨gb316, 0, none⟩ = some (.string (⟨#[]⟩ : ByteArray)) := (blk_cell BK316.out 0).trans rfl; have hcz18_1 : w16.cell? ⟨gb316, 1, none⟩ = some (.int .i64 0) := (blk_cell BK316.out 1).trans rfl; have hcz18_2 : w16.cell? ⟨gb316, 2, none⟩ = some (.string (⟨#[]⟩ : ByteArray)) := (blk_cell BK316.out 2).trans rfl; have hfz18_0 := blk_frozen BK316.out 0; have hfz18_1 := blk_frozen BK316.out 1; have hfz18_2 := blk_frozen BK316.out 2) | ((with_reducible refine gate_callee (f := 7) rfl ?_); refine goesL_ (some 25) rfl rfl Tryz.func7 (by kernel_rfl) rfl #[.string a0] rfl (by (try simp only [List.map_toArray, List.map_cons, List.map_nil]); first | done | rfl | (simp only [List.length_drop, List.length_take]; rfl)) ?_; (with_reducible refine (uri_Authority.calls k a0 t317 t318 t319 _ ?sideT A4.out).mono ?_); (case sideT => repeat (first | exact HT.out | exact (Tab.below HT.out HB.out) | (with_reducible first | refine Tab.alloc ?_ _ | refine Tab.drewN ?_ _ | refine Tab.drew ?_ | refine Tab.set ?_ HT.out GE311.out _ | refine Tab.set ?_ HT.out GE316.out _))); rintro e w19 ⟨rfl, hb⟩; refine ⟨_, rfl, ?_⟩; have n0_ := Aside0.mk (blk_below (g := gb311) (o := .cells #[.string t307, .int .i64 t308, .string t309] 23 (0, 0)) (by (with_reducible repeat (first | refine blk_drewN ?_ _ | refine blk_drew ?_ | refine blk_alloc ?_ _)); refine blk_far ?_ NB311_316.out _; (with_reducible repeat (first | refine blk_drewN ?_ _ | refine blk_drew ?_ | refine blk_alloc ?_ _)); refine blk_far ?_ NB311_316.out _; (with_reducible repeat (first | refine blk_drewN ?_ _ | refine blk_drew ?_ | refine blk_alloc ?_ _)); refine blk_far ?_ NB311_316.out _; (with_reducible repeat (first | refine blk_drewN ?_ _ | refine blk_drew ?_ | refine blk_alloc ?_ _)); exact BK311.out) hb); have n1_ := Aside0.mk (blk_below (g := gb316) (o := .cells #[.string t312, .int .i64 t313, .string t314] 23 (0, 0)) (by (with_reducible repeat (first | refine blk_drewN ?_ _ | refine blk_drew ?_ | refine blk_alloc ?_ _)); refine blk_put (cs := #[.string t312, .int .i64 t313, .string (⟨#[]⟩ : ByteArray)]) ?_ 2 _ rfl; (with_reducible repeat (first | refine blk_drewN ?_ _ | refine blk_drew ?_ | refine blk_alloc ?_ _)); refine blk_put (cs := #[.string t312, .int .i64 0, .string (⟨#[]⟩ : ByteArray)]) ?_ 1 _ rfl; (with_reducible repeat (first | refine blk_drewN ?_ _ | refine blk_drew ?_ | refine blk_alloc ?_ _)); refine blk_put (cs := #[.string (⟨#[]⟩ : ByteArray), .int .i64 0, .string (⟨#[]⟩ : ByteArray)]) ?_ 0 _ rfl; (with_reducible repeat (first | refine blk_drewN ?_ _ | refine blk_drew ?_ | refine blk_alloc ?_ _)); exact BK316.out) hb); have n2_ := Aside0.mk (below_step (by repeat (first | (with_reducible first | exact HB.out | apply below_alloc | apply pw_below_drewN | apply below_drew1 | refine below_set ?_ GE311.out | refine below_set ?_ GE316.out) | exact HB.out)) hb); clear BK311; clear BK316; clear HB; have BK311 := n0_; have BK316 := n1_; have HB := n2_; clear n0_ n1_ n2_; (try clear hb); (try clear hb2); (try clear hk); (try clear hi)) | ((with_reducible refine gate_callee (f := 8) rfl ?_); refine goesL_ (some 31) rfl rfl Tryz.func8 (by kernel_rfl) rfl #[.string a0] rfl (by (try simp only [List.map_toArray, List.map_cons, List.map_nil]); first | done | rfl | (simp only [List.length_drop, List.length_take]; rfl)) ?_; (with_reducible refine (tollhouseref10_Authority.calls k a0 t320 t321 t322 _ A5.out).mono ?_); rintro e w20 ⟨rfl, hb⟩; refine ⟨_, rfl, ?_⟩; have n0_ := Aside0.mk (blk_below (g := gb311) (o := .cells #[.string t307, .int .i64 t308, .string t309] 23 (0, 0)) (by (with_reducible repeat (first | refine blk_drewN ?_ _ | refine blk_drew ?_ | refine blk_alloc ?_ _)); exact BK311.out) hb); have n1_ := Aside0.mk (blk_below (g := gb316) (o := .cells #[.string t312, .int .i64 t313, .string t314] 23 (0, 0)) (by (with_reducible repeat (first | refine blk_drewN ?_ _ | refine blk_drew ?_ | refine blk_alloc ?_ _)); exact BK316.out) hb); have n2_ := Aside0.mk (below_step (by repeat (first | (with_reducible first | exact HB.out | apply below_alloc | apply pw_below_drewN | apply below_drew1 | refine below_set ?_ GE311.out | refine below_set ?_ GE316.out) | exact HB.out)) hb); clear BK311; clear BK316; clear HB; have BK311 := n0_; have BK316 := n1_; have HB := n2_; clear n0_ n1_ n2_; (try clear hb); (try clear hb2); (try clear hk); (try clear hi); have hcz21_0 : w20.cell? ⟨gb311, 0, none⟩ = some (.string t307) := (blk_cell BK311.out 0).trans rfl; have hcz21_1 : w20.cell? ⟨gb311, 1, none⟩ = some (.int .i64 t308) := (blk_cell BK311.out 1).trans rfl; have hcz21_2 : w20.cell? ⟨gb311, 2, none⟩ = some (.string t309) := (blk_cell BK311.out 2).trans rfl; have hfz21_0 := blk_frozen BK311.out 0; have hfz21_1 := blk_frozen BK311.out 1; have hfz21_2 := blk_frozen BK311.out 2; have hcz22_0 : w20.cell? ⟨gb316, 0, none⟩ = some (.string t312) := (blk_cell BK316.out 0).trans rfl; have hcz22_1 : w20.cell? ⟨gb316, 1, none⟩ = some (.int .i64 t313) := (blk_cell BK316.out 1).trans rfl; have hcz22_2 : w20.cell? ⟨gb316, 2, none⟩ = some (.string t314) := (blk_cell BK316.out 2).trans rfl; have hfz22_0 := blk_frozen BK316.out 0; have hfz22_1 := blk_frozen BK316.out 1; have hfz22_2 := blk_frozen BK316.out 2) | (go_at_call 9; (with_reducible refine (tollhouselaw10_wakes.calls k t323 _ ?sideT A11.out).mono ?_); (case sideT => repeat (first | exact HT.out | exact (Tab.below HT.out HB.out) | (with_reducible first | refine Tab.alloc ?_ _ | refine Tab.drewN ?_ _ | refine Tab.drew ?_ | refine Tab.set ?_ HT.out GE311.out _ | refine Tab.set ?_ HT.out GE316.out _))); rintro e w23 ⟨rfl, hb⟩; have n0_ := Aside0.mk (blk_below (g := gb311) (o := .cells #[.string t307, .int .i64 t308, .string t309] 23 (0, 0)) (by (with_reducible repeat (first | refine blk_drewN ?_ _ | refine blk_drew ?_ | refine blk_alloc ?_ _)); exact BK311.out) hb); have n1_ := Aside0.mk (blk_below (g := gb316) (o := .cells #[.string t312, .int .i64 t313, .string t314] 23 (0, 0)) (by (with_reducible repeat (first | refine blk_drewN ?_ _ | refine blk_drew ?_ | refine blk_alloc ?_ _)); exact BK316.out) hb); have n2_ := Aside0.mk (below_step (by repeat (first | (with_reducible first | exact HB.out | apply below_alloc | apply pw_below_drewN | apply below_drew1 | refine below_set ?_ GE311.out | refine below_set ?_ GE316.out) | exact HB.out)) hb); clear BK311; clear BK316; clear HB; have BK311 := n0_; have BK316 := n1_; have HB := n2_; clear n0_ n1_ n2_; (try clear hb); (try clear hb2); (try clear hk); (try clear hi)))
            go_ret
            exact ⟨by first | rfl | (simp [errW_none, errW_some] <;> rfl) | (simp [*, errW_none, errW_some] <;> rfl), by repeat (first | (with_reducible first | exact HB.out | apply below_alloc | apply pw_below_drewN | apply below_drew1 | refine below_set ?_ GE311.out | refine below_set ?_ GE316.out) | exact HB.out)⟩
          · rw [if_neg c10] at H
            have c10b0 : (t319 == t322) = false := beq_eq_false_iff_ne.mpr c10
            have c10b1 : (t319 != t322) = true := bne_iff_ne.mpr c10
            exact absurd ((Option.some.inj H).trans hr_) (by decide)
        · rw [if_neg c9] at H
          have c9b0 : (t318 == t321) = false := beq_eq_false_iff_ne.mpr c9
          have c9b1 : (t318 != t321) = true := bne_iff_ne.mpr c9
          exact absurd ((Option.some.inj H).trans hr_) (by decide)
      · rw [if_neg c8] at H
        have c8b0 : (t317.toList == t320.toList) = false := beq_eq_false_iff_ne.mpr c8
        have c8b1 : (t317.toList != t320.toList) = true := bne_iff_ne.mpr c8
        exact absurd ((Option.some.inj H).trans hr_) (by decide)
    · rw [if_neg c7] at H
      have c7b0 : (t310 == t315) = false := beq_eq_false_iff_ne.mpr c7
      have c7b1 : (t310 != t315) = true := bne_iff_ne.mpr c7
      exact absurd ((Option.some.inj H).trans hr_) (by decide)
  · rw [if_neg c6] at H
    have c6b0 : (t307.toList == t312.toList && (t308 == t313 && (t309.toList == t314.toList))) = false := by simpa using c6
    (try (have c6b1 : decide (t307.toList = t312.toList && (t308 == t313 && (t309.toList == t314.toList))) = false := by simpa using c6))
    (try (have c6b2 : (t307.toList == t312.toList && (t308 == t313 && (t309.toList == t314.toList))) = false := by simpa using c6))
    (try (have c6b3 : ¬ (t307.toList = t312.toList && (t308 == t313 && (t309.toList == t314.toList))) := by simpa using c6))
    clear c6
    exact absurd ((Option.some.inj H).trans hr_) (by decide)


end Go.Proofs.YteggopolokblhaaGreatDoor.P
