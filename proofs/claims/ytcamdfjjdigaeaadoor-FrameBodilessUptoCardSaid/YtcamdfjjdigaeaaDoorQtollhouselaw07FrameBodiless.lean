/- The walk of the Go function tollhouselaw07 FrameBodiless, and what it computes. By program. Conditions: none but those that each theorem names. -/
import Derived.Test.YtcamdfjjdigaeaaDoorQ0
import Derived.Test.YtcamdfjjdigaeaaDoorQframeRequest
import Derived.Test.YtcamdfjjdigaeaaDoorQframeResponse
import Derived.Test.YtcamdfjjdigaeaaDoorQtollhouselaw07awake
namespace Go.Proofs.YtcamdfjjdigaeaaDoor.P
open Go.RowKit Go.Proofs.YtcamdfjjdigaeaaDoorW.PrintWords Go.Proofs.YtcamdfjjdigaeaaDoorW.PrintLast Go.Proofs.YtcamdfjjdigaeaaDoorW.PrintMore
attribute [local go_sem] max2_int min2_int max_two min_two max_three min_three max_four min_four
set_option linter.unusedVariables false
set_option linter.unusedSimpArgs false

/-! ### tollhouselaw07_FrameBodiless: function 5 -/
mutual
def tollhouselaw07_FrameBodiless.j0 : Nat → Int → Int → Int → Int → Int → Int → ByteArray → Int → List (S34) → Option (Bool)
  | 0, _, _, _, _, _, _, _, _, _ => none
  | k + 1, x3, x4, x5, x8, x9, x319000, x319001, x319002, x319003 => if x319000 < 100 then (tollhouselaw07_FrameBodiless.j1 k x3 x4 x5 x8 x9 true x319000 x319001 x319002 x319003) else (tollhouselaw07_FrameBodiless.j1 k x3 x4 x5 x8 x9 (decide (x319000 > 599)) x319000 x319001 x319002 x319003)
def tollhouselaw07_FrameBodiless.j1 : Nat → Int → Int → Int → Int → Int → Bool → Int → ByteArray → Int → List (S34) → Option (Bool)
  | 0, _, _, _, _, _, _, _, _, _, _ => none
  | k + 1, x3, x4, x5, x8, x9, x48, x319000, x319001, x319002, x319003 => if x48 = true then (tollhouselaw07_FrameBodiless.j2 k x3 x4 x5 x8 1 x319000 x319001 x319002 x319003) else (tollhouselaw07_FrameBodiless.j2 k x3 x4 x5 x8 x9 x319000 x319001 x319002 x319003)
def tollhouselaw07_FrameBodiless.j2 : Nat → Int → Int → Int → Int → Int → Int → ByteArray → Int → List (S34) → Option (Bool)
  | 0, _, _, _, _, _, _, _, _, _ => none
  | k + 1, x3, x4, x5, x8, x9, x319000, x319001, x319002, x319003 => if x5 = x9 then (if x3 = 0 then (tollhouselaw07_FrameBodiless.j3 k x8 (x4 != 0) x319000 x319001 x319002 x319003) else (tollhouselaw07_FrameBodiless.j3 k x8 true x319000 x319001 x319002 x319003)) else (tollhouselaw07_FrameBodiless.j3 k x8 true x319000 x319001 x319002 x319003)
def tollhouselaw07_FrameBodiless.j3 : Nat → Int → Bool → Int → ByteArray → Int → List (S34) → Option (Bool)
  | 0, _, _, _, _, _, _ => none
  | k + 1, x8, x59, x319000, x319001, x319002, x319003 => if x59 = true then (some false) else ((some (([100, 199, 204, 304] : List Int) : List Int)).bind fun y325 => (tollhouselaw07_FrameBodiless.l0 k x8 y325 (y325.length : Int) 0 x319000 x319001 x319002 x319003))
def tollhouselaw07_FrameBodiless.l0 : Nat → Int → List Int → Int → Int → Int → ByteArray → Int → List (S34) → Option (Bool)
  | 0, _, _, _, _, _, _, _, _ => none
  | k + 1, x8, x60, x61, x62, x319000, x319001, x319002, x319003 => if x62 < x61 then (if 0 ≤ x62 then (if x62 < (x60.length : Int) then ((frame_Response.f k (rd x60 x62) x319001 x319002 x319003).bind fun bt329 => (if bt329.1 = 0 then (if bt329.2.2 = 0 then (tollhouselaw07_FrameBodiless.l0 k x8 x60 x61 (wrap64 (x62 + 1)) x319000 x319001 x319002 x319003) else (if bt329.2.2 = x8 then (tollhouselaw07_FrameBodiless.l0 k x8 x60 x61 (wrap64 (x62 + 1)) x319000 x319001 x319002 x319003) else (some false))) else (some false))) else (none)) else (none)) else ((frame_Response.f k 299 (⟨#[67, 79, 78, 78, 69, 67, 84]⟩ : ByteArray) x319002 x319003).bind fun bt332 => ((tollhouselaw07_awake.f k).bind fun t335 => (if t335 = true then (if bt332.1 = 0 then (if bt332.2.2 = 0 then (some true) else (some (bt332.2.2 == x8))) else (some false)) else (some false))))
end
def tollhouselaw07_FrameBodiless.f (k : Nat) (a0_0 : Int) (a0_1 : ByteArray) (a0_2 : Int) (l0_3 : List (S34)) : Option (Bool) := (frame_Response.f k a0_0 (⟨#[72, 69, 65, 68]⟩ : ByteArray) a0_2 l0_3).bind fun bt319 => ((frame_Request.f k a0_2 l0_3).bind fun bt322 => (if bt322.2.2 = 21 then (tollhouselaw07_FrameBodiless.j0 k bt319.1 bt319.2.1 bt319.2.2 bt322.2.2 0 a0_0 a0_1 a0_2 l0_3) else (tollhouselaw07_FrameBodiless.j0 k bt319.1 bt319.2.1 bt319.2.2 bt322.2.2 bt322.2.2 a0_0 a0_1 a0_2 l0_3)))
theorem tollhouselaw07_FrameBodiless.mono_l : ∀ k, (∀ y0 y1 y2 y3 y4 y5 y6 y7 y8, LeO (tollhouselaw07_FrameBodiless.j0 k y0 y1 y2 y3 y4 y5 y6 y7 y8) (tollhouselaw07_FrameBodiless.j0 (k + 1) y0 y1 y2 y3 y4 y5 y6 y7 y8)) ∧ (∀ y0 y1 y2 y3 y4 y5 y6 y7 y8 y9, LeO (tollhouselaw07_FrameBodiless.j1 k y0 y1 y2 y3 y4 y5 y6 y7 y8 y9) (tollhouselaw07_FrameBodiless.j1 (k + 1) y0 y1 y2 y3 y4 y5 y6 y7 y8 y9)) ∧ (∀ y0 y1 y2 y3 y4 y5 y6 y7 y8, LeO (tollhouselaw07_FrameBodiless.j2 k y0 y1 y2 y3 y4 y5 y6 y7 y8) (tollhouselaw07_FrameBodiless.j2 (k + 1) y0 y1 y2 y3 y4 y5 y6 y7 y8)) ∧ (∀ y0 y1 y2 y3 y4 y5, LeO (tollhouselaw07_FrameBodiless.j3 k y0 y1 y2 y3 y4 y5) (tollhouselaw07_FrameBodiless.j3 (k + 1) y0 y1 y2 y3 y4 y5)) ∧ (∀ y0 y1 y2 y3 y4 y5 y6 y7, LeO (tollhouselaw07_FrameBodiless.l0 k y0 y1 y2 y3 y4 y5 y6 y7) (tollhouselaw07_FrameBodiless.l0 (k + 1) y0 y1 y2 y3 y4 y5 y6 y7))
  | 0 => ⟨fun _ _ _ _ _ _ _ _ _ r h => by simp [tollhouselaw07_FrameBodiless.j0] at h, fun _ _ _ _ _ _ _ _ _ _ r h => by simp [tollhouselaw07_FrameBodiless.j1] at h, fun _ _ _ _ _ _ _ _ _ r h => by simp [tollhouselaw07_FrameBodiless.j2] at h, fun _ _ _ _ _ _ r h => by simp [tollhouselaw07_FrameBodiless.j3] at h, fun _ _ _ _ _ _ _ _ r h => by simp [tollhouselaw07_FrameBodiless.l0] at h⟩
  | k + 1 => by
    obtain ⟨ih0, ih1, ih2, ih3, ih4⟩ := tollhouselaw07_FrameBodiless.mono_l k
    refine ⟨?_, ?_, ?_, ?_, ?_⟩
    · intro y0 y1 y2 y3 y4 y5 y6 y7 y8
      unfold tollhouselaw07_FrameBodiless.j0
      repeat' first
      | (with_reducible exact ih0 _ _ _ _ _ _ _ _ _)
      | (with_reducible exact ih1 _ _ _ _ _ _ _ _ _ _)
      | (with_reducible exact ih2 _ _ _ _ _ _ _ _ _)
      | (with_reducible exact ih3 _ _ _ _ _ _)
      | (with_reducible exact ih4 _ _ _ _ _ _ _ _)
      | (with_reducible exact frame_Request.mono _ _ _)
      | (with_reducible exact frame_Response.mono _ _ _ _ _)
      | (with_reducible exact tollhouselaw07_awake.mono _)
      | (with_reducible exact LeO.refl _)
      | (with_reducible exact LeO.none _)
      | (with_reducible refine LeO.ite ?_ ?_)
      | (with_reducible refine LeO.bind ?_ (fun _ => ?_))
      | exact ih0 _ _ _ _ _ _ _ _ _
      | exact ih1 _ _ _ _ _ _ _ _ _ _
      | exact ih2 _ _ _ _ _ _ _ _ _
      | exact ih3 _ _ _ _ _ _
      | exact ih4 _ _ _ _ _ _ _ _
      | exact frame_Request.mono _ _ _
      | exact frame_Response.mono _ _ _ _ _
      | exact tollhouselaw07_awake.mono _
      | exact LeO.none _
      | refine LeO.ite ?_ ?_
      | refine LeO.bind ?_ (fun _ => ?_)
    · intro y0 y1 y2 y3 y4 y5 y6 y7 y8 y9
      unfold tollhouselaw07_FrameBodiless.j1
      repeat' first
      | (with_reducible exact ih0 _ _ _ _ _ _ _ _ _)
      | (with_reducible exact ih1 _ _ _ _ _ _ _ _ _ _)
      | (with_reducible exact ih2 _ _ _ _ _ _ _ _ _)
      | (with_reducible exact ih3 _ _ _ _ _ _)
      | (with_reducible exact ih4 _ _ _ _ _ _ _ _)
      | (with_reducible exact frame_Request.mono _ _ _)
      | (with_reducible exact frame_Response.mono _ _ _ _ _)
      | (with_reducible exact tollhouselaw07_awake.mono _)
      | (with_reducible exact LeO.refl _)
      | (with_reducible exact LeO.none _)
      | (with_reducible refine LeO.ite ?_ ?_)
      | (with_reducible refine LeO.bind ?_ (fun _ => ?_))
      | exact ih0 _ _ _ _ _ _ _ _ _
      | exact ih1 _ _ _ _ _ _ _ _ _ _
      | exact ih2 _ _ _ _ _ _ _ _ _
      | exact ih3 _ _ _ _ _ _
      | exact ih4 _ _ _ _ _ _ _ _
      | exact frame_Request.mono _ _ _
      | exact frame_Response.mono _ _ _ _ _
      | exact tollhouselaw07_awake.mono _
      | exact LeO.none _
      | refine LeO.ite ?_ ?_
      | refine LeO.bind ?_ (fun _ => ?_)
    · intro y0 y1 y2 y3 y4 y5 y6 y7 y8
      unfold tollhouselaw07_FrameBodiless.j2
      repeat' first
      | (with_reducible exact ih0 _ _ _ _ _ _ _ _ _)
      | (with_reducible exact ih1 _ _ _ _ _ _ _ _ _ _)
      | (with_reducible exact ih2 _ _ _ _ _ _ _ _ _)
      | (with_reducible exact ih3 _ _ _ _ _ _)
      | (with_reducible exact ih4 _ _ _ _ _ _ _ _)
      | (with_reducible exact frame_Request.mono _ _ _)
      | (with_reducible exact frame_Response.mono _ _ _ _ _)
      | (with_reducible exact tollhouselaw07_awake.mono _)
      | (with_reducible exact LeO.refl _)
      | (with_reducible exact LeO.none _)
      | (with_reducible refine LeO.ite ?_ ?_)
      | (with_reducible refine LeO.bind ?_ (fun _ => ?_))
      | exact ih0 _ _ _ _ _ _ _ _ _
      | exact ih1 _ _ _ _ _ _ _ _ _ _
      | exact ih2 _ _ _ _ _ _ _ _ _
      | exact ih3 _ _ _ _ _ _
      | exact ih4 _ _ _ _ _ _ _ _
      | exact frame_Request.mono _ _ _
      | exact frame_Response.mono _ _ _ _ _
      | exact tollhouselaw07_awake.mono _
      | exact LeO.none _
      | refine LeO.ite ?_ ?_
      | refine LeO.bind ?_ (fun _ => ?_)
    · intro y0 y1 y2 y3 y4 y5
      unfold tollhouselaw07_FrameBodiless.j3
      repeat' first
      | (with_reducible exact ih0 _ _ _ _ _ _ _ _ _)
      | (with_reducible exact ih1 _ _ _ _ _ _ _ _ _ _)
      | (with_reducible exact ih2 _ _ _ _ _ _ _ _ _)
      | (with_reducible exact ih3 _ _ _ _ _ _)
      | (with_reducible exact ih4 _ _ _ _ _ _ _ _)
      | (with_reducible exact frame_Request.mono _ _ _)
      | (with_reducible exact frame_Response.mono _ _ _ _ _)
      | (with_reducible exact tollhouselaw07_awake.mono _)
      | (with_reducible exact LeO.refl _)
      | (with_reducible exact LeO.none _)
      | (with_reducible refine LeO.ite ?_ ?_)
      | (with_reducible refine LeO.bind ?_ (fun _ => ?_))
      | exact ih0 _ _ _ _ _ _ _ _ _
      | exact ih1 _ _ _ _ _ _ _ _ _ _
      | exact ih2 _ _ _ _ _ _ _ _ _
      | exact ih3 _ _ _ _ _ _
      | exact ih4 _ _ _ _ _ _ _ _
      | exact frame_Request.mono _ _ _
      | exact frame_Response.mono _ _ _ _ _
      | exact tollhouselaw07_awake.mono _
      | exact LeO.none _
      | refine LeO.ite ?_ ?_
      | refine LeO.bind ?_ (fun _ => ?_)
    · intro y0 y1 y2 y3 y4 y5 y6 y7
      unfold tollhouselaw07_FrameBodiless.l0
      repeat' first
      | (with_reducible exact ih0 _ _ _ _ _ _ _ _ _)
      | (with_reducible exact ih1 _ _ _ _ _ _ _ _ _ _)
      | (with_reducible exact ih2 _ _ _ _ _ _ _ _ _)
      | (with_reducible exact ih3 _ _ _ _ _ _)
      | (with_reducible exact ih4 _ _ _ _ _ _ _ _)
      | (with_reducible exact frame_Request.mono _ _ _)
      | (with_reducible exact frame_Response.mono _ _ _ _ _)
      | (with_reducible exact tollhouselaw07_awake.mono _)
      | (with_reducible exact LeO.refl _)
      | (with_reducible exact LeO.none _)
      | (with_reducible refine LeO.ite ?_ ?_)
      | (with_reducible refine LeO.bind ?_ (fun _ => ?_))
      | exact ih0 _ _ _ _ _ _ _ _ _
      | exact ih1 _ _ _ _ _ _ _ _ _ _
      | exact ih2 _ _ _ _ _ _ _ _ _
      | exact ih3 _ _ _ _ _ _
      | exact ih4 _ _ _ _ _ _ _ _
      | exact frame_Request.mono _ _ _
      | exact frame_Response.mono _ _ _ _ _
      | exact tollhouselaw07_awake.mono _
      | exact LeO.none _
      | refine LeO.ite ?_ ?_
      | refine LeO.bind ?_ (fun _ => ?_)
theorem tollhouselaw07_FrameBodiless.mono : ∀ a0 a1 a2 a3 k, LeO (tollhouselaw07_FrameBodiless.f k a0 a1 a2 a3) (tollhouselaw07_FrameBodiless.f (k + 1) a0 a1 a2 a3) := by
  intro a0 a1 a2 a3 k
  obtain ⟨ih0, ih1, ih2, ih3, ih4⟩ := tollhouselaw07_FrameBodiless.mono_l k
  unfold tollhouselaw07_FrameBodiless.f
  repeat' first
      | (with_reducible exact ih0 _ _ _ _ _ _ _ _ _)
      | (with_reducible exact ih1 _ _ _ _ _ _ _ _ _ _)
      | (with_reducible exact ih2 _ _ _ _ _ _ _ _ _)
      | (with_reducible exact ih3 _ _ _ _ _ _)
      | (with_reducible exact ih4 _ _ _ _ _ _ _ _)
      | (with_reducible exact frame_Request.mono _ _ _)
      | (with_reducible exact frame_Response.mono _ _ _ _ _)
      | (with_reducible exact tollhouselaw07_awake.mono _)
      | (with_reducible exact LeO.refl _)
      | (with_reducible exact LeO.none _)
      | (with_reducible refine LeO.ite ?_ ?_)
      | (with_reducible refine LeO.bind ?_ (fun _ => ?_))
      | exact ih0 _ _ _ _ _ _ _ _ _
      | exact ih1 _ _ _ _ _ _ _ _ _ _
      | exact ih2 _ _ _ _ _ _ _ _ _
      | exact ih3 _ _ _ _ _ _
      | exact ih4 _ _ _ _ _ _ _ _
      | exact frame_Request.mono _ _ _
      | exact frame_Response.mono _ _ _ _ _
      | exact tollhouselaw07_awake.mono _
      | exact LeO.none _
      | refine LeO.ite ?_ ?_
      | refine LeO.bind ?_ (fun _ => ?_)
set_option maxHeartbeats 8000000 in
set_option maxRecDepth 100000 in
theorem tollhouselaw07_FrameBodiless.calls (k : Nat) (a0_0 : Int) (a0_1 : ByteArray) (a0_2 : Int) (A0_3 : Option Addr) (c0_3 : Nat) (l0_3 : List (S34)) (r : Bool) (w : World) (hr0_3 : Kd.C k34 w A0_3 l0_3.length l0_3) (hc0_3 : l0_3.length ≤ c0_3) (hr_ : r = true) (h : tollhouselaw07_FrameBodiless.f k a0_0 a0_1 a0_2 l0_3 = some r) :
    Calls Tryd.prog 5 #[.agg #[.int .i64 a0_0, .string a0_1, .int .i64 a0_2, .slice A0_3 l0_3.length c0_3]] w fun e w' => e = .returned (.bool r) ∧ Below w.heap.size w w' := by
  have hu24 := Tryd.underlying24
  have HR0_3 := Aside0.mk hr0_3
  have HC0_3 := Aside0.mk hc0_3
  clear hr0_3 hc0_3
  have HB := Aside0.mk (Below.refl w.heap.size w)
  have H : ((frame_Response.f k a0_0 (⟨#[72, 69, 65, 68]⟩ : ByteArray) a0_2 l0_3).bind fun bt319 => ((frame_Request.f k a0_2 l0_3).bind fun bt322 => (if bt322.2.2 = 21 then (tollhouselaw07_FrameBodiless.j0 k bt319.1 bt319.2.1 bt319.2.2 bt322.2.2 0 a0_0 a0_1 a0_2 l0_3) else (tollhouselaw07_FrameBodiless.j0 k bt319.1 bt319.2.1 bt319.2.2 bt322.2.2 bt322.2.2 a0_0 a0_1 a0_2 l0_3)))) = some r := h
  clear h
  replace H := Option.bind_eq_some_iff.mp H
  obtain ⟨⟨t319, t320, t321⟩, A20, H⟩ := H
  replace H : ((frame_Request.f k a0_2 l0_3).bind fun bt322 => (if bt322.2.2 = 21 then (tollhouselaw07_FrameBodiless.j0 k t319 t320 t321 bt322.2.2 0 a0_0 a0_1 a0_2 l0_3) else (tollhouselaw07_FrameBodiless.j0 k t319 t320 t321 bt322.2.2 bt322.2.2 a0_0 a0_1 a0_2 l0_3))) = some r := H
  have A2 := Aside0.mk A20
  clear A20
  replace H := Option.bind_eq_some_iff.mp H
  obtain ⟨⟨t322, t323, t324⟩, A30, H⟩ := H
  replace H : (if t324 = 21 then (tollhouselaw07_FrameBodiless.j0 k t319 t320 t321 t324 0 a0_0 a0_1 a0_2 l0_3) else (tollhouselaw07_FrameBodiless.j0 k t319 t320 t321 t324 t324 a0_0 a0_1 a0_2 l0_3)) = some r := H
  have A3 := Aside0.mk A30
  clear A30
  have HC4 := Aside0.mk H
  clear H
  go_enter Tryd.func5, Tryd.ntmps5
  go_upto_if 40 with (first | ((with_reducible refine gate_dst (N := 1) rfl ?_); refine box_event ?hg (N := 1) ?hd (cs := #[.int .i64 a0_0, .string a0_1, .int .i64 a0_2, .slice A0_3 l0_3.length c0_3]) (t := 24) ?hr ?_; (case hd => rfl); (case hg => rfl); (case hr => first | (go_simp; done) | (go_simp; rfl)); intro gb318 hg w5 hbox hb; have n0_ := Aside0.mk (below_step (by repeat (first | (with_reducible first | exact HB.out | apply below_alloc | apply pw_below_drewN | apply below_drew1) | exact HB.out)) hb); have n1_ := Aside0.mk (hbox); have n2_ := Aside0.mk ((by rw [hg]; exact (below_size (by repeat (first | (with_reducible first | exact HB.out | apply below_alloc | apply pw_below_drewN | apply below_drew1) | exact HB.out))) : w.heap.size ≤ gb318)); have n3_ := Aside0.mk ((by rw [hg]; exact (below_size (by repeat (first | (with_reducible first | exact HB.out | apply below_alloc | apply pw_below_drewN | apply below_drew1) | exact HB.out))) : w.heap.size ≤ gb318)); clear HB; have HB := n0_; have BK318 := n1_; have GW318 := n2_; have GE318 := n3_; clear n0_ n1_ n2_ n3_; clear hb hbox hg; have hcz6_0 : w5.cell? ⟨gb318, 0, none⟩ = some (.int .i64 a0_0) := (blk_cell BK318.out 0).trans rfl; have hcz6_1 : w5.cell? ⟨gb318, 1, none⟩ = some (.string a0_1) := (blk_cell BK318.out 1).trans rfl; have hcz6_2 : w5.cell? ⟨gb318, 2, none⟩ = some (.int .i64 a0_2) := (blk_cell BK318.out 2).trans rfl; have hcz6_3 : w5.cell? ⟨gb318, 3, none⟩ = some (.slice A0_3 l0_3.length c0_3) := (blk_cell BK318.out 3).trans rfl; have hfz6_0 := blk_frozen BK318.out 0; have hfz6_1 := blk_frozen BK318.out 1; have hfz6_2 := blk_frozen BK318.out 2; have hfz6_3 := blk_frozen BK318.out 3) | ((with_reducible refine gate_callee (f := 10) rfl ?_); refine goesL_ (some 25) rfl rfl Tryd.func10 (by kernel_rfl) rfl #[.int .i64 a0_0, .string (⟨#[72, 69, 65, 68]⟩ : ByteArray), .int .i64 a0_2, .slice A0_3 l0_3.length c0_3] rfl (by (try simp only [List.map_toArray, List.map_cons, List.map_nil]); first | done | rfl | (simp only [List.length_drop, List.length_take]; rfl)) ?_; (with_reducible refine (frame_Response.calls k a0_0 (⟨#[72, 69, 65, 68]⟩ : ByteArray) a0_2 _ _ l0_3 t319 t320 t321 _ ?side1 ?side2 A2.out).mono ?_); (case side1 => repeat (first | exact (Kd.C_below HR0_3.out HB.out) | (with_reducible refine Kd.C_alloc ?_ _) | (with_reducible refine Kd.C_drewN ?_ _) | (with_reducible refine Kd.C_drew ?_))); (case side2 => exact HC0_3.out); rintro e w7 ⟨rfl, hb⟩; refine ⟨_, rfl, ?_⟩; have n0_ := Aside0.mk (blk_below (g := gb318) (o := .cells #[.int .i64 a0_0, .string a0_1, .int .i64 a0_2, .slice A0_3 l0_3.length c0_3] 24 (0, 0)) (by (with_reducible repeat (first | refine blk_drewN ?_ _ | refine blk_drew ?_ | refine blk_alloc ?_ _)); exact BK318.out) hb); have n1_ := Aside0.mk (below_step (by repeat (first | (with_reducible first | exact HB.out | apply below_alloc | apply pw_below_drewN | apply below_drew1 | refine below_set ?_ GE318.out) | exact HB.out)) hb); clear BK318; clear HB; have BK318 := n0_; have HB := n1_; clear n0_ n1_; (try clear hb); (try clear hb2); (try clear hk); (try clear hi); have hcz8_0 : w7.cell? ⟨gb318, 0, none⟩ = some (.int .i64 a0_0) := (blk_cell BK318.out 0).trans rfl; have hcz8_1 : w7.cell? ⟨gb318, 1, none⟩ = some (.string a0_1) := (blk_cell BK318.out 1).trans rfl; have hcz8_2 : w7.cell? ⟨gb318, 2, none⟩ = some (.int .i64 a0_2) := (blk_cell BK318.out 2).trans rfl; have hcz8_3 : w7.cell? ⟨gb318, 3, none⟩ = some (.slice A0_3 l0_3.length c0_3) := (blk_cell BK318.out 3).trans rfl; have hfz8_0 := blk_frozen BK318.out 0; have hfz8_1 := blk_frozen BK318.out 1; have hfz8_2 := blk_frozen BK318.out 2; have hfz8_3 := blk_frozen BK318.out 3) | ((with_reducible refine gate_callee (f := 8) rfl ?_); refine goesL_ (some 34) rfl rfl Tryd.func8 (by kernel_rfl) rfl #[.int .i64 a0_2, .slice A0_3 l0_3.length c0_3] rfl (by (try simp only [List.map_toArray, List.map_cons, List.map_nil]); first | done | rfl | (simp only [List.length_drop, List.length_take]; rfl)) ?_; (with_reducible refine (frame_Request.calls k a0_2 _ _ l0_3 t322 t323 t324 _ ?side1 ?side2 A3.out).mono ?_); (case side1 => repeat (first | exact (Kd.C_below HR0_3.out HB.out) | (with_reducible refine Kd.C_alloc ?_ _) | (with_reducible refine Kd.C_drewN ?_ _) | (with_reducible refine Kd.C_drew ?_))); (case side2 => exact HC0_3.out); rintro e w9 ⟨rfl, hb⟩; refine ⟨_, rfl, ?_⟩; have n0_ := Aside0.mk (blk_below (g := gb318) (o := .cells #[.int .i64 a0_0, .string a0_1, .int .i64 a0_2, .slice A0_3 l0_3.length c0_3] 24 (0, 0)) (by (with_reducible repeat (first | refine blk_drewN ?_ _ | refine blk_drew ?_ | refine blk_alloc ?_ _)); exact BK318.out) hb); have n1_ := Aside0.mk (below_step (by repeat (first | (with_reducible first | exact HB.out | apply below_alloc | apply pw_below_drewN | apply below_drew1 | refine below_set ?_ GE318.out) | exact HB.out)) hb); clear BK318; clear HB; have BK318 := n0_; have HB := n1_; clear n0_ n1_; (try clear hb); (try clear hb2); (try clear hk); (try clear hi)))
  (try simp only [Act.put, List.setIfInBounds_toArray, List.set_cons_zero, List.set_cons_succ])
  go_cut [9] (fun v9 wc => ∃ (kq : Nat) (x9_3 : Int), v9 = .int .i64 x9_3 ∧ Aside0 (tollhouselaw07_FrameBodiless.j0 kq t319 t320 t321 t324 x9_3 a0_0 a0_1 a0_2 l0_3 = some r) ∧ Aside0 (kq ≤ k) ∧ Aside0 (wc.heap[gb318]? = some (.cells #[.int .i64 a0_0, .string a0_1, .int .i64 a0_2, (.slice A0_3 l0_3.length c0_3)] 24 (0, 0))) ∧ Aside0 (Below w.heap.size w wc))
  case first =>
    have H := HC4.out
    clear HC4
    by_cases c10 : t324 = 21
    · rw [if_pos c10] at H
      have c10b0 : (t324 == 21) = true := beq_iff_eq.mpr c10
      have c10b1 : (t324 != 21) = false := bne_eq_false_iff_eq.mpr c10
      clear c10
      (first | rw [c10b0] | (simp only [i64_w, i32_w]; rw [c10b0]) | skip)
      have H' := Aside0.mk H
      clear H
      go_wp2
      go_meet
      case rel => exact ⟨_, (0), (by first | rfl | (simp; done) | (simp [*]; done)), H', ⟨by first | omega | exact Nat.le_refl _⟩, ⟨by (with_reducible repeat (first | refine blk_drewN ?_ _ | refine blk_drew ?_ | refine blk_alloc ?_ _)); exact BK318.out⟩, ⟨by repeat (first | (with_reducible first | exact HB.out | apply below_alloc | apply pw_below_drewN | apply below_drew1 | refine below_set ?_ GE318.out) | exact HB.out)⟩⟩
    · rw [if_neg c10] at H
      have c10b0 : (t324 == 21) = false := beq_eq_false_iff_ne.mpr c10
      have c10b1 : (t324 != 21) = true := bne_iff_ne.mpr c10
      (first | rw [c10b0] | (simp only [i64_w, i32_w]; rw [c10b0]) | skip)
      have H' := Aside0.mk H
      clear H
      go_wp2
      go_meet
      case rel => exact ⟨_, (t324), (by first | rfl | (simp; done) | (simp [*]; done)), H', ⟨by first | omega | exact Nat.le_refl _⟩, ⟨by (with_reducible repeat (first | refine blk_drewN ?_ _ | refine blk_drew ?_ | refine blk_alloc ?_ _)); exact BK318.out⟩, ⟨by repeat (first | (with_reducible first | exact HB.out | apply below_alloc | apply pw_below_drewN | apply below_drew1 | refine below_set ?_ GE318.out) | exact HB.out)⟩⟩
  case rest =>
    clear HC4
    try clear c1
    try clear p2
    try clear c5
    try clear c8
    try clear c10
    try clear c10b0
    try clear c10b1
    try clear hcz6_0
    try clear hcz6_1
    try clear hcz6_2
    try clear hcz6_3
    try clear hcz8_0
    try clear hcz8_1
    try clear hcz8_2
    try clear hcz8_3
    try clear hfz6_0
    try clear hfz6_1
    try clear hfz6_2
    try clear hfz6_3
    try clear hfz8_0
    try clear hfz8_1
    try clear hfz8_2
    try clear hfz8_3
    obtain ⟨kq, x9_3, rfl, HA, HJ3, BK318, HB⟩ := hcut
    cases kq with
    | zero => exact absurd HA.out (by simp [tollhouselaw07_FrameBodiless.j0])
    | succ kj3 =>
      have H := HA.out
      clear HA
      simp only [tollhouselaw07_FrameBodiless.j0] at H
      have HC11 := Aside0.mk H
      clear H
      go_upto_region 6 with (fail)
      go_cut [48] (fun v48 wc => ∃ (kq : Nat) (x48_10 : Bool), v48 = .bool x48_10 ∧ Aside0 (tollhouselaw07_FrameBodiless.j1 kq t319 t320 t321 t324 x9_3 x48_10 a0_0 a0_1 a0_2 l0_3 = some r) ∧ Aside0 (kq ≤ kj3) ∧ Aside0 (wc.heap[gb318]? = some (.cells #[.int .i64 a0_0, .string a0_1, .int .i64 a0_2, (.slice A0_3 l0_3.length c0_3)] 24 (0, 0))) ∧ Aside0 (Below w.heap.size w wc))
      case first =>
        have H := HC11.out
        clear HC11
        by_cases c12 : a0_0 < 100
        · rw [if_pos c12] at H
          have c12b0 : decide (a0_0 < 100) = true := decide_eq_true c12
          clear c12
          (first | rw [c12b0] | (simp only [i64_w, i32_w]; rw [c12b0]) | skip)
          have H' := Aside0.mk H
          clear H
          have hcz13_0 : wc.cell? ⟨gb318, 0, none⟩ = some (.int .i64 a0_0) := (blk_cell BK318.out 0).trans rfl
          have hcz13_1 : wc.cell? ⟨gb318, 1, none⟩ = some (.string a0_1) := (blk_cell BK318.out 1).trans rfl
          have hcz13_2 : wc.cell? ⟨gb318, 2, none⟩ = some (.int .i64 a0_2) := (blk_cell BK318.out 2).trans rfl
          have hcz13_3 : wc.cell? ⟨gb318, 3, none⟩ = some (.slice A0_3 l0_3.length c0_3) := (blk_cell BK318.out 3).trans rfl
          have hfz13_0 := blk_frozen BK318.out 0
          have hfz13_1 := blk_frozen BK318.out 1
          have hfz13_2 := blk_frozen BK318.out 2
          have hfz13_3 := blk_frozen BK318.out 3
          go_wp2
          go_meet
          case rel => exact ⟨_, (true), (by first | rfl | (simp; done) | (simp [*]; done)), H', ⟨by have := HJ3.out; first | omega | exact Nat.le_refl _⟩, ⟨by (with_reducible repeat (first | refine blk_drewN ?_ _ | refine blk_drew ?_ | refine blk_alloc ?_ _)); exact BK318.out⟩, ⟨by repeat (first | (with_reducible first | exact HB.out | apply below_alloc | apply pw_below_drewN | apply below_drew1 | refine below_set ?_ GE318.out) | exact HB.out)⟩⟩
        · rw [if_neg c12] at H
          have c12b0 : decide (a0_0 < 100) = false := decide_eq_false c12
          clear c12
          (first | rw [c12b0] | (simp only [i64_w, i32_w]; rw [c12b0]) | skip)
          have H' := Aside0.mk H
          clear H
          have hcz14_0 : wc.cell? ⟨gb318, 0, none⟩ = some (.int .i64 a0_0) := (blk_cell BK318.out 0).trans rfl
          have hcz14_1 : wc.cell? ⟨gb318, 1, none⟩ = some (.string a0_1) := (blk_cell BK318.out 1).trans rfl
          have hcz14_2 : wc.cell? ⟨gb318, 2, none⟩ = some (.int .i64 a0_2) := (blk_cell BK318.out 2).trans rfl
          have hcz14_3 : wc.cell? ⟨gb318, 3, none⟩ = some (.slice A0_3 l0_3.length c0_3) := (blk_cell BK318.out 3).trans rfl
          have hfz14_0 := blk_frozen BK318.out 0
          have hfz14_1 := blk_frozen BK318.out 1
          have hfz14_2 := blk_frozen BK318.out 2
          have hfz14_3 := blk_frozen BK318.out 3
          go_wp2
          go_meet
          case rel => exact ⟨_, (decide (a0_0 > 599)), (by first | rfl | (simp; done) | (simp [*]; done)), H', ⟨by have := HJ3.out; first | omega | exact Nat.le_refl _⟩, ⟨by (with_reducible repeat (first | refine blk_drewN ?_ _ | refine blk_drew ?_ | refine blk_alloc ?_ _)); exact BK318.out⟩, ⟨by repeat (first | (with_reducible first | exact HB.out | apply below_alloc | apply pw_below_drewN | apply below_drew1 | refine below_set ?_ GE318.out) | exact HB.out)⟩⟩
      case rest =>
        clear HC11
        try clear c1
        try clear p2
        try clear c5
        try clear c8
        try clear c10
        try clear c10b0
        try clear c10b1
        try clear c12
        try clear c12b0
        try clear hcz13_0
        try clear hcz13_1
        try clear hcz13_2
        try clear hcz13_3
        try clear hcz14_0
        try clear hcz14_1
        try clear hcz14_2
        try clear hcz14_3
        try clear hcz6_0
        try clear hcz6_1
        try clear hcz6_2
        try clear hcz6_3
        try clear hcz8_0
        try clear hcz8_1
        try clear hcz8_2
        try clear hcz8_3
        try clear hfz13_0
        try clear hfz13_1
        try clear hfz13_2
        try clear hfz13_3
        try clear hfz14_0
        try clear hfz14_1
        try clear hfz14_2
        try clear hfz14_3
        try clear hfz6_0
        try clear hfz6_1
        try clear hfz6_2
        try clear hfz6_3
        try clear hfz8_0
        try clear hfz8_1
        try clear hfz8_2
        try clear hfz8_3
        try clear p2
        obtain ⟨kq, x48_10, rfl, HA, HJ10, BK318, HB⟩ := hcut
        cases kq with
        | zero => exact absurd HA.out (by simp [tollhouselaw07_FrameBodiless.j1])
        | succ kj10 =>
          have H := HA.out
          clear HA
          simp only [tollhouselaw07_FrameBodiless.j1] at H
          have HC15 := Aside0.mk H
          clear H
          go_upto_if 48 with (fail)
          go_cut [9] (fun v9 wc => ∃ (kq : Nat) (x9_14 : Int), v9 = .int .i64 x9_14 ∧ Aside0 (tollhouselaw07_FrameBodiless.j2 kq t319 t320 t321 t324 x9_14 a0_0 a0_1 a0_2 l0_3 = some r) ∧ Aside0 (kq ≤ kj10) ∧ Aside0 (wc.heap[gb318]? = some (.cells #[.int .i64 a0_0, .string a0_1, .int .i64 a0_2, (.slice A0_3 l0_3.length c0_3)] 24 (0, 0))) ∧ Aside0 (Below w.heap.size w wc))
          case first =>
            have H := HC15.out
            clear HC15
            by_cases c16 : x48_10 = true
            · subst c16
              have H1 : (tollhouselaw07_FrameBodiless.j2 kj10 t319 t320 t321 t324 1 a0_0 a0_1 a0_2 l0_3) = some r := by rw [if_pos rfl] at H; exact H
              clear H
              have H := H1
              clear H1
              have H' := Aside0.mk H
              clear H
              go_wp2
              go_meet
              case rel => exact ⟨_, (1), (by first | rfl | (simp; done) | (simp [*]; done)), H', ⟨by have := HJ3.out; have := HJ10.out; first | omega | exact Nat.le_refl _⟩, ⟨by (with_reducible repeat (first | refine blk_drewN ?_ _ | refine blk_drew ?_ | refine blk_alloc ?_ _)); exact BK318.out⟩, ⟨by repeat (first | (with_reducible first | exact HB.out | apply below_alloc | apply pw_below_drewN | apply below_drew1 | refine below_set ?_ GE318.out) | exact HB.out)⟩⟩
            · replace c16 := Bool.eq_false_iff.mpr c16
              subst c16
              have H1 : (tollhouselaw07_FrameBodiless.j2 kj10 t319 t320 t321 t324 x9_3 a0_0 a0_1 a0_2 l0_3) = some r := by rw [if_neg (show ¬ (false = true) by decide)] at H; exact H
              clear H
              have H := H1
              clear H1
              have H' := Aside0.mk H
              clear H
              go_wp2
              go_meet
              case rel => exact ⟨_, (x9_3), (by first | rfl | (simp; done) | (simp [*]; done)), H', ⟨by have := HJ3.out; have := HJ10.out; first | omega | exact Nat.le_refl _⟩, ⟨by (with_reducible repeat (first | refine blk_drewN ?_ _ | refine blk_drew ?_ | refine blk_alloc ?_ _)); exact BK318.out⟩, ⟨by repeat (first | (with_reducible first | exact HB.out | apply below_alloc | apply pw_below_drewN | apply below_drew1 | refine below_set ?_ GE318.out) | exact HB.out)⟩⟩
          case rest =>
            clear HC15
            try clear c1
            try clear p2
            try clear c5
            try clear c8
            try clear c10
            try clear c10b0
            try clear c10b1
            try clear c12
            try clear c12b0
            try clear c16
            try clear hcz13_0
            try clear hcz13_1
            try clear hcz13_2
            try clear hcz13_3
            try clear hcz14_0
            try clear hcz14_1
            try clear hcz14_2
            try clear hcz14_3
            try clear hcz6_0
            try clear hcz6_1
            try clear hcz6_2
            try clear hcz6_3
            try clear hcz8_0
            try clear hcz8_1
            try clear hcz8_2
            try clear hcz8_3
            try clear hfz13_0
            try clear hfz13_1
            try clear hfz13_2
            try clear hfz13_3
            try clear hfz14_0
            try clear hfz14_1
            try clear hfz14_2
            try clear hfz14_3
            try clear hfz6_0
            try clear hfz6_1
            try clear hfz6_2
            try clear hfz6_3
            try clear hfz8_0
            try clear hfz8_1
            try clear hfz8_2
            try clear hfz8_3
            try clear p2
            obtain ⟨kq, x9_14, rfl, HA, HJ14, BK318, HB⟩ := hcut
            cases kq with
            | zero => exact absurd HA.out (by simp [tollhouselaw07_FrameBodiless.j2])
            | succ kj14 =>
              have H := HA.out
              clear HA
              simp only [tollhouselaw07_FrameBodiless.j2] at H
              have HC17 := Aside0.mk H
              clear H
              go_upto_region 8 with (fail)
              go_cut [59] (fun v59 wc => ∃ (kq : Nat) (x59_16 : Bool), v59 = .bool x59_16 ∧ Aside0 (tollhouselaw07_FrameBodiless.j3 kq t324 x59_16 a0_0 a0_1 a0_2 l0_3 = some r) ∧ Aside0 (kq ≤ kj14) ∧ Aside0 (wc.heap[gb318]? = some (.cells #[.int .i64 a0_0, .string a0_1, .int .i64 a0_2, (.slice A0_3 l0_3.length c0_3)] 24 (0, 0))) ∧ Aside0 (Below w.heap.size w wc))
              case first =>
                have H := HC17.out
                clear HC17
                by_cases c18 : t321 = x9_14
                · rw [if_pos c18] at H
                  have c18b0 : (t321 == x9_14) = true := beq_iff_eq.mpr c18
                  have c18b1 : (t321 != x9_14) = false := bne_eq_false_iff_eq.mpr c18
                  clear c18
                  (first | rw [c18b0] | (simp only [i64_w, i32_w]; rw [c18b0]) | skip)
                  by_cases c19 : t319 = 0
                  · rw [if_pos c19] at H
                    have c19b0 : (t319 == 0) = true := beq_iff_eq.mpr c19
                    have c19b1 : (t319 != 0) = false := bne_eq_false_iff_eq.mpr c19
                    clear c19
                    have H' := Aside0.mk H
                    clear H
                    go_wp2
                    go_meet
                    case rel => exact ⟨_, ((t320 != 0)), (by first | rfl | (simp; done) | (simp [*]; done)), H', ⟨by have := HJ3.out; have := HJ10.out; have := HJ14.out; first | omega | exact Nat.le_refl _⟩, ⟨by (with_reducible repeat (first | refine blk_drewN ?_ _ | refine blk_drew ?_ | refine blk_alloc ?_ _)); exact BK318.out⟩, ⟨by repeat (first | (with_reducible first | exact HB.out | apply below_alloc | apply pw_below_drewN | apply below_drew1 | refine below_set ?_ GE318.out) | exact HB.out)⟩⟩
                  · rw [if_neg c19] at H
                    have c19b0 : (t319 == 0) = false := beq_eq_false_iff_ne.mpr c19
                    have c19b1 : (t319 != 0) = true := bne_iff_ne.mpr c19
                    have H' := Aside0.mk H
                    clear H
                    go_wp2
                    go_meet
                    case rel => exact ⟨_, (true), (by first | rfl | (simp; done) | (simp [*]; done)), H', ⟨by have := HJ3.out; have := HJ10.out; have := HJ14.out; first | omega | exact Nat.le_refl _⟩, ⟨by (with_reducible repeat (first | refine blk_drewN ?_ _ | refine blk_drew ?_ | refine blk_alloc ?_ _)); exact BK318.out⟩, ⟨by repeat (first | (with_reducible first | exact HB.out | apply below_alloc | apply pw_below_drewN | apply below_drew1 | refine below_set ?_ GE318.out) | exact HB.out)⟩⟩
                · rw [if_neg c18] at H
                  have c18b0 : (t321 == x9_14) = false := beq_eq_false_iff_ne.mpr c18
                  have c18b1 : (t321 != x9_14) = true := bne_iff_ne.mpr c18
                  (first | rw [c18b0] | (simp only [i64_w, i32_w]; rw [c18b0]) | skip)
                  have H' := Aside0.mk H
                  clear H
                  go_wp2
                  go_meet
                  case rel => exact ⟨_, (true), (by first | rfl | (simp; done) | (simp [*]; done)), H', ⟨by have := HJ3.out; have := HJ10.out; have := HJ14.out; first | omega | exact Nat.le_refl _⟩, ⟨by (with_reducible repeat (first | refine blk_drewN ?_ _ | refine blk_drew ?_ | refine blk_alloc ?_ _)); exact BK318.out⟩, ⟨by repeat (first | (with_reducible first | exact HB.out | apply below_alloc | apply pw_below_drewN | apply below_drew1 | refine below_set ?_ GE318.out) | exact HB.out)⟩⟩
              case rest =>
                clear HC17
                try clear c1
                try clear p2
                try clear c5
                try clear c8
                try clear c10
                try clear c10b0
                try clear c10b1
                try clear c12
                try clear c12b0
                try clear c16
                try clear c18
                try clear c18b0
                try clear c18b1
                try clear c19
                try clear c19b0
                try clear c19b1
                try clear hcz13_0
                try clear hcz13_1
                try clear hcz13_2
                try clear hcz13_3
                try clear hcz14_0
                try clear hcz14_1
                try clear hcz14_2
                try clear hcz14_3
                try clear hcz6_0
                try clear hcz6_1
                try clear hcz6_2
                try clear hcz6_3
                try clear hcz8_0
                try clear hcz8_1
                try clear hcz8_2
                try clear hcz8_3
                try clear hfz13_0
                try clear hfz13_1
                try clear hfz13_2
                try clear hfz13_3
                try clear hfz14_0
                try clear hfz14_1
                try clear hfz14_2
                try clear hfz14_3
                try clear hfz6_0
                try clear hfz6_1
                try clear hfz6_2
                try clear hfz6_3
                try clear hfz8_0
                try clear hfz8_1
                try clear hfz8_2
                try clear hfz8_3
                try clear p2
                obtain ⟨kq, x59_16, rfl, HA, HJ16, BK318, HB⟩ := hcut
                cases kq with
                | zero => exact absurd HA.out (by simp [tollhouselaw07_FrameBodiless.j3])
                | succ kj16 =>
                  have H := HA.out
                  clear HA
                  simp only [tollhouselaw07_FrameBodiless.j3] at H
                  by_cases c20 : x59_16 = true
                  · subst c20
                    have H1 : (some false) = some r := by rw [if_pos rfl] at H; exact H
                    clear H
                    have H := H1
                    clear H1
                    exact absurd ((Option.some.inj H).trans hr_) (by decide)
                  · replace c20 := Bool.eq_false_iff.mpr c20
                    subst c20
                    have H1 : ((some (([100, 199, 204, 304] : List Int) : List Int)).bind fun y325 => (tollhouselaw07_FrameBodiless.l0 kj16 t324 y325 (y325.length : Int) 0 a0_0 a0_1 a0_2 l0_3)) = some r := by rw [if_neg (show ¬ (false = true) by decide)] at H; exact H
                    clear H
                    have H := H1
                    clear H1
                    obtain ⟨y325, hy325⟩ : ∃ y_ : List Int, y_ = (([100, 199, 204, 304] : List Int)) := ⟨_, rfl⟩
                    replace H : (tollhouselaw07_FrameBodiless.l0 kj16 t324 y325 (y325.length : Int) 0 a0_0 a0_1 a0_2 l0_3) = some r := by first | (rw [hy325]; with_reducible exact H) | (have H2_ := (Option.bind_some _ _).symm.trans H; rw [hy325]; with_reducible exact H2_) | (have H2_ := (Option.bind_some _ _).symm.trans H; with_reducible exact H2_) | with_reducible exact H | (rw [hy325]; exact H) | exact H
                    have Ny325 := Aside0.mk hy325
                    clear hy325
                    have H' := Aside0.mk H
                    clear H
                    go_wp2_with (first | ((with_reducible refine gate_dst (N := 60) rfl ?_); refine Kd.R_lit (Kd.int .i64) _ 3 ?hg (N := 60) ?hd (xs := ([100, 199, 204, 304] : List Int)) (inner := [.int .i64 100, .int .i64 199, .int .i64 204, .int .i64 304]) (ok := fun _ => True) (okp := fun _ => True) ?hr ?hp (fun _ hk => hk) trivial (Below.refl _ _) (Nat.le_refl _) (by simp) ?_; (case hd => rfl); (case hg => rfl); (case hr => first | (go_simp; done) | (go_simp; rfl)); (case hp => exact (Reps.one (show Kd.M (Kd.int .i64) _ _ _ 100 [.int .i64 100] from rfl) (Reps.one (show Kd.M (Kd.int .i64) _ _ _ 199 [.int .i64 199] from rfl) (Reps.one (show Kd.M (Kd.int .i64) _ _ _ 204 [.int .i64 204] from rfl) (Reps.one (show Kd.M (Kd.int .i64) _ _ _ 304 [.int .i64 304] from rfl) (Reps.none _ _)))))); intro v326 w21 ho22 hb hg_ hnew_; clear hg_ hnew_; (first | rw [← Ny325.out] at ho22 | (simp only [Int.reduceToNat] at ho22; rw [← Ny325.out] at ho22)); have n0_ := Aside0.mk (Kd.R_lower ho22 (below_size (by repeat (first | (with_reducible first | exact HB.out | apply below_alloc | apply pw_below_drewN | apply below_drew1 | refine below_set ?_ GE318.out) | exact HB.out)))); have n1_ := Aside0.mk (blk_below (g := gb318) (o := .cells #[.int .i64 a0_0, .string a0_1, .int .i64 a0_2, .slice A0_3 l0_3.length c0_3] 24 (0, 0)) (by (with_reducible repeat (first | refine blk_drewN ?_ _ | refine blk_drew ?_ | refine blk_alloc ?_ _)); exact BK318.out) hb); have n2_ := Aside0.mk (below_step (by repeat (first | (with_reducible first | exact HB.out | apply below_alloc | apply pw_below_drewN | apply below_drew1 | refine below_set ?_ GE318.out) | exact HB.out)) hb); clear BK318; clear HB; have HO327 := n0_; have BK318 := n1_; have HB := n2_; clear n0_ n1_ n2_; clear hb ho22; obtain ⟨Ao23, co23, eo23⟩ := Kd.R_slice HO327.out; subst eo23))
                    go_loopg [62] kj16 (fun kq v62 w' => ∃ (x62_5 : Int), v62 = .int .i64 x62_5 ∧ Aside0 (tollhouselaw07_FrameBodiless.l0 kq t324 y325 (y325.length : Int) x62_5 a0_0 a0_1 a0_2 l0_3 = some r) ∧ Aside0 (kq ≤ kj16) ∧ Aside0 (Kd.R (Kd.int .i64) 3 w' w.heap.size (fun _ => True) (.slice Ao23 y325.length co23) y325) ∧ Aside0 (w'.heap[gb318]? = some (.cells #[.int .i64 a0_0, .string a0_1, .int .i64 a0_2, (.slice A0_3 l0_3.length c0_3)] 24 (0, 0))) ∧ Aside0 (Below w.heap.size w w'))
                    case atStart => exact ⟨(0), (by first | rfl | (simp; done) | (simp [*]; done)), H', ⟨Nat.le_refl _⟩, ⟨by (with_reducible repeat (first | apply Kd.R_alloc | apply Kd.R_drewN | apply Kd.R_drew)); exact HO327.out⟩, ⟨by (with_reducible repeat (first | refine blk_drewN ?_ _ | refine blk_drew ?_ | refine blk_alloc ?_ _)); exact BK318.out⟩, ⟨by repeat (first | (with_reducible first | exact HB.out | apply below_alloc | apply pw_below_drewN | apply below_drew1 | refine below_set ?_ GE318.out) | exact HB.out)⟩⟩
                    case round =>
                      clear H'
                      try clear c1
                      try clear c2
                      try clear p2
                      try clear c5
                      try clear c8
                      try clear c10
                      try clear c10b0
                      try clear c10b1
                      try clear c12
                      try clear c12b0
                      try clear c16
                      try clear c18
                      try clear c18b0
                      try clear c18b1
                      try clear c19
                      try clear c19b0
                      try clear c19b1
                      try clear c20
                      try clear hcz13_0
                      try clear hcz13_1
                      try clear hcz13_2
                      try clear hcz13_3
                      try clear hcz14_0
                      try clear hcz14_1
                      try clear hcz14_2
                      try clear hcz14_3
                      try clear hcz6_0
                      try clear hcz6_1
                      try clear hcz6_2
                      try clear hcz6_3
                      try clear hcz8_0
                      try clear hcz8_1
                      try clear hcz8_2
                      try clear hcz8_3
                      try clear hfz13_0
                      try clear hfz13_1
                      try clear hfz13_2
                      try clear hfz13_3
                      try clear hfz14_0
                      try clear hfz14_1
                      try clear hfz14_2
                      try clear hfz14_3
                      try clear hfz6_0
                      try clear hfz6_1
                      try clear hfz6_2
                      try clear hfz6_3
                      try clear hfz8_0
                      try clear hfz8_1
                      try clear hfz8_2
                      try clear hfz8_3
                      try clear p2
                      obtain ⟨x62_5, rfl, HA, HK5, HO_60, BK318, HB⟩ := hrel
                      cases gk with
                      | zero => exact absurd HA.out (by simp [tollhouselaw07_FrameBodiless.l0])
                      | succ k5 =>
                        have H := HA.out
                        clear HA
                        simp only [tollhouselaw07_FrameBodiless.l0] at H
                        by_cases c24 : x62_5 < (y325.length : Int)
                        · rw [if_pos c24] at H
                          have c24b0 : decide (x62_5 < (y325.length : Int)) = true := decide_eq_true c24
                          clear c24
                          by_cases c25 : 0 ≤ x62_5
                          · rw [if_pos c25] at H
                            have c25b0 : decide (0 ≤ x62_5) = true := decide_eq_true c25
                            clear c25
                            by_cases c26 : x62_5 < (y325.length : Int)
                            · rw [if_pos c26] at H
                              have c26b0 : decide (x62_5 < (y325.length : Int)) = true := decide_eq_true c26
                              clear c26
                              replace H := Option.bind_eq_some_iff.mp H
                              obtain ⟨⟨t329, t330, t331⟩, A270, H⟩ := H
                              replace H : (if t329 = 0 then (if t331 = 0 then (tollhouselaw07_FrameBodiless.l0 k5 t324 y325 (y325.length : Int) (wrap64 (x62_5 + 1)) a0_0 a0_1 a0_2 l0_3) else (if t331 = t324 then (tollhouselaw07_FrameBodiless.l0 k5 t324 y325 (y325.length : Int) (wrap64 (x62_5 + 1)) a0_0 a0_1 a0_2 l0_3) else (some false))) else (some false)) = some r := H
                              have A27 := Aside0.mk A270
                              clear A270
                              by_cases c28 : t329 = 0
                              · rw [if_pos c28] at H
                                have c28b0 : (t329 == 0) = true := beq_iff_eq.mpr c28
                                have c28b1 : (t329 != 0) = false := bne_eq_false_iff_eq.mpr c28
                                clear c28
                                by_cases c29 : t331 = 0
                                · rw [if_pos c29] at H
                                  have c29b0 : (t331 == 0) = true := beq_iff_eq.mpr c29
                                  have c29b1 : (t331 != 0) = false := bne_eq_false_iff_eq.mpr c29
                                  clear c29
                                  have H' := Aside0.mk H
                                  clear H
                                  have p328 : 0 ≤ (x62_5 : Int) := of_decide_eq_true (by first | (with_reducible assumption) | assumption)
                                  have q328 : x62_5 < (y325.length : Int) := of_decide_eq_true (by first | (with_reducible assumption) | assumption)
                                  obtain ⟨ad328, e328, hx328_0⟩ := Kd.at_int (Kd.R_reads' HO_60.out).2.2 x62_5 p328 q328
                                  cases e328
                                  replace p328 := eq_true p328
                                  replace q328 := eq_true q328
                                  have hcz30_0 : wr.cell? ⟨gb318, 0, none⟩ = some (.int .i64 a0_0) := (blk_cell BK318.out 0).trans rfl
                                  have hcz30_1 : wr.cell? ⟨gb318, 1, none⟩ = some (.string a0_1) := (blk_cell BK318.out 1).trans rfl
                                  have hcz30_2 : wr.cell? ⟨gb318, 2, none⟩ = some (.int .i64 a0_2) := (blk_cell BK318.out 2).trans rfl
                                  have hcz30_3 : wr.cell? ⟨gb318, 3, none⟩ = some (.slice A0_3 l0_3.length c0_3) := (blk_cell BK318.out 3).trans rfl
                                  have hfz30_0 := blk_frozen BK318.out 0
                                  have hfz30_1 := blk_frozen BK318.out 1
                                  have hfz30_2 := blk_frozen BK318.out 2
                                  have hfz30_3 := blk_frozen BK318.out 3
                                  go_wp2_with (first | ((with_reducible refine gate_callee (f := 10) rfl ?_); refine goesL_ (some 74) rfl rfl Tryd.func10 (by kernel_rfl) rfl #[.int .i64 (rd y325 x62_5), .string a0_1, .int .i64 a0_2, .slice A0_3 l0_3.length c0_3] rfl (by (try simp only [List.map_toArray, List.map_cons, List.map_nil]); first | done | rfl | (simp only [List.length_drop, List.length_take]; rfl)) ?_; (with_reducible refine (frame_Response.calls k5 (rd y325 x62_5) a0_1 a0_2 _ _ l0_3 t329 t330 t331 _ ?side1 ?side2 A27.out).mono ?_); (case side1 => repeat (first | exact (Kd.C_below HR0_3.out HB.out) | (with_reducible refine Kd.C_alloc ?_ _) | (with_reducible refine Kd.C_drewN ?_ _) | (with_reducible refine Kd.C_drew ?_))); (case side2 => exact HC0_3.out); rintro e w31 ⟨rfl, hb⟩; refine ⟨_, rfl, ?_⟩; have n0_ := Aside0.mk (Kd.R_below (by (with_reducible repeat (first | apply Kd.R_alloc | apply Kd.R_drewN | apply Kd.R_drew)); exact HO_60.out) hb); have n1_ := Aside0.mk (blk_below (g := gb318) (o := .cells #[.int .i64 a0_0, .string a0_1, .int .i64 a0_2, .slice A0_3 l0_3.length c0_3] 24 (0, 0)) (by (with_reducible repeat (first | refine blk_drewN ?_ _ | refine blk_drew ?_ | refine blk_alloc ?_ _)); exact BK318.out) hb); have n2_ := Aside0.mk (below_step (by repeat (first | (with_reducible first | exact HB.out | apply below_alloc | apply pw_below_drewN | apply below_drew1 | refine below_set ?_ GE318.out) | exact HB.out)) hb); clear HO_60; clear BK318; clear HB; have HO_60 := n0_; have BK318 := n1_; have HB := n2_; clear n0_ n1_ n2_; (try clear hb); (try clear hb2); (try clear hk); (try clear hi)))
                                  go_roundg k5
                                  case measure => have := HJ3.out; have := HJ10.out; have := HJ14.out; have := HJ16.out; have := HK5.out; omega
                                  case rel => exact ⟨(wrap64 (x62_5 + 1)), (by first | rfl | (simp; done) | (simp [*]; done)), H', ⟨by have := HJ3.out; have := HJ10.out; have := HJ14.out; have := HJ16.out; have := HK5.out; omega⟩, ⟨by (with_reducible repeat (first | apply Kd.R_alloc | apply Kd.R_drewN | apply Kd.R_drew)); exact HO_60.out⟩, ⟨by (with_reducible repeat (first | refine blk_drewN ?_ _ | refine blk_drew ?_ | refine blk_alloc ?_ _)); exact BK318.out⟩, ⟨by repeat (first | (with_reducible first | exact HB.out | apply below_alloc | apply pw_below_drewN | apply below_drew1 | refine below_set ?_ GE318.out) | exact HB.out)⟩⟩
                                · rw [if_neg c29] at H
                                  have c29b0 : (t331 == 0) = false := beq_eq_false_iff_ne.mpr c29
                                  have c29b1 : (t331 != 0) = true := bne_iff_ne.mpr c29
                                  by_cases c32 : t331 = t324
                                  · rw [if_pos c32] at H
                                    have c32b0 : (t331 == t324) = true := beq_iff_eq.mpr c32
                                    have c32b1 : (t331 != t324) = false := bne_eq_false_iff_eq.mpr c32
                                    clear c32
                                    have H' := Aside0.mk H
                                    clear H
                                    have p328 : 0 ≤ (x62_5 : Int) := of_decide_eq_true (by first | (with_reducible assumption) | assumption)
                                    have q328 : x62_5 < (y325.length : Int) := of_decide_eq_true (by first | (with_reducible assumption) | assumption)
                                    obtain ⟨ad328, e328, hx328_0⟩ := Kd.at_int (Kd.R_reads' HO_60.out).2.2 x62_5 p328 q328
                                    cases e328
                                    replace p328 := eq_true p328
                                    replace q328 := eq_true q328
                                    have hcz33_0 : wr.cell? ⟨gb318, 0, none⟩ = some (.int .i64 a0_0) := (blk_cell BK318.out 0).trans rfl
                                    have hcz33_1 : wr.cell? ⟨gb318, 1, none⟩ = some (.string a0_1) := (blk_cell BK318.out 1).trans rfl
                                    have hcz33_2 : wr.cell? ⟨gb318, 2, none⟩ = some (.int .i64 a0_2) := (blk_cell BK318.out 2).trans rfl
                                    have hcz33_3 : wr.cell? ⟨gb318, 3, none⟩ = some (.slice A0_3 l0_3.length c0_3) := (blk_cell BK318.out 3).trans rfl
                                    have hfz33_0 := blk_frozen BK318.out 0
                                    have hfz33_1 := blk_frozen BK318.out 1
                                    have hfz33_2 := blk_frozen BK318.out 2
                                    have hfz33_3 := blk_frozen BK318.out 3
                                    go_wp2_with (first | ((with_reducible refine gate_callee (f := 10) rfl ?_); refine goesL_ (some 74) rfl rfl Tryd.func10 (by kernel_rfl) rfl #[.int .i64 (rd y325 x62_5), .string a0_1, .int .i64 a0_2, .slice A0_3 l0_3.length c0_3] rfl (by (try simp only [List.map_toArray, List.map_cons, List.map_nil]); first | done | rfl | (simp only [List.length_drop, List.length_take]; rfl)) ?_; (with_reducible refine (frame_Response.calls k5 (rd y325 x62_5) a0_1 a0_2 _ _ l0_3 t329 t330 t331 _ ?side1 ?side2 A27.out).mono ?_); (case side1 => repeat (first | exact (Kd.C_below HR0_3.out HB.out) | (with_reducible refine Kd.C_alloc ?_ _) | (with_reducible refine Kd.C_drewN ?_ _) | (with_reducible refine Kd.C_drew ?_))); (case side2 => exact HC0_3.out); rintro e w34 ⟨rfl, hb⟩; refine ⟨_, rfl, ?_⟩; have n0_ := Aside0.mk (Kd.R_below (by (with_reducible repeat (first | apply Kd.R_alloc | apply Kd.R_drewN | apply Kd.R_drew)); exact HO_60.out) hb); have n1_ := Aside0.mk (blk_below (g := gb318) (o := .cells #[.int .i64 a0_0, .string a0_1, .int .i64 a0_2, .slice A0_3 l0_3.length c0_3] 24 (0, 0)) (by (with_reducible repeat (first | refine blk_drewN ?_ _ | refine blk_drew ?_ | refine blk_alloc ?_ _)); exact BK318.out) hb); have n2_ := Aside0.mk (below_step (by repeat (first | (with_reducible first | exact HB.out | apply below_alloc | apply pw_below_drewN | apply below_drew1 | refine below_set ?_ GE318.out) | exact HB.out)) hb); clear HO_60; clear BK318; clear HB; have HO_60 := n0_; have BK318 := n1_; have HB := n2_; clear n0_ n1_ n2_; (try clear hb); (try clear hb2); (try clear hk); (try clear hi)))
                                    go_roundg k5
                                    case measure => have := HJ3.out; have := HJ10.out; have := HJ14.out; have := HJ16.out; have := HK5.out; omega
                                    case rel => exact ⟨(wrap64 (x62_5 + 1)), (by first | rfl | (simp; done) | (simp [*]; done)), H', ⟨by have := HJ3.out; have := HJ10.out; have := HJ14.out; have := HJ16.out; have := HK5.out; omega⟩, ⟨by (with_reducible repeat (first | apply Kd.R_alloc | apply Kd.R_drewN | apply Kd.R_drew)); exact HO_60.out⟩, ⟨by (with_reducible repeat (first | refine blk_drewN ?_ _ | refine blk_drew ?_ | refine blk_alloc ?_ _)); exact BK318.out⟩, ⟨by repeat (first | (with_reducible first | exact HB.out | apply below_alloc | apply pw_below_drewN | apply below_drew1 | refine below_set ?_ GE318.out) | exact HB.out)⟩⟩
                                  · rw [if_neg c32] at H
                                    have c32b0 : (t331 == t324) = false := beq_eq_false_iff_ne.mpr c32
                                    have c32b1 : (t331 != t324) = true := bne_iff_ne.mpr c32
                                    exact absurd ((Option.some.inj H).trans hr_) (by decide)
                              · rw [if_neg c28] at H
                                have c28b0 : (t329 == 0) = false := beq_eq_false_iff_ne.mpr c28
                                have c28b1 : (t329 != 0) = true := bne_iff_ne.mpr c28
                                exact absurd ((Option.some.inj H).trans hr_) (by decide)
                            · rw [if_neg c26] at H
                              exact absurd H (by simp)
                          · rw [if_neg c25] at H
                            exact absurd H (by simp)
                        · rw [if_neg c24] at H
                          have c24b0 : decide (x62_5 < (y325.length : Int)) = false := decide_eq_false c24
                          clear c24
                          replace H := Option.bind_eq_some_iff.mp H
                          obtain ⟨⟨t332, t333, t334⟩, A350, H⟩ := H
                          replace H : ((tollhouselaw07_awake.f k5).bind fun t335 => (if t335 = true then (if t332 = 0 then (if t334 = 0 then (some true) else (some (t334 == t324))) else (some false)) else (some false))) = some r := H
                          have A35 := Aside0.mk A350
                          clear A350
                          replace H := Option.bind_eq_some_iff.mp H
                          obtain ⟨t335, A360, H⟩ := H
                          replace H : (if t335 = true then (if t332 = 0 then (if t334 = 0 then (some true) else (some (t334 == t324))) else (some false)) else (some false)) = some r := H
                          have A36 := Aside0.mk A360
                          clear A360
                          by_cases c37 : t335 = true
                          · subst c37
                            have H1 : (if t332 = 0 then (if t334 = 0 then (some true) else (some (t334 == t324))) else (some false)) = some r := by rw [if_pos rfl] at H; exact H
                            clear H
                            have H := H1
                            clear H1
                            by_cases c38 : t332 = 0
                            · rw [if_pos c38] at H
                              have c38b0 : (t332 == 0) = true := beq_iff_eq.mpr c38
                              have c38b1 : (t332 != 0) = false := bne_eq_false_iff_eq.mpr c38
                              clear c38
                              by_cases c39 : t334 = 0
                              · rw [if_pos c39] at H
                                have c39b0 : (t334 == 0) = true := beq_iff_eq.mpr c39
                                have c39b1 : (t334 != 0) = false := bne_eq_false_iff_eq.mpr c39
                                clear c39
                                obtain rfl := Option.some.inj H
                                have hcz40_0 : wr.cell? ⟨gb318, 0, none⟩ = some (.int .i64 a0_0) := (blk_cell BK318.out 0).trans rfl
                                have hcz40_1 : wr.cell? ⟨gb318, 1, none⟩ = some (.string a0_1) := (blk_cell BK318.out 1).trans rfl
                                have hcz40_2 : wr.cell? ⟨gb318, 2, none⟩ = some (.int .i64 a0_2) := (blk_cell BK318.out 2).trans rfl
                                have hcz40_3 : wr.cell? ⟨gb318, 3, none⟩ = some (.slice A0_3 l0_3.length c0_3) := (blk_cell BK318.out 3).trans rfl
                                have hfz40_0 := blk_frozen BK318.out 0
                                have hfz40_1 := blk_frozen BK318.out 1
                                have hfz40_2 := blk_frozen BK318.out 2
                                have hfz40_3 := blk_frozen BK318.out 3
                                go_wp2_with (first | ((with_reducible refine gate_callee (f := 10) rfl ?_); refine goesL_ (some 95) rfl rfl Tryd.func10 (by kernel_rfl) rfl #[.int .i64 299, .string (⟨#[67, 79, 78, 78, 69, 67, 84]⟩ : ByteArray), .int .i64 a0_2, .slice A0_3 l0_3.length c0_3] rfl (by (try simp only [List.map_toArray, List.map_cons, List.map_nil]); first | done | rfl | (simp only [List.length_drop, List.length_take]; rfl)) ?_; (with_reducible refine (frame_Response.calls k5 299 (⟨#[67, 79, 78, 78, 69, 67, 84]⟩ : ByteArray) a0_2 _ _ l0_3 t332 t333 t334 _ ?side1 ?side2 A35.out).mono ?_); (case side1 => repeat (first | exact (Kd.C_below HR0_3.out HB.out) | (with_reducible refine Kd.C_alloc ?_ _) | (with_reducible refine Kd.C_drewN ?_ _) | (with_reducible refine Kd.C_drew ?_))); (case side2 => exact HC0_3.out); rintro e w41 ⟨rfl, hb⟩; refine ⟨_, rfl, ?_⟩; have n0_ := Aside0.mk (Kd.R_below (by (with_reducible repeat (first | apply Kd.R_alloc | apply Kd.R_drewN | apply Kd.R_drew)); exact HO_60.out) hb); have n1_ := Aside0.mk (blk_below (g := gb318) (o := .cells #[.int .i64 a0_0, .string a0_1, .int .i64 a0_2, .slice A0_3 l0_3.length c0_3] 24 (0, 0)) (by (with_reducible repeat (first | refine blk_drewN ?_ _ | refine blk_drew ?_ | refine blk_alloc ?_ _)); exact BK318.out) hb); have n2_ := Aside0.mk (below_step (by repeat (first | (with_reducible first | exact HB.out | apply below_alloc | apply pw_below_drewN | apply below_drew1 | refine below_set ?_ GE318.out) | exact HB.out)) hb); clear HO_60; clear BK318; clear HB; have HO_60 := n0_; have BK318 := n1_; have HB := n2_; clear n0_ n1_ n2_; (try clear hb); (try clear hb2); (try clear hk); (try clear hi)) | ((with_reducible refine gate_callee (f := 12) rfl ?_); refine goesL_ (some 99) rfl rfl Tryd.func12 (by kernel_rfl) rfl #[] rfl (by (try simp only [List.map_toArray, List.map_cons, List.map_nil]); first | done | rfl | (simp only [List.length_drop, List.length_take]; rfl)) ?_; (with_reducible refine (tollhouselaw07_awake.calls k5  true _ A36.out).mono ?_); rintro e w42 ⟨rfl, hb⟩; refine ⟨_, rfl, ?_⟩; have n0_ := Aside0.mk (Kd.R_below (by (with_reducible repeat (first | apply Kd.R_alloc | apply Kd.R_drewN | apply Kd.R_drew)); exact HO_60.out) hb); have n1_ := Aside0.mk (blk_below (g := gb318) (o := .cells #[.int .i64 a0_0, .string a0_1, .int .i64 a0_2, .slice A0_3 l0_3.length c0_3] 24 (0, 0)) (by (with_reducible repeat (first | refine blk_drewN ?_ _ | refine blk_drew ?_ | refine blk_alloc ?_ _)); exact BK318.out) hb); have n2_ := Aside0.mk (below_step (by repeat (first | (with_reducible first | exact HB.out | apply below_alloc | apply pw_below_drewN | apply below_drew1 | refine below_set ?_ GE318.out) | exact HB.out)) hb); clear HO_60; clear BK318; clear HB; have HO_60 := n0_; have BK318 := n1_; have HB := n2_; clear n0_ n1_ n2_; (try clear hb); (try clear hb2); (try clear hk); (try clear hi)))
                                go_ret
                                exact ⟨by first | rfl | (simp [errW_none, errW_some] <;> rfl) | (simp [*, errW_none, errW_some] <;> rfl), by repeat (first | (with_reducible first | exact HB.out | apply below_alloc | apply pw_below_drewN | apply below_drew1 | refine below_set ?_ GE318.out) | exact HB.out)⟩
                              · rw [if_neg c39] at H
                                have c39b0 : (t334 == 0) = false := beq_eq_false_iff_ne.mpr c39
                                have c39b1 : (t334 != 0) = true := bne_iff_ne.mpr c39
                                obtain rfl := Option.some.inj H
                                have hcz43_0 : wr.cell? ⟨gb318, 0, none⟩ = some (.int .i64 a0_0) := (blk_cell BK318.out 0).trans rfl
                                have hcz43_1 : wr.cell? ⟨gb318, 1, none⟩ = some (.string a0_1) := (blk_cell BK318.out 1).trans rfl
                                have hcz43_2 : wr.cell? ⟨gb318, 2, none⟩ = some (.int .i64 a0_2) := (blk_cell BK318.out 2).trans rfl
                                have hcz43_3 : wr.cell? ⟨gb318, 3, none⟩ = some (.slice A0_3 l0_3.length c0_3) := (blk_cell BK318.out 3).trans rfl
                                have hfz43_0 := blk_frozen BK318.out 0
                                have hfz43_1 := blk_frozen BK318.out 1
                                have hfz43_2 := blk_frozen BK318.out 2
                                have hfz43_3 := blk_frozen BK318.out 3
                                go_wp2_with (first | ((with_reducible refine gate_callee (f := 10) rfl ?_); refine goesL_ (some 95) rfl rfl Tryd.func10 (by kernel_rfl) rfl #[.int .i64 299, .string (⟨#[67, 79, 78, 78, 69, 67, 84]⟩ : ByteArray), .int .i64 a0_2, .slice A0_3 l0_3.length c0_3] rfl (by (try simp only [List.map_toArray, List.map_cons, List.map_nil]); first | done | rfl | (simp only [List.length_drop, List.length_take]; rfl)) ?_; (with_reducible refine (frame_Response.calls k5 299 (⟨#[67, 79, 78, 78, 69, 67, 84]⟩ : ByteArray) a0_2 _ _ l0_3 t332 t333 t334 _ ?side1 ?side2 A35.out).mono ?_); (case side1 => repeat (first | exact (Kd.C_below HR0_3.out HB.out) | (with_reducible refine Kd.C_alloc ?_ _) | (with_reducible refine Kd.C_drewN ?_ _) | (with_reducible refine Kd.C_drew ?_))); (case side2 => exact HC0_3.out); rintro e w44 ⟨rfl, hb⟩; refine ⟨_, rfl, ?_⟩; have n0_ := Aside0.mk (Kd.R_below (by (with_reducible repeat (first | apply Kd.R_alloc | apply Kd.R_drewN | apply Kd.R_drew)); exact HO_60.out) hb); have n1_ := Aside0.mk (blk_below (g := gb318) (o := .cells #[.int .i64 a0_0, .string a0_1, .int .i64 a0_2, .slice A0_3 l0_3.length c0_3] 24 (0, 0)) (by (with_reducible repeat (first | refine blk_drewN ?_ _ | refine blk_drew ?_ | refine blk_alloc ?_ _)); exact BK318.out) hb); have n2_ := Aside0.mk (below_step (by repeat (first | (with_reducible first | exact HB.out | apply below_alloc | apply pw_below_drewN | apply below_drew1 | refine below_set ?_ GE318.out) | exact HB.out)) hb); clear HO_60; clear BK318; clear HB; have HO_60 := n0_; have BK318 := n1_; have HB := n2_; clear n0_ n1_ n2_; (try clear hb); (try clear hb2); (try clear hk); (try clear hi)) | ((with_reducible refine gate_callee (f := 12) rfl ?_); refine goesL_ (some 99) rfl rfl Tryd.func12 (by kernel_rfl) rfl #[] rfl (by (try simp only [List.map_toArray, List.map_cons, List.map_nil]); first | done | rfl | (simp only [List.length_drop, List.length_take]; rfl)) ?_; (with_reducible refine (tollhouselaw07_awake.calls k5  true _ A36.out).mono ?_); rintro e w45 ⟨rfl, hb⟩; refine ⟨_, rfl, ?_⟩; have n0_ := Aside0.mk (Kd.R_below (by (with_reducible repeat (first | apply Kd.R_alloc | apply Kd.R_drewN | apply Kd.R_drew)); exact HO_60.out) hb); have n1_ := Aside0.mk (blk_below (g := gb318) (o := .cells #[.int .i64 a0_0, .string a0_1, .int .i64 a0_2, .slice A0_3 l0_3.length c0_3] 24 (0, 0)) (by (with_reducible repeat (first | refine blk_drewN ?_ _ | refine blk_drew ?_ | refine blk_alloc ?_ _)); exact BK318.out) hb); have n2_ := Aside0.mk (below_step (by repeat (first | (with_reducible first | exact HB.out | apply below_alloc | apply pw_below_drewN | apply below_drew1 | refine below_set ?_ GE318.out) | exact HB.out)) hb); clear HO_60; clear BK318; clear HB; have HO_60 := n0_; have BK318 := n1_; have HB := n2_; clear n0_ n1_ n2_; (try clear hb); (try clear hb2); (try clear hk); (try clear hi)))
                                go_ret
                                exact ⟨by first | rfl | (simp [errW_none, errW_some] <;> rfl) | (simp [*, errW_none, errW_some] <;> rfl), by repeat (first | (with_reducible first | exact HB.out | apply below_alloc | apply pw_below_drewN | apply below_drew1 | refine below_set ?_ GE318.out) | exact HB.out)⟩
                            · rw [if_neg c38] at H
                              have c38b0 : (t332 == 0) = false := beq_eq_false_iff_ne.mpr c38
                              have c38b1 : (t332 != 0) = true := bne_iff_ne.mpr c38
                              exact absurd ((Option.some.inj H).trans hr_) (by decide)
                          · replace c37 := Bool.eq_false_iff.mpr c37
                            subst c37
                            have H1 : (some false) = some r := by rw [if_neg (show ¬ (false = true) by decide)] at H; exact H
                            clear H
                            have H := H1
                            clear H1
                            exact absurd ((Option.some.inj H).trans hr_) (by decide)

end Go.Proofs.YtcamdfjjdigaeaaDoor.P
