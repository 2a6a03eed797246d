/- The walk of the Go function tollhouselaw05 HeadFields, and what it computes. By program. Conditions: none but those that each theorem names. -/
import Derived.Test.YtdofgilfmgdpkaaDoorQ0
import Derived.Test.YtdofgilfmgdpkaaDoorQConv
import Derived.Test.YtdofgilfmgdpkaaDoorQRef05
import Derived.Test.YtdofgilfmgdpkaaDoorQheadPut
import Derived.Test.YtdofgilfmgdpkaaDoorQheadGet
import Derived.Test.YtdofgilfmgdpkaaDoorQheadWith
import Derived.Test.YtdofgilfmgdpkaaDoorQtollhouselaw05wakes
import Derived.Test.YtdofgilfmgdpkaaDoorQtollhouselaw05own
import Derived.Test.YtdofgilfmgdpkaaDoorQtollhouseref05May
import Derived.Test.YtdofgilfmgdpkaaDoorQtollhouseref05Put
import Derived.Test.YtdofgilfmgdpkaaDoorQRef02
import Derived.Test.YtdofgilfmgdpkaaDoorFheadMay
import Derived.Test.YtdofgilfmgdpkaaDoorFheadDrop
namespace Go.Proofs.YtdofgilfmgdpkaaDoor.P
open Go.RowKit Go.Proofs.YtdofgilfmgdpkaaDoorW.PrintWords Go.Proofs.YtdofgilfmgdpkaaDoorW.PrintLast Go.Proofs.YtdofgilfmgdpkaaDoorW.PrintMore
attribute [local go_sem] max2_int min2_int max_two min_two max_three min_three max_four min_four
set_option linter.unusedVariables false
set_option linter.unusedSimpArgs false

/-! ### tollhouselaw05_HeadFields: function 4 -/
mutual
def tollhouselaw05_HeadFields.j0 : Nat → List (S45) → ByteArray → ByteArray → List ByteArray → List (S45) → Bool → Option (Bool)
  | 0, _, _, _, _, _, _ => none
  | k + 1, x0, x1, x2, x3, x9, x57 => if x57 = true then (some false) else ((head_Drop.f x9 x3).bind fun t306 => ((head_With.f x9 x1 x2).bind fun t309 => ((tollhouseref05_Drop.f k x0 x3).bind fun t312 => ((tollhouseref05_Same.f k t306 t312).bind fun t315 => (if t315 = true then ((tollhouseref05_With.f k x0 x1 x2).bind fun t316 => ((tollhouseref05_Same.f k t309 t316).bind fun t319 => (tollhouselaw05_HeadFields.j1 k x0 x9 t306 t309 t319))) else (tollhouselaw05_HeadFields.j1 k x0 x9 t306 t309 false))))))
def tollhouselaw05_HeadFields.j1 : Nat → List (S45) → List (S45) → List (S45) → List (S45) → Bool → Option (Bool)
  | 0, _, _, _, _, _ => none
  | k + 1, x0, x9, x14, x15, x16 => tollhouselaw05_HeadFields.l0 k x0 x9 x14 x15 x16 0
def tollhouselaw05_HeadFields.l0 : Nat → List (S45) → List (S45) → List (S45) → List (S45) → Bool → Int → Option (Bool)
  | 0, _, _, _, _, _, _ => none
  | k + 1, x0, x9, x14, x15, x16, x17 => if x17 < (x14.length : Int) then (if 0 ≤ x17 then (tollhouselaw05_HeadFields.l0 k x0 x9 (x14.set (x17 : Int).toNat (⟨(rd_T45 x14 x17).f0, (⟨#[120]⟩ : ByteArray)⟩ : S45)) x15 x16 (wrap64 (x17 + 1))) else (none)) else (tollhouselaw05_HeadFields.l1 k x0 x9 x15 x16 0)
def tollhouselaw05_HeadFields.l1 : Nat → List (S45) → List (S45) → List (S45) → Bool → Int → Option (Bool)
  | 0, _, _, _, _, _ => none
  | k + 1, x0, x9, x15, x16, x18 => if x18 < (x15.length : Int) then (if 0 ≤ x18 then (tollhouselaw05_HeadFields.l1 k x0 x9 (x15.set (x18 : Int).toNat (⟨(rd_T45 x15 x18).f0, (⟨#[120]⟩ : ByteArray)⟩ : S45)) x16 (wrap64 (x18 + 1))) else (none)) else (if x16 = true then ((tollhouseref05_Same.f k x9 x0).bind fun t322 => (if t322 = true then ((tollhouselaw05_wakes.f k).bind fun t323 => (some t323)) else (some false))) else (some false))
end
def tollhouselaw05_HeadFields.f (k : Nat) (l0 : List (S45)) (a1 : ByteArray) (a2 : ByteArray) (l3 : List ByteArray) : Option (Bool) := (tollhouselaw05_own.f l0).bind fun t286 => ((head_Put.f k t286).bind fun bt289 => ((tollhouseref05_Put.f k l0).bind fun bt293 => (if (strOfNums bt289.1).toList = (strOfNums bt293.1).toList then (if bt289.2 = bt293.2 then ((head_May.f t286).bind fun t297 => ((tollhouseref05_May.f k l0).bind fun t298 => (if (t297 != t298) = true then (tollhouselaw05_HeadFields.j0 k l0 a1 a2 l3 t286 true) else ((head_Get.f k t286 a1).bind fun t299 => ((tollhouseref05_Get.f k l0 a1).bind fun t302 => ((tollhouseref02_Equal.f k t299 t302).bind fun t305 => (tollhouselaw05_HeadFields.j0 k l0 a1 a2 l3 t286 (!t305)))))))) else (tollhouselaw05_HeadFields.j0 k l0 a1 a2 l3 t286 true)) else (tollhouselaw05_HeadFields.j0 k l0 a1 a2 l3 t286 true))))
theorem tollhouselaw05_HeadFields.mono_l : ∀ k, (∀ y0 y1 y2 y3 y4 y5, LeO (tollhouselaw05_HeadFields.j0 k y0 y1 y2 y3 y4 y5) (tollhouselaw05_HeadFields.j0 (k + 1) y0 y1 y2 y3 y4 y5)) ∧ (∀ y0 y1 y2 y3 y4, LeO (tollhouselaw05_HeadFields.j1 k y0 y1 y2 y3 y4) (tollhouselaw05_HeadFields.j1 (k + 1) y0 y1 y2 y3 y4)) ∧ (∀ y0 y1 y2 y3 y4 y5, LeO (tollhouselaw05_HeadFields.l0 k y0 y1 y2 y3 y4 y5) (tollhouselaw05_HeadFields.l0 (k + 1) y0 y1 y2 y3 y4 y5)) ∧ (∀ y0 y1 y2 y3 y4, LeO (tollhouselaw05_HeadFields.l1 k y0 y1 y2 y3 y4) (tollhouselaw05_HeadFields.l1 (k + 1) y0 y1 y2 y3 y4))
  | 0 => ⟨fun _ _ _ _ _ _ r h => by simp [tollhouselaw05_HeadFields.j0] at h, fun _ _ _ _ _ r h => by simp [tollhouselaw05_HeadFields.j1] at h, fun _ _ _ _ _ _ r h => by simp [tollhouselaw05_HeadFields.l0] at h, fun _ _ _ _ _ r h => by simp [tollhouselaw05_HeadFields.l1] at h⟩
  | k + 1 => by
    obtain ⟨ih0, ih1, ih2, ih3⟩ := tollhouselaw05_HeadFields.mono_l k
    refine ⟨?_, ?_, ?_, ?_⟩
    · intro y0 y1 y2 y3 y4 y5
      unfold tollhouselaw05_HeadFields.j0
      repeat' first
      | (with_reducible exact ih0 _ _ _ _ _ _)
      | (with_reducible exact ih1 _ _ _ _ _)
      | (with_reducible exact ih2 _ _ _ _ _ _)
      | (with_reducible exact ih3 _ _ _ _ _)
      | (with_reducible exact head_Get.mono _ _ _)
      | (with_reducible exact head_Put.mono _ _)
      | (with_reducible exact tollhouselaw05_wakes.mono _)
      | (with_reducible exact tollhouseref02_Equal.mono _ _ _)
      | (with_reducible exact tollhouseref05_Drop.mono _ _ _)
      | (with_reducible exact tollhouseref05_Get.mono _ _ _)
      | (with_reducible exact tollhouseref05_May.mono _ _)
      | (with_reducible exact tollhouseref05_Put.mono _ _)
      | (with_reducible exact tollhouseref05_Same.mono _ _ _)
      | (with_reducible exact tollhouseref05_With.mono _ _ _ _)
      | (with_reducible exact LeO.refl _)
      | (with_reducible exact LeO.none _)
      | (with_reducible refine LeO.ite ?_ ?_)
      | (with_reducible refine LeO.bind ?_ (fun _ => ?_))
      | exact ih0 _ _ _ _ _ _
      | exact ih1 _ _ _ _ _
      | exact ih2 _ _ _ _ _ _
      | exact ih3 _ _ _ _ _
      | exact head_Get.mono _ _ _
      | exact head_Put.mono _ _
      | exact tollhouselaw05_wakes.mono _
      | exact tollhouseref02_Equal.mono _ _ _
      | exact tollhouseref05_Drop.mono _ _ _
      | exact tollhouseref05_Get.mono _ _ _
      | exact tollhouseref05_May.mono _ _
      | exact tollhouseref05_Put.mono _ _
      | exact tollhouseref05_Same.mono _ _ _
      | exact tollhouseref05_With.mono _ _ _ _
      | exact LeO.none _
      | refine LeO.ite ?_ ?_
      | refine LeO.bind ?_ (fun _ => ?_)
    · intro y0 y1 y2 y3 y4
      unfold tollhouselaw05_HeadFields.j1
      repeat' first
      | (with_reducible exact ih0 _ _ _ _ _ _)
      | (with_reducible exact ih1 _ _ _ _ _)
      | (with_reducible exact ih2 _ _ _ _ _ _)
      | (with_reducible exact ih3 _ _ _ _ _)
      | (with_reducible exact head_Get.mono _ _ _)
      | (with_reducible exact head_Put.mono _ _)
      | (with_reducible exact tollhouselaw05_wakes.mono _)
      | (with_reducible exact tollhouseref02_Equal.mono _ _ _)
      | (with_reducible exact tollhouseref05_Drop.mono _ _ _)
      | (with_reducible exact tollhouseref05_Get.mono _ _ _)
      | (with_reducible exact tollhouseref05_May.mono _ _)
      | (with_reducible exact tollhouseref05_Put.mono _ _)
      | (with_reducible exact tollhouseref05_Same.mono _ _ _)
      | (with_reducible exact tollhouseref05_With.mono _ _ _ _)
      | (with_reducible exact LeO.refl _)
      | (with_reducible exact LeO.none _)
      | (with_reducible refine LeO.ite ?_ ?_)
      | (with_reducible refine LeO.bind ?_ (fun _ => ?_))
      | exact ih0 _ _ _ _ _ _
      | exact ih1 _ _ _ _ _
      | exact ih2 _ _ _ _ _ _
      | exact ih3 _ _ _ _ _
      | exact head_Get.mono _ _ _
      | exact head_Put.mono _ _
      | exact tollhouselaw05_wakes.mono _
      | exact tollhouseref02_Equal.mono _ _ _
      | exact tollhouseref05_Drop.mono _ _ _
      | exact tollhouseref05_Get.mono _ _ _
      | exact tollhouseref05_May.mono _ _
      | exact tollhouseref05_Put.mono _ _
      | exact tollhouseref05_Same.mono _ _ _
      | exact tollhouseref05_With.mono _ _ _ _
      | exact LeO.none _
      | refine LeO.ite ?_ ?_
      | refine LeO.bind ?_ (fun _ => ?_)
    · intro y0 y1 y2 y3 y4 y5
      unfold tollhouselaw05_HeadFields.l0
      repeat' first
      | (with_reducible exact ih0 _ _ _ _ _ _)
      | (with_reducible exact ih1 _ _ _ _ _)
      | (with_reducible exact ih2 _ _ _ _ _ _)
      | (with_reducible exact ih3 _ _ _ _ _)
      | (with_reducible exact head_Get.mono _ _ _)
      | (with_reducible exact head_Put.mono _ _)
      | (with_reducible exact tollhouselaw05_wakes.mono _)
      | (with_reducible exact tollhouseref02_Equal.mono _ _ _)
      | (with_reducible exact tollhouseref05_Drop.mono _ _ _)
      | (with_reducible exact tollhouseref05_Get.mono _ _ _)
      | (with_reducible exact tollhouseref05_May.mono _ _)
      | (with_reducible exact tollhouseref05_Put.mono _ _)
      | (with_reducible exact tollhouseref05_Same.mono _ _ _)
      | (with_reducible exact tollhouseref05_With.mono _ _ _ _)
      | (with_reducible exact LeO.refl _)
      | (with_reducible exact LeO.none _)
      | (with_reducible refine LeO.ite ?_ ?_)
      | (with_reducible refine LeO.bind ?_ (fun _ => ?_))
      | exact ih0 _ _ _ _ _ _
      | exact ih1 _ _ _ _ _
      | exact ih2 _ _ _ _ _ _
      | exact ih3 _ _ _ _ _
      | exact head_Get.mono _ _ _
      | exact head_Put.mono _ _
      | exact tollhouselaw05_wakes.mono _
      | exact tollhouseref02_Equal.mono _ _ _
      | exact tollhouseref05_Drop.mono _ _ _
      | exact tollhouseref05_Get.mono _ _ _
      | exact tollhouseref05_May.mono _ _
      | exact tollhouseref05_Put.mono _ _
      | exact tollhouseref05_Same.mono _ _ _
      | exact tollhouseref05_With.mono _ _ _ _
      | exact LeO.none _
      | refine LeO.ite ?_ ?_
      | refine LeO.bind ?_ (fun _ => ?_)
    · intro y0 y1 y2 y3 y4
      unfold tollhouselaw05_HeadFields.l1
      repeat' first
      | (with_reducible exact ih0 _ _ _ _ _ _)
      | (with_reducible exact ih1 _ _ _ _ _)
      | (with_reducible exact ih2 _ _ _ _ _ _)
      | (with_reducible exact ih3 _ _ _ _ _)
      | (with_reducible exact head_Get.mono _ _ _)
      | (with_reducible exact head_Put.mono _ _)
      | (with_reducible exact tollhouselaw05_wakes.mono _)
      | (with_reducible exact tollhouseref02_Equal.mono _ _ _)
      | (with_reducible exact tollhouseref05_Drop.mono _ _ _)
      | (with_reducible exact tollhouseref05_Get.mono _ _ _)
      | (with_reducible exact tollhouseref05_May.mono _ _)
      | (with_reducible exact tollhouseref05_Put.mono _ _)
      | (with_reducible exact tollhouseref05_Same.mono _ _ _)
      | (with_reducible exact tollhouseref05_With.mono _ _ _ _)
      | (with_reducible exact LeO.refl _)
      | (with_reducible exact LeO.none _)
      | (with_reducible refine LeO.ite ?_ ?_)
      | (with_reducible refine LeO.bind ?_ (fun _ => ?_))
      | exact ih0 _ _ _ _ _ _
      | exact ih1 _ _ _ _ _
      | exact ih2 _ _ _ _ _ _
      | exact ih3 _ _ _ _ _
      | exact head_Get.mono _ _ _
      | exact head_Put.mono _ _
      | exact tollhouselaw05_wakes.mono _
      | exact tollhouseref02_Equal.mono _ _ _
      | exact tollhouseref05_Drop.mono _ _ _
      | exact tollhouseref05_Get.mono _ _ _
      | exact tollhouseref05_May.mono _ _
      | exact tollhouseref05_Put.mono _ _
      | exact tollhouseref05_Same.mono _ _ _
      | exact tollhouseref05_With.mono _ _ _ _
      | exact LeO.none _
      | refine LeO.ite ?_ ?_
      | refine LeO.bind ?_ (fun _ => ?_)
theorem tollhouselaw05_HeadFields.mono : ∀ a0 a1 a2 a3 k, LeO (tollhouselaw05_HeadFields.f k a0 a1 a2 a3) (tollhouselaw05_HeadFields.f (k + 1) a0 a1 a2 a3) := by
  intro a0 a1 a2 a3 k
  obtain ⟨ih0, ih1, ih2, ih3⟩ := tollhouselaw05_HeadFields.mono_l k
  unfold tollhouselaw05_HeadFields.f
  repeat' first
      | (with_reducible exact ih0 _ _ _ _ _ _)
      | (with_reducible exact ih1 _ _ _ _ _)
      | (with_reducible exact ih2 _ _ _ _ _ _)
      | (with_reducible exact ih3 _ _ _ _ _)
      | (with_reducible exact head_Get.mono _ _ _)
      | (with_reducible exact head_Put.mono _ _)
      | (with_reducible exact tollhouselaw05_wakes.mono _)
      | (with_reducible exact tollhouseref02_Equal.mono _ _ _)
      | (with_reducible exact tollhouseref05_Drop.mono _ _ _)
      | (with_reducible exact tollhouseref05_Get.mono _ _ _)
      | (with_reducible exact tollhouseref05_May.mono _ _)
      | (with_reducible exact tollhouseref05_Put.mono _ _)
      | (with_reducible exact tollhouseref05_Same.mono _ _ _)
      | (with_reducible exact tollhouseref05_With.mono _ _ _ _)
      | (with_reducible exact LeO.refl _)
      | (with_reducible exact LeO.none _)
      | (with_reducible refine LeO.ite ?_ ?_)
      | (with_reducible refine LeO.bind ?_ (fun _ => ?_))
      | exact ih0 _ _ _ _ _ _
      | exact ih1 _ _ _ _ _
      | exact ih2 _ _ _ _ _ _
      | exact ih3 _ _ _ _ _
      | exact head_Get.mono _ _ _
      | exact head_Put.mono _ _
      | exact tollhouselaw05_wakes.mono _
      | exact tollhouseref02_Equal.mono _ _ _
      | exact tollhouseref05_Drop.mono _ _ _
      | exact tollhouseref05_Get.mono _ _ _
      | exact tollhouseref05_May.mono _ _
      | exact tollhouseref05_Put.mono _ _
      | exact tollhouseref05_Same.mono _ _ _
      | exact tollhouseref05_With.mono _ _ _ _
      | exact LeO.none _
      | refine LeO.ite ?_ ?_
      | refine LeO.bind ?_ (fun _ => ?_)
set_option maxHeartbeats 8000000 in
set_option maxRecDepth 100000 in
theorem tollhouselaw05_HeadFields.calls (k : Nat) (A0 : Option Addr) (c0 : Nat) (l0 : List (S45)) (a1 : ByteArray) (a2 : ByteArray) (A3 : Option Addr) (c3 : Nat) (l3 : List ByteArray) (r : Bool) (w : World) (hr0 : Kd.C k45 w A0 l0.length l0) (hc0 : l0.length ≤ c0) (hr3 : Kd.C Kd.string w A3 l3.length l3) (hc3 : l3.length ≤ c3) (h : tollhouselaw05_HeadFields.f k l0 a1 a2 l3 = some r) :
    Calls Tryd.prog 4 #[.slice A0 l0.length c0, .string a1, .string a2, .slice A3 l3.length c3] w fun e w' => e = .returned (.bool r) ∧ Below w.heap.size w w' := by
  have HR0 := Aside0.mk hr0
  have HC0 := Aside0.mk hc0
  clear hr0 hc0
  have HR3 := Aside0.mk hr3
  have HC3 := Aside0.mk hc3
  clear hr3 hc3
  have HB := Aside0.mk (Below.refl w.heap.size w)
  have H : ((tollhouselaw05_own.f l0).bind fun t286 => ((head_Put.f k t286).bind fun bt289 => ((tollhouseref05_Put.f k l0).bind fun bt293 => (if (strOfNums bt289.1).toList = (strOfNums bt293.1).toList then (if bt289.2 = bt293.2 then ((head_May.f t286).bind fun t297 => ((tollhouseref05_May.f k l0).bind fun t298 => (if (t297 != t298) = true then (tollhouselaw05_HeadFields.j0 k l0 a1 a2 l3 t286 true) else ((head_Get.f k t286 a1).bind fun t299 => ((tollhouseref05_Get.f k l0 a1).bind fun t302 => ((tollhouseref02_Equal.f k t299 t302).bind fun t305 => (tollhouselaw05_HeadFields.j0 k l0 a1 a2 l3 t286 (!t305)))))))) else (tollhouselaw05_HeadFields.j0 k l0 a1 a2 l3 t286 true)) else (tollhouselaw05_HeadFields.j0 k l0 a1 a2 l3 t286 true))))) = some r := h
  clear h
  replace H := Option.bind_eq_some_iff.mp H
  obtain ⟨t286, A50, H⟩ := H
  replace H : ((head_Put.f k t286).bind fun bt289 => ((tollhouseref05_Put.f k l0).bind fun bt293 => (if (strOfNums bt289.1).toList = (strOfNums bt293.1).toList then (if bt289.2 = bt293.2 then ((head_May.f t286).bind fun t297 => ((tollhouseref05_May.f k l0).bind fun t298 => (if (t297 != t298) = true then (tollhouselaw05_HeadFields.j0 k l0 a1 a2 l3 t286 true) else ((head_Get.f k t286 a1).bind fun t299 => ((tollhouseref05_Get.f k l0 a1).bind fun t302 => ((tollhouseref02_Equal.f k t299 t302).bind fun t305 => (tollhouselaw05_HeadFields.j0 k l0 a1 a2 l3 t286 (!t305)))))))) else (tollhouselaw05_HeadFields.j0 k l0 a1 a2 l3 t286 true)) else (tollhouselaw05_HeadFields.j0 k l0 a1 a2 l3 t286 true)))) = some r := H
  have A5 := Aside0.mk A50
  clear A50
  replace H := Option.bind_eq_some_iff.mp H
  obtain ⟨⟨t289, t290⟩, A60, H⟩ := H
  replace H : ((tollhouseref05_Put.f k l0).bind fun bt293 => (if (strOfNums t289).toList = (strOfNums bt293.1).toList then (if t290 = bt293.2 then ((head_May.f t286).bind fun t297 => ((tollhouseref05_May.f k l0).bind fun t298 => (if (t297 != t298) = true then (tollhouselaw05_HeadFields.j0 k l0 a1 a2 l3 t286 true) else ((head_Get.f k t286 a1).bind fun t299 => ((tollhouseref05_Get.f k l0 a1).bind fun t302 => ((tollhouseref02_Equal.f k t299 t302).bind fun t305 => (tollhouselaw05_HeadFields.j0 k l0 a1 a2 l3 t286 (!t305)))))))) else (tollhouselaw05_HeadFields.j0 k l0 a1 a2 l3 t286 true)) else (tollhouselaw05_HeadFields.j0 k l0 a1 a2 l3 t286 true))) = some r := H
  have A6 := Aside0.mk A60
  clear A60
  replace H := Option.bind_eq_some_iff.mp H
  obtain ⟨⟨t293, t296⟩, A70, H⟩ := H
  replace H : (if (strOfNums t289).toList = (strOfNums t293).toList then (if t290 = t296 then ((head_May.f t286).bind fun t297 => ((tollhouseref05_May.f k l0).bind fun t298 => (if (t297 != t298) = true then (tollhouselaw05_HeadFields.j0 k l0 a1 a2 l3 t286 true) else ((head_Get.f k t286 a1).bind fun t299 => ((tollhouseref05_Get.f k l0 a1).bind fun t302 => ((tollhouseref02_Equal.f k t299 t302).bind fun t305 => (tollhouselaw05_HeadFields.j0 k l0 a1 a2 l3 t286 (!t305)))))))) else (tollhouselaw05_HeadFields.j0 k l0 a1 a2 l3 t286 true)) else (tollhouselaw05_HeadFields.j0 k l0 a1 a2 l3 t286 true)) = some r := H
  have A7 := Aside0.mk A70
  clear A70
  have HC8 := Aside0.mk H
  clear H
  go_enter Tryd.func4, Tryd.ntmps4
  go_upto_region 4 with (first | ((with_reducible refine gate_callee (f := 13) rfl ?_); refine goesL_ (some 20) rfl rfl Tryd.func13 (by kernel_rfl) rfl #[.slice A0 l0.length c0] rfl (by (try simp only [List.map_toArray, List.map_cons, List.map_nil]); first | done | rfl | (simp only [List.length_drop, List.length_take]; rfl)) ?_; (with_reducible refine (tollhouselaw05_own.calls _ _ l0 t286 _ ?side1 ?side2 A5.out).mono ?_); (case side1 => repeat (first | exact HR0.out | (with_reducible refine Kd.C_alloc ?_ _) | (with_reducible refine Kd.C_drewN ?_ _) | (with_reducible refine Kd.C_drew ?_))); (case side2 => exact HC0.out); rintro e w9 ⟨v287, rfl, ho0, hb⟩; refine ⟨_, rfl, ?_⟩; have n0_ := Aside0.mk (Kd.R_lower ho0 (below_size (by repeat (first | (with_reducible first | exact HB.out | apply below_alloc | apply pw_below_drewN | apply below_drew1) | exact HB.out)))); have n1_ := Aside0.mk (below_step (by repeat (first | (with_reducible first | exact HB.out | apply below_alloc | apply pw_below_drewN | apply below_drew1) | exact HB.out)) hb); clear HB; have HO288 := n0_; have HB := n1_; clear n0_ n1_; (try clear hb); (try clear hb2); (try clear hk); (try clear hi); (try clear ho0); obtain ⟨Ao10, co10, eo10⟩ := Kd.R_slice HO288.out; subst eo10) | ((with_reducible refine gate_callee (f := 14) rfl ?_); refine goesL_ (some 23) rfl rfl Tryd.func14 (by kernel_rfl) rfl #[.slice Ao10 t286.length co10] rfl (by (try simp only [List.map_toArray, List.map_cons, List.map_nil]); first | done | rfl | (simp only [List.length_drop, List.length_take]; rfl)) ?_; (with_reducible refine (head_Put.calls k _ _ t286 t289 t290 _ ?side1 ?side2 A6.out).mono ?_); (case side1 => repeat (first | exact (Kd.R_reads' HO288.out).2.2 | (with_reducible refine Kd.C_alloc ?_ _) | (with_reducible refine Kd.C_drewN ?_ _) | (with_reducible refine Kd.C_drew ?_))); (case side2 => exact (Kd.R_reads' HO288.out).2.1); rintro e w11 ⟨v291, rfl, ho0, hb⟩; refine ⟨_, rfl, ?_⟩; have n0_ := Aside0.mk (Kd.R_below (by (with_reducible repeat (first | apply Kd.R_alloc | apply Kd.R_drewN | apply Kd.R_drew)); exact HO288.out) hb); have n1_ := Aside0.mk (Kd.R_lower ho0 (below_size (by repeat (first | (with_reducible first | exact HB.out | apply below_alloc | apply pw_below_drewN | apply below_drew1) | exact HB.out)))); have n2_ := Aside0.mk (below_step (by repeat (first | (with_reducible first | exact HB.out | apply below_alloc | apply pw_below_drewN | apply below_drew1) | exact HB.out)) hb); clear HO288; clear HB; have HO288 := n0_; have HO292 := n1_; have HB := n2_; clear n0_ n1_ n2_; (try clear hb); (try clear hb2); (try clear hk); (try clear hi); (try clear ho0)) | ((with_reducible refine gate_callee (f := 15) rfl ?_); refine goesL_ (some 28) rfl rfl Tryd.func15 (by kernel_rfl) rfl #[.slice A0 l0.length c0] rfl (by (try simp only [List.map_toArray, List.map_cons, List.map_nil]); first | done | rfl | (simp only [List.length_drop, List.length_take]; rfl)) ?_; (with_reducible refine (tollhouseref05_Put.calls k _ _ l0 t293 t296 _ ?side1 ?side2 A7.out).mono ?_); (case side1 => repeat (first | exact (Kd.C_below HR0.out HB.out) | (with_reducible refine Kd.C_alloc ?_ _) | (with_reducible refine Kd.C_drewN ?_ _) | (with_reducible refine Kd.C_drew ?_))); (case side2 => exact HC0.out); rintro e w12 ⟨v294, rfl, ho0, hb⟩; refine ⟨_, rfl, ?_⟩; have n0_ := Aside0.mk (Kd.R_below (by (with_reducible repeat (first | apply Kd.R_alloc | apply Kd.R_drewN | apply Kd.R_drew)); exact HO288.out) hb); have n1_ := Aside0.mk (Kd.R_below (by (with_reducible repeat (first | apply Kd.R_alloc | apply Kd.R_drewN | apply Kd.R_drew)); exact HO292.out) hb); have n2_ := Aside0.mk (Kd.V_lower (Kd.V_mono (ok' := fun k_ => some k_ ≠ (.slice Ao10 t286.length co10 : Value).ownBlock ∧ some k_ ≠ (v291 : Value).ownBlock) ho0 (fun k_ hk_ => ⟨(Kd.fresh' (Kd.R_lt (by (with_reducible repeat (first | apply Kd.R_alloc | apply Kd.R_drewN | apply Kd.R_drew)); exact HO288.out)) k_ hk_), (Kd.fresh' (Kd.R_lt (by (with_reducible repeat (first | apply Kd.R_alloc | apply Kd.R_drewN | apply Kd.R_drew)); exact HO292.out)) k_ hk_)⟩)) (below_size (by repeat (first | (with_reducible first | exact HB.out | apply below_alloc | apply pw_below_drewN | apply below_drew1) | exact HB.out)))); have n3_ := Aside0.mk (below_step (by repeat (first | (with_reducible first | exact HB.out | apply below_alloc | apply pw_below_drewN | apply below_drew1) | exact HB.out)) hb); clear HO288; clear HO292; clear HB; have HO288 := n0_; have HO292 := n1_; have HO295 := n2_; have HB := n3_; clear n0_ n1_ n2_ n3_; (try clear hb); (try clear hb2); (try clear hk); (try clear hi); (try clear ho0)))
  (try simp only [Act.put, List.setIfInBounds_toArray, List.set_cons_zero, List.set_cons_succ])
  go_cut [57] (fun v57 wc => ∃ (kq : Nat) (x57_7 : Bool), v57 = .bool x57_7 ∧ Aside0 (tollhouselaw05_HeadFields.j0 kq l0 a1 a2 l3 t286 x57_7 = some r) ∧ Aside0 (kq ≤ k) ∧ Aside0 (Kd.R k45 45 wc w.heap.size (fun _ => True) (.slice Ao10 t286.length co10) t286) ∧ Aside0 (Below w.heap.size w wc))
  case first =>
    have H := HC8.out
    clear HC8
    by_cases c13 : (strOfNums t289).toList = (strOfNums t293).toList
    · rw [if_pos c13] at H
      have c13b0 : ((strOfNums t289).toList == (strOfNums t293).toList) = true := beq_iff_eq.mpr c13
      have c13b1 : ((strOfNums t289).toList != (strOfNums t293).toList) = false := bne_eq_false_iff_eq.mpr c13
      clear c13
      (first | rw [c13b0] | (simp only [i64_w, i32_w]; rw [c13b0]) | skip)
      by_cases c14 : t290 = t296
      · rw [if_pos c14] at H
        have c14b0 : (t290 == t296) = true := beq_iff_eq.mpr c14
        have c14b1 : (t290 != t296) = false := bne_eq_false_iff_eq.mpr c14
        clear c14
        replace H := Option.bind_eq_some_iff.mp H
        obtain ⟨t297, A150, H⟩ := H
        replace H : ((tollhouseref05_May.f k l0).bind fun t298 => (if (t297 != t298) = true then (tollhouselaw05_HeadFields.j0 k l0 a1 a2 l3 t286 true) else ((head_Get.f k t286 a1).bind fun t299 => ((tollhouseref05_Get.f k l0 a1).bind fun t302 => ((tollhouseref02_Equal.f k t299 t302).bind fun t305 => (tollhouselaw05_HeadFields.j0 k l0 a1 a2 l3 t286 (!t305))))))) = some r := H
        have A15 := Aside0.mk A150
        clear A150
        replace H := Option.bind_eq_some_iff.mp H
        obtain ⟨t298, A160, H⟩ := H
        replace H : (if (t297 != t298) = true then (tollhouselaw05_HeadFields.j0 k l0 a1 a2 l3 t286 true) else ((head_Get.f k t286 a1).bind fun t299 => ((tollhouseref05_Get.f k l0 a1).bind fun t302 => ((tollhouseref02_Equal.f k t299 t302).bind fun t305 => (tollhouselaw05_HeadFields.j0 k l0 a1 a2 l3 t286 (!t305)))))) = some r := H
        have A16 := Aside0.mk A160
        clear A160
        by_cases c17 : (t297 != t298) = true
        · rw [if_pos c17] at H
          have c17b0 : (t297 != t298) = true := c17
          (try (have c17b1 : decide (t297 = t298) = false := by simpa using c17))
          (try (have c17b2 : (t297 == t298) = false := by simpa using c17))
          (try (have c17b3 : ¬ (t297 = t298) := by simpa using c17))
          clear c17
          have H' := Aside0.mk H
          clear H
          have hcv18 := (HO292.out).conv (P := Tryd.prog) Tryd.underlying22 Tryd.underlying5 Tryd.underlying9; have hcv18n := (HO292.out).convN (P := Tryd.prog) Tryd.underlying22 Tryd.underlying5 Tryd.underlying9
          have hcv19 := (HO295.out).conv (P := Tryd.prog) Tryd.underlying22 Tryd.underlying5 Tryd.underlying9; have hcv19n := (HO295.out).convN (P := Tryd.prog) Tryd.underlying22 Tryd.underlying5 Tryd.underlying9
          go_wp2_with (first | (go_at_call 16; (with_reducible refine (head_May.calls _ _ t286 t297 _ ?side1 ?side2 A15.out).mono ?_); (case side1 => repeat (first | exact (Kd.R_reads' HO288.out).2.2 | (with_reducible refine Kd.C_alloc ?_ _) | (with_reducible refine Kd.C_drewN ?_ _) | (with_reducible refine Kd.C_drew ?_))); (case side2 => exact (Kd.R_reads' HO288.out).2.1); rintro e w20 ⟨rfl, hb⟩; have n0_ := Aside0.mk (Kd.R_below (by (with_reducible repeat (first | apply Kd.R_alloc | apply Kd.R_drewN | apply Kd.R_drew)); exact HO288.out) hb); have n1_ := Aside0.mk (Kd.R_below (by (with_reducible repeat (first | apply Kd.R_alloc | apply Kd.R_drewN | apply Kd.R_drew)); exact HO292.out) hb); have n2_ := Aside0.mk (Kd.V_below (by (with_reducible repeat (first | apply Kd.V_alloc | apply Kd.V_drewN | apply Kd.V_drew)); exact HO295.out) hb); have n3_ := Aside0.mk (below_step (by repeat (first | (with_reducible first | exact HB.out | apply below_alloc | apply pw_below_drewN | apply below_drew1) | exact HB.out)) hb); clear HO288; clear HO292; clear HO295; clear HB; have HO288 := n0_; have HO292 := n1_; have HO295 := n2_; have HB := n3_; clear n0_ n1_ n2_ n3_; (try clear hb); (try clear hb2); (try clear hk); (try clear hi)) | (go_at_call 17; (with_reducible refine (tollhouseref05_May.calls k _ _ l0 t298 _ ?side1 ?side2 A16.out).mono ?_); (case side1 => repeat (first | exact (Kd.C_below HR0.out HB.out) | (with_reducible refine Kd.C_alloc ?_ _) | (with_reducible refine Kd.C_drewN ?_ _) | (with_reducible refine Kd.C_drew ?_))); (case side2 => exact HC0.out); rintro e w21 ⟨rfl, hb⟩; have n0_ := Aside0.mk (Kd.R_below (by (with_reducible repeat (first | apply Kd.R_alloc | apply Kd.R_drewN | apply Kd.R_drew)); exact HO288.out) hb); have n1_ := Aside0.mk (Kd.R_below (by (with_reducible repeat (first | apply Kd.R_alloc | apply Kd.R_drewN | apply Kd.R_drew)); exact HO292.out) hb); have n2_ := Aside0.mk (Kd.V_below (by (with_reducible repeat (first | apply Kd.V_alloc | apply Kd.V_drewN | apply Kd.V_drew)); exact HO295.out) hb); have n3_ := Aside0.mk (below_step (by repeat (first | (with_reducible first | exact HB.out | apply below_alloc | apply pw_below_drewN | apply below_drew1) | exact HB.out)) hb); clear HO288; clear HO292; clear HO295; clear HB; have HO288 := n0_; have HO292 := n1_; have HO295 := n2_; have HB := n3_; clear n0_ n1_ n2_ n3_; (try clear hb); (try clear hb2); (try clear hk); (try clear hi)))
          go_meet
          case rel => exact ⟨_, (true), (by first | rfl | (simp; done) | (simp [*]; done)), H', ⟨by first | omega | exact Nat.le_refl _⟩, ⟨by (with_reducible repeat (first | apply Kd.R_alloc | apply Kd.R_drewN | apply Kd.R_drew)); exact HO288.out⟩, ⟨by repeat (first | (with_reducible first | exact HB.out | apply below_alloc | apply pw_below_drewN | apply below_drew1) | exact HB.out)⟩⟩
        · rw [if_neg c17] at H
          have c17b0 : (t297 != t298) = false := by simpa using c17
          (try (have c17b1 : decide (t297 = t298) = true := by simpa using c17))
          (try (have c17b2 : (t297 == t298) = true := by simpa using c17))
          clear c17
          replace H := Option.bind_eq_some_iff.mp H
          obtain ⟨t299, A220, H⟩ := H
          replace H : ((tollhouseref05_Get.f k l0 a1).bind fun t302 => ((tollhouseref02_Equal.f k t299 t302).bind fun t305 => (tollhouselaw05_HeadFields.j0 k l0 a1 a2 l3 t286 (!t305)))) = some r := H
          have A22 := Aside0.mk A220
          clear A220
          replace H := Option.bind_eq_some_iff.mp H
          obtain ⟨t302, A230, H⟩ := H
          replace H : ((tollhouseref02_Equal.f k t299 t302).bind fun t305 => (tollhouselaw05_HeadFields.j0 k l0 a1 a2 l3 t286 (!t305))) = some r := H
          have A23 := Aside0.mk A230
          clear A230
          replace H := Option.bind_eq_some_iff.mp H
          obtain ⟨t305, A240, H⟩ := H
          replace H : (tollhouselaw05_HeadFields.j0 k l0 a1 a2 l3 t286 (!t305)) = some r := H
          have A24 := Aside0.mk A240
          clear A240
          have H' := Aside0.mk H
          clear H
          have hcv25 := (HO292.out).conv (P := Tryd.prog) Tryd.underlying22 Tryd.underlying5 Tryd.underlying9; have hcv25n := (HO292.out).convN (P := Tryd.prog) Tryd.underlying22 Tryd.underlying5 Tryd.underlying9
          have hcv26 := (HO295.out).conv (P := Tryd.prog) Tryd.underlying22 Tryd.underlying5 Tryd.underlying9; have hcv26n := (HO295.out).convN (P := Tryd.prog) Tryd.underlying22 Tryd.underlying5 Tryd.underlying9
          go_wp2_with (first | (go_at_call 16; (with_reducible refine (head_May.calls _ _ t286 t297 _ ?side1 ?side2 A15.out).mono ?_); (case side1 => repeat (first | exact (Kd.R_reads' HO288.out).2.2 | (with_reducible refine Kd.C_alloc ?_ _) | (with_reducible refine Kd.C_drewN ?_ _) | (with_reducible refine Kd.C_drew ?_))); (case side2 => exact (Kd.R_reads' HO288.out).2.1); rintro e w27 ⟨rfl, hb⟩; have n0_ := Aside0.mk (Kd.R_below (by (with_reducible repeat (first | apply Kd.R_alloc | apply Kd.R_drewN | apply Kd.R_drew)); exact HO288.out) hb); have n1_ := Aside0.mk (Kd.R_below (by (with_reducible repeat (first | apply Kd.R_alloc | apply Kd.R_drewN | apply Kd.R_drew)); exact HO292.out) hb); have n2_ := Aside0.mk (Kd.V_below (by (with_reducible repeat (first | apply Kd.V_alloc | apply Kd.V_drewN | apply Kd.V_drew)); exact HO295.out) hb); have n3_ := Aside0.mk (below_step (by repeat (first | (with_reducible first | exact HB.out | apply below_alloc | apply pw_below_drewN | apply below_drew1) | exact HB.out)) hb); clear HO288; clear HO292; clear HO295; clear HB; have HO288 := n0_; have HO292 := n1_; have HO295 := n2_; have HB := n3_; clear n0_ n1_ n2_ n3_; (try clear hb); (try clear hb2); (try clear hk); (try clear hi)) | (go_at_call 17; (with_reducible refine (tollhouseref05_May.calls k _ _ l0 t298 _ ?side1 ?side2 A16.out).mono ?_); (case side1 => repeat (first | exact (Kd.C_below HR0.out HB.out) | (with_reducible refine Kd.C_alloc ?_ _) | (with_reducible refine Kd.C_drewN ?_ _) | (with_reducible refine Kd.C_drew ?_))); (case side2 => exact HC0.out); rintro e w28 ⟨rfl, hb⟩; have n0_ := Aside0.mk (Kd.R_below (by (with_reducible repeat (first | apply Kd.R_alloc | apply Kd.R_drewN | apply Kd.R_drew)); exact HO288.out) hb); have n1_ := Aside0.mk (Kd.R_below (by (with_reducible repeat (first | apply Kd.R_alloc | apply Kd.R_drewN | apply Kd.R_drew)); exact HO292.out) hb); have n2_ := Aside0.mk (Kd.V_below (by (with_reducible repeat (first | apply Kd.V_alloc | apply Kd.V_drewN | apply Kd.V_drew)); exact HO295.out) hb); have n3_ := Aside0.mk (below_step (by repeat (first | (with_reducible first | exact HB.out | apply below_alloc | apply pw_below_drewN | apply below_drew1) | exact HB.out)) hb); clear HO288; clear HO292; clear HO295; clear HB; have HO288 := n0_; have HO292 := n1_; have HO295 := n2_; have HB := n3_; clear n0_ n1_ n2_ n3_; (try clear hb); (try clear hb2); (try clear hk); (try clear hi)) | (go_at_call 19; (with_reducible refine (head_Get.calls k _ _ t286 a1 t299 _ ?side1 ?side2 A22.out).mono ?_); (case side1 => repeat (first | exact (Kd.R_reads' HO288.out).2.2 | (with_reducible refine Kd.C_alloc ?_ _) | (with_reducible refine Kd.C_drewN ?_ _) | (with_reducible refine Kd.C_drew ?_))); (case side2 => exact (Kd.R_reads' HO288.out).2.1); rintro e w29 ⟨v300, rfl, ho0, hb⟩; have n0_ := Aside0.mk (Kd.R_below (by (with_reducible repeat (first | apply Kd.R_alloc | apply Kd.R_drewN | apply Kd.R_drew)); exact HO288.out) hb); have n1_ := Aside0.mk (Kd.R_below (by (with_reducible repeat (first | apply Kd.R_alloc | apply Kd.R_drewN | apply Kd.R_drew)); exact HO292.out) hb); have n2_ := Aside0.mk (Kd.V_elder' (by (with_reducible repeat (first | apply Kd.V_alloc | apply Kd.V_drewN | apply Kd.V_drew)); exact HO295.out) (Kd.R_base ho0) hb); have n3_ := Aside0.mk (Kd.R_lower ho0 (below_size (by repeat (first | (with_reducible first | exact HB.out | apply below_alloc | apply pw_below_drewN | apply below_drew1) | exact HB.out)))); have n4_ := Aside0.mk (below_step (by repeat (first | (with_reducible first | exact HB.out | apply below_alloc | apply pw_below_drewN | apply below_drew1) | exact HB.out)) hb); clear HO288; clear HO292; clear HO295; clear HB; have HO288 := n0_; have HO292 := n1_; have HO295 := n2_; have HO301 := n3_; have HB := n4_; clear n0_ n1_ n2_ n3_ n4_; (try clear hb); (try clear hb2); (try clear hk); (try clear hi); (try clear ho0)) | (go_at_call 20; (with_reducible refine (tollhouseref05_Get.calls k _ _ l0 a1 t302 _ ?side1 ?side2 A23.out).mono ?_); (case side1 => repeat (first | exact (Kd.C_below HR0.out HB.out) | (with_reducible refine Kd.C_alloc ?_ _) | (with_reducible refine Kd.C_drewN ?_ _) | (with_reducible refine Kd.C_drew ?_))); (case side2 => exact HC0.out); rintro e w30 ⟨v303, rfl, ho0, hb⟩; have n0_ := Aside0.mk (Kd.R_below (by (with_reducible repeat (first | apply Kd.R_alloc | apply Kd.R_drewN | apply Kd.R_drew)); exact HO288.out) hb); have n1_ := Aside0.mk (Kd.R_below (by (with_reducible repeat (first | apply Kd.R_alloc | apply Kd.R_drewN | apply Kd.R_drew)); exact HO292.out) hb); have n2_ := Aside0.mk (Kd.V_elder' (by (with_reducible repeat (first | apply Kd.V_alloc | apply Kd.V_drewN | apply Kd.V_drew)); exact HO295.out) (Kd.R_base ho0) hb); have n3_ := Aside0.mk (Kd.R_elder' (by (with_reducible repeat (first | apply Kd.R_alloc | apply Kd.R_drewN | apply Kd.R_drew)); exact HO301.out) (Kd.R_base ho0) hb); have n4_ := Aside0.mk (Kd.R_lower (Kd.R_new' ho0 (Kd.R_lt (by (with_reducible repeat (first | apply Kd.R_alloc | apply Kd.R_drewN | apply Kd.R_drew)); exact HO301.out))) (below_size (by repeat (first | (with_reducible first | exact HB.out | apply below_alloc | apply pw_below_drewN | apply below_drew1) | exact HB.out)))); have n5_ := Aside0.mk (below_step (by repeat (first | (with_reducible first | exact HB.out | apply below_alloc | apply pw_below_drewN | apply below_drew1) | exact HB.out)) hb); clear HO288; clear HO292; clear HO295; clear HO301; clear HB; have HO288 := n0_; have HO292 := n1_; have HO295 := n2_; have HO301 := n3_; have HO304 := n4_; have HB := n5_; clear n0_ n1_ n2_ n3_ n4_ n5_; (try clear hb); (try clear hb2); (try clear hk); (try clear hi); (try clear ho0); obtain ⟨Ao31, co31, eo31⟩ := Kd.R_slice HO301.out; subst eo31; obtain ⟨Ao32, co32, eo32⟩ := Kd.R_slice HO304.out; subst eo32) | (go_at_call 18; (with_reducible refine (tollhouseref02_Equal.calls k _ _ t299 _ _ t302 t305 _ ?side1 ?side2 ?side3 ?side4 A24.out).mono ?_); (case side1 => repeat (first | exact (Kd.R_reads' HO301.out).2.2 | (with_reducible refine Kd.C_alloc ?_ _) | (with_reducible refine Kd.C_drewN ?_ _) | (with_reducible refine Kd.C_drew ?_))); (case side2 => exact (Kd.R_reads' HO301.out).2.1); (case side3 => repeat (first | exact (Kd.R_reads' HO304.out).2.2 | (with_reducible refine Kd.C_alloc ?_ _) | (with_reducible refine Kd.C_drewN ?_ _) | (with_reducible refine Kd.C_drew ?_))); (case side4 => exact (Kd.R_reads' HO304.out).2.1); rintro e w' ⟨rfl, ⟨nd, rfl⟩⟩))
          go_meet
          case rel => exact ⟨_, (!t305), (by first | rfl | (simp; done) | (simp [*]; done)), H', ⟨by first | omega | exact Nat.le_refl _⟩, ⟨by (with_reducible repeat (first | apply Kd.R_alloc | apply Kd.R_drewN | apply Kd.R_drew)); exact HO288.out⟩, ⟨by repeat (first | (with_reducible first | exact HB.out | apply below_alloc | apply pw_below_drewN | apply below_drew1) | exact HB.out)⟩⟩
      · rw [if_neg c14] at H
        have c14b0 : (t290 == t296) = false := beq_eq_false_iff_ne.mpr c14
        have c14b1 : (t290 != t296) = true := bne_iff_ne.mpr c14
        have H' := Aside0.mk H
        clear H
        have hcv33 := (HO292.out).conv (P := Tryd.prog) Tryd.underlying22 Tryd.underlying5 Tryd.underlying9; have hcv33n := (HO292.out).convN (P := Tryd.prog) Tryd.underlying22 Tryd.underlying5 Tryd.underlying9
        have hcv34 := (HO295.out).conv (P := Tryd.prog) Tryd.underlying22 Tryd.underlying5 Tryd.underlying9; have hcv34n := (HO295.out).convN (P := Tryd.prog) Tryd.underlying22 Tryd.underlying5 Tryd.underlying9
        go_wp2
        go_meet
        case rel => exact ⟨_, (true), (by first | rfl | (simp; done) | (simp [*]; done)), H', ⟨by first | omega | exact Nat.le_refl _⟩, ⟨by (with_reducible repeat (first | apply Kd.R_alloc | apply Kd.R_drewN | apply Kd.R_drew)); exact HO288.out⟩, ⟨by repeat (first | (with_reducible first | exact HB.out | apply below_alloc | apply pw_below_drewN | apply below_drew1) | exact HB.out)⟩⟩
    · rw [if_neg c13] at H
      have c13b0 : ((strOfNums t289).toList == (strOfNums t293).toList) = false := beq_eq_false_iff_ne.mpr c13
      have c13b1 : ((strOfNums t289).toList != (strOfNums t293).toList) = true := bne_iff_ne.mpr c13
      (first | rw [c13b0] | (simp only [i64_w, i32_w]; rw [c13b0]) | skip)
      have H' := Aside0.mk H
      clear H
      have hcv35 := (HO292.out).conv (P := Tryd.prog) Tryd.underlying22 Tryd.underlying5 Tryd.underlying9; have hcv35n := (HO292.out).convN (P := Tryd.prog) Tryd.underlying22 Tryd.underlying5 Tryd.underlying9
      have hcv36 := (HO295.out).conv (P := Tryd.prog) Tryd.underlying22 Tryd.underlying5 Tryd.underlying9; have hcv36n := (HO295.out).convN (P := Tryd.prog) Tryd.underlying22 Tryd.underlying5 Tryd.underlying9
      go_wp2
      go_meet
      case rel => exact ⟨_, (true), (by first | rfl | (simp; done) | (simp [*]; done)), H', ⟨by first | omega | exact Nat.le_refl _⟩, ⟨by (with_reducible repeat (first | apply Kd.R_alloc | apply Kd.R_drewN | apply Kd.R_drew)); exact HO288.out⟩, ⟨by repeat (first | (with_reducible first | exact HB.out | apply below_alloc | apply pw_below_drewN | apply below_drew1) | exact HB.out)⟩⟩
  case rest =>
    clear HC8
    try clear c1
    try clear hcv1
    try clear p2
    try clear hcv2
    try clear c3
    try clear hcv3
    try clear c4
    try clear c13
    try clear c13b0
    try clear c13b1
    try clear c14
    try clear c14b0
    try clear c14b1
    try clear c15
    try clear c17
    try clear c17b0
    try clear c17b1
    try clear c17b2
    try clear hcv18
    try clear hcv19
    try clear hcv25
    try clear hcv26
    try clear hcv33
    try clear hcv34
    try clear hcv35
    try clear hcv36
    obtain ⟨kq, x57_7, rfl, HA, HJ7, HO_9, HB⟩ := hcut
    cases kq with
    | zero => exact absurd HA.out (by simp [tollhouselaw05_HeadFields.j0])
    | succ kj7 =>
      have H := HA.out
      clear HA
      simp only [tollhouselaw05_HeadFields.j0] at H
      by_cases c37 : x57_7 = true
      · subst c37
        have H1 : (some false) = some r := by rw [if_pos rfl] at H; exact H
        clear H
        have H := H1
        clear H1
        obtain rfl := Option.some.inj H
        go_wp2
        go_ret
        exact ⟨by first | rfl | (simp [errW_none, errW_some] <;> rfl) | (simp [*, errW_none, errW_some] <;> rfl), by repeat (first | (with_reducible first | exact HB.out | apply below_alloc | apply pw_below_drewN | apply below_drew1) | exact HB.out)⟩
      · replace c37 := Bool.eq_false_iff.mpr c37
        subst c37
        have H1 : ((head_Drop.f t286 l3).bind fun t306 => ((head_With.f t286 a1 a2).bind fun t309 => ((tollhouseref05_Drop.f kj7 l0 l3).bind fun t312 => ((tollhouseref05_Same.f kj7 t306 t312).bind fun t315 => (if t315 = true then ((tollhouseref05_With.f kj7 l0 a1 a2).bind fun t316 => ((tollhouseref05_Same.f kj7 t309 t316).bind fun t319 => (tollhouselaw05_HeadFields.j1 kj7 l0 t286 t306 t309 t319))) else (tollhouselaw05_HeadFields.j1 kj7 l0 t286 t306 t309 false)))))) = some r := by rw [if_neg (show ¬ (false = true) by decide)] at H; exact H
        clear H
        have H := H1
        clear H1
        replace H := Option.bind_eq_some_iff.mp H
        obtain ⟨t306, A380, H⟩ := H
        replace H : ((head_With.f t286 a1 a2).bind fun t309 => ((tollhouseref05_Drop.f kj7 l0 l3).bind fun t312 => ((tollhouseref05_Same.f kj7 t306 t312).bind fun t315 => (if t315 = true then ((tollhouseref05_With.f kj7 l0 a1 a2).bind fun t316 => ((tollhouseref05_Same.f kj7 t309 t316).bind fun t319 => (tollhouselaw05_HeadFields.j1 kj7 l0 t286 t306 t309 t319))) else (tollhouselaw05_HeadFields.j1 kj7 l0 t286 t306 t309 false))))) = some r := H
        have A38 := Aside0.mk A380
        clear A380
        replace H := Option.bind_eq_some_iff.mp H
        obtain ⟨t309, A390, H⟩ := H
        replace H : ((tollhouseref05_Drop.f kj7 l0 l3).bind fun t312 => ((tollhouseref05_Same.f kj7 t306 t312).bind fun t315 => (if t315 = true then ((tollhouseref05_With.f kj7 l0 a1 a2).bind fun t316 => ((tollhouseref05_Same.f kj7 t309 t316).bind fun t319 => (tollhouselaw05_HeadFields.j1 kj7 l0 t286 t306 t309 t319))) else (tollhouselaw05_HeadFields.j1 kj7 l0 t286 t306 t309 false)))) = some r := H
        have A39 := Aside0.mk A390
        clear A390
        have HC40 := Aside0.mk H
        clear H
        go_upto_region 7 with (first | ((with_reducible refine gate_callee (f := 21) rfl ?_); refine goesL_ (some 60) rfl rfl Tryd.func21 (by kernel_rfl) rfl #[.slice Ao10 t286.length co10, .slice A3 l3.length c3] rfl (by (try simp only [List.map_toArray, List.map_cons, List.map_nil]); first | done | rfl | (simp only [List.length_drop, List.length_take]; rfl)) ?_; (with_reducible refine (head_Drop.calls _ _ t286 _ _ l3 t306 _ ?side1 ?side2 ?side3 ?side4 A38.out).mono ?_); (case side1 => repeat (first | exact (Kd.R_reads' HO_9.out).2.2 | (with_reducible refine Kd.C_alloc ?_ _) | (with_reducible refine Kd.C_drewN ?_ _) | (with_reducible refine Kd.C_drew ?_))); (case side2 => exact (Kd.R_reads' HO_9.out).2.1); (case side3 => repeat (first | exact (Kd.C_below HR3.out HB.out) | (with_reducible refine Kd.C_alloc ?_ _) | (with_reducible refine Kd.C_drewN ?_ _) | (with_reducible refine Kd.C_drew ?_))); (case side4 => exact HC3.out); rintro e w41 ⟨v307, rfl, ho0, hb⟩; refine ⟨_, rfl, ?_⟩; have n0_ := Aside0.mk (Kd.R_elder' (by (with_reducible repeat (first | apply Kd.R_alloc | apply Kd.R_drewN | apply Kd.R_drew)); exact HO_9.out) (Kd.R_base ho0) hb); have n1_ := Aside0.mk (Kd.R_lower (Kd.R_new' ho0 (Kd.R_lt (by (with_reducible repeat (first | apply Kd.R_alloc | apply Kd.R_drewN | apply Kd.R_drew)); exact HO_9.out))) (below_size (by repeat (first | (with_reducible first | exact HB.out | apply below_alloc | apply pw_below_drewN | apply below_drew1) | exact HB.out)))); have n2_ := Aside0.mk (below_step (by repeat (first | (with_reducible first | exact HB.out | apply below_alloc | apply pw_below_drewN | apply below_drew1) | exact HB.out)) hb); clear HO_9; clear HB; have HO_9 := n0_; have HO308 := n1_; have HB := n2_; clear n0_ n1_ n2_; (try clear hb); (try clear hb2); (try clear hk); (try clear hi); (try clear ho0)) | ((with_reducible refine gate_callee (f := 22) rfl ?_); refine goesL_ (some 64) rfl rfl Tryd.func22 (by kernel_rfl) rfl #[.slice Ao10 t286.length co10, .string a1, .string a2] rfl (by (try simp only [List.map_toArray, List.map_cons, List.map_nil]); first | done | rfl | (simp only [List.length_drop, List.length_take]; rfl)) ?_; (with_reducible refine (head_With.calls _ _ t286 a1 a2 t309 _ ?side1 ?side2 A39.out).mono ?_); (case side1 => repeat (first | exact (Kd.R_reads' HO_9.out).2.2 | (with_reducible refine Kd.C_alloc ?_ _) | (with_reducible refine Kd.C_drewN ?_ _) | (with_reducible refine Kd.C_drew ?_))); (case side2 => exact (Kd.R_reads' HO_9.out).2.1); rintro e w42 ⟨v310, rfl, ho0, hb⟩; refine ⟨_, rfl, ?_⟩; have n0_ := Aside0.mk (Kd.R_elder' (by (with_reducible repeat (first | apply Kd.R_alloc | apply Kd.R_drewN | apply Kd.R_drew)); exact HO_9.out) (Kd.R_base ho0) hb); have n1_ := Aside0.mk (Kd.R_elder' (by (with_reducible repeat (first | apply Kd.R_alloc | apply Kd.R_drewN | apply Kd.R_drew)); exact HO308.out) (Kd.R_base ho0) hb); have n2_ := Aside0.mk (Kd.R_lower (Kd.R_new' (Kd.R_new' ho0 (Kd.R_lt (by (with_reducible repeat (first | apply Kd.R_alloc | apply Kd.R_drewN | apply Kd.R_drew)); exact HO_9.out))) (Kd.R_lt (by (with_reducible repeat (first | apply Kd.R_alloc | apply Kd.R_drewN | apply Kd.R_drew)); exact HO308.out))) (below_size (by repeat (first | (with_reducible first | exact HB.out | apply below_alloc | apply pw_below_drewN | apply below_drew1) | exact HB.out)))); have n3_ := Aside0.mk (below_step (by repeat (first | (with_reducible first | exact HB.out | apply below_alloc | apply pw_below_drewN | apply below_drew1) | exact HB.out)) hb); clear HO_9; clear HO308; clear HB; have HO_9 := n0_; have HO308 := n1_; have HO311 := n2_; have HB := n3_; clear n0_ n1_ n2_ n3_; (try clear hb); (try clear hb2); (try clear hk); (try clear hi); (try clear ho0)))
        (try simp only [Act.put, List.setIfInBounds_toArray, List.set_cons_zero, List.set_cons_succ])
        go_cut [16] (fun v16 wc => ∃ (kq : Nat) (x16_39 : Bool), v16 = .bool x16_39 ∧ Aside0 (tollhouselaw05_HeadFields.j1 kq l0 t286 t306 t309 x16_39 = some r) ∧ Aside0 (kq ≤ kj7) ∧ Aside0 (Kd.R k45 45 wc w.heap.size (fun k_ => some k_ ≠ (v307 : Value).ownBlock ∧ some k_ ≠ (v310 : Value).ownBlock) (.slice Ao10 t286.length co10) t286) ∧ Aside0 (Kd.R k45 45 wc w.heap.size (fun k_ => some k_ ≠ ((.slice Ao10 t286.length co10) : Value).ownBlock ∧ some k_ ≠ (v310 : Value).ownBlock) v307 t306) ∧ Aside0 (Kd.R k45 45 wc w.heap.size (fun k_ => some k_ ≠ ((.slice Ao10 t286.length co10) : Value).ownBlock ∧ some k_ ≠ (v307 : Value).ownBlock) v310 t309) ∧ Aside0 (Below w.heap.size w wc))
        case first =>
          have H := HC40.out
          clear HC40
          replace H := Option.bind_eq_some_iff.mp H
          obtain ⟨t312, A430, H⟩ := H
          replace H : ((tollhouseref05_Same.f kj7 t306 t312).bind fun t315 => (if t315 = true then ((tollhouseref05_With.f kj7 l0 a1 a2).bind fun t316 => ((tollhouseref05_Same.f kj7 t309 t316).bind fun t319 => (tollhouselaw05_HeadFields.j1 kj7 l0 t286 t306 t309 t319))) else (tollhouselaw05_HeadFields.j1 kj7 l0 t286 t306 t309 false))) = some r := H
          have A43 := Aside0.mk A430
          clear A430
          replace H := Option.bind_eq_some_iff.mp H
          obtain ⟨t315, A440, H⟩ := H
          replace H : (if t315 = true then ((tollhouseref05_With.f kj7 l0 a1 a2).bind fun t316 => ((tollhouseref05_Same.f kj7 t309 t316).bind fun t319 => (tollhouselaw05_HeadFields.j1 kj7 l0 t286 t306 t309 t319))) else (tollhouselaw05_HeadFields.j1 kj7 l0 t286 t306 t309 false)) = some r := H
          have A44 := Aside0.mk A440
          clear A440
          by_cases c45 : t315 = true
          · subst c45
            have H1 : ((tollhouseref05_With.f kj7 l0 a1 a2).bind fun t316 => ((tollhouseref05_Same.f kj7 t309 t316).bind fun t319 => (tollhouselaw05_HeadFields.j1 kj7 l0 t286 t306 t309 t319))) = some r := by rw [if_pos rfl] at H; exact H
            clear H
            have H := H1
            clear H1
            replace H := Option.bind_eq_some_iff.mp H
            obtain ⟨t316, A460, H⟩ := H
            replace H : ((tollhouseref05_Same.f kj7 t309 t316).bind fun t319 => (tollhouselaw05_HeadFields.j1 kj7 l0 t286 t306 t309 t319)) = some r := H
            have A46 := Aside0.mk A460
            clear A460
            replace H := Option.bind_eq_some_iff.mp H
            obtain ⟨t319, A470, H⟩ := H
            replace H : (tollhouselaw05_HeadFields.j1 kj7 l0 t286 t306 t309 t319) = some r := H
            have A47 := Aside0.mk A470
            clear A470
            have H' := Aside0.mk H
            clear H
            go_wp2_with (first | ((with_reducible refine gate_callee (f := 23) rfl ?_); refine goesL_ (some 68) rfl rfl Tryd.func23 (by kernel_rfl) rfl #[.slice A0 l0.length c0, .slice A3 l3.length c3] rfl (by (try simp only [List.map_toArray, List.map_cons, List.map_nil]); first | done | rfl | (simp only [List.length_drop, List.length_take]; rfl)) ?_; (with_reducible refine (tollhouseref05_Drop.calls kj7 _ _ l0 _ _ l3 t312 _ ?side1 ?side2 ?side3 ?side4 A43.out).mono ?_); (case side1 => repeat (first | exact (Kd.C_below HR0.out HB.out) | (with_reducible refine Kd.C_alloc ?_ _) | (with_reducible refine Kd.C_drewN ?_ _) | (with_reducible refine Kd.C_drew ?_))); (case side2 => exact HC0.out); (case side3 => repeat (first | exact (Kd.C_below HR3.out HB.out) | (with_reducible refine Kd.C_alloc ?_ _) | (with_reducible refine Kd.C_drewN ?_ _) | (with_reducible refine Kd.C_drew ?_))); (case side4 => exact HC3.out); rintro e w48 ⟨v313, rfl, ho0, hb⟩; refine ⟨_, rfl, ?_⟩; have n0_ := Aside0.mk (Kd.R_elder' (by (with_reducible repeat (first | apply Kd.R_alloc | apply Kd.R_drewN | apply Kd.R_drew)); exact HO_9.out) (Kd.R_base ho0) hb); have n1_ := Aside0.mk (Kd.R_elder' (by (with_reducible repeat (first | apply Kd.R_alloc | apply Kd.R_drewN | apply Kd.R_drew)); exact HO308.out) (Kd.R_base ho0) hb); have n2_ := Aside0.mk (Kd.R_elder' (by (with_reducible repeat (first | apply Kd.R_alloc | apply Kd.R_drewN | apply Kd.R_drew)); exact HO311.out) (Kd.R_base ho0) hb); have n3_ := Aside0.mk (Kd.R_lower (Kd.R_new' (Kd.R_new' (Kd.R_new' ho0 (Kd.R_lt (by (with_reducible repeat (first | apply Kd.R_alloc | apply Kd.R_drewN | apply Kd.R_drew)); exact HO_9.out))) (Kd.R_lt (by (with_reducible repeat (first | apply Kd.R_alloc | apply Kd.R_drewN | apply Kd.R_drew)); exact HO308.out))) (Kd.R_lt (by (with_reducible repeat (first | apply Kd.R_alloc | apply Kd.R_drewN | apply Kd.R_drew)); exact HO311.out))) (below_size (by repeat (first | (with_reducible first | exact HB.out | apply below_alloc | apply pw_below_drewN | apply below_drew1) | exact HB.out)))); have n4_ := Aside0.mk (below_step (by repeat (first | (with_reducible first | exact HB.out | apply below_alloc | apply pw_below_drewN | apply below_drew1) | exact HB.out)) hb); clear HO_9; clear HO308; clear HO311; clear HB; have HO_9 := n0_; have HO308 := n1_; have HO311 := n2_; have HO314 := n3_; have HB := n4_; clear n0_ n1_ n2_ n3_ n4_; (try clear hb); (try clear hb2); (try clear hk); (try clear hi); (try clear ho0); obtain ⟨Ao49, co49, eo49⟩ := Kd.R_slice HO308.out; subst eo49; obtain ⟨Ao50, co50, eo50⟩ := Kd.R_slice HO314.out; subst eo50) | ((with_reducible refine gate_callee (f := 11) rfl ?_); refine goesL_ (some 69) rfl rfl Tryd.func11 (by kernel_rfl) rfl #[.slice Ao49 t306.length co49, .slice Ao50 t312.length co50] rfl (by (try simp only [List.map_toArray, List.map_cons, List.map_nil]); first | done | rfl | (simp only [List.length_drop, List.length_take]; rfl)) ?_; (with_reducible refine (tollhouseref05_Same.calls kj7 _ _ t306 _ _ t312 true _ ?side1 ?side2 ?side3 ?side4 A44.out).mono ?_); (case side1 => repeat (first | exact (Kd.R_reads' HO308.out).2.2 | (with_reducible refine Kd.C_alloc ?_ _) | (with_reducible refine Kd.C_drewN ?_ _) | (with_reducible refine Kd.C_drew ?_))); (case side2 => exact (Kd.R_reads' HO308.out).2.1); (case side3 => repeat (first | exact (Kd.R_reads' HO314.out).2.2 | (with_reducible refine Kd.C_alloc ?_ _) | (with_reducible refine Kd.C_drewN ?_ _) | (with_reducible refine Kd.C_drew ?_))); (case side4 => exact (Kd.R_reads' HO314.out).2.1); rintro e w' ⟨rfl, ⟨nd, rfl⟩⟩; refine ⟨_, rfl, ?_⟩) | (go_at_call 24; (with_reducible refine (tollhouseref05_With.calls kj7 _ _ l0 a1 a2 t316 _ ?side1 ?side2 A46.out).mono ?_); (case side1 => repeat (first | exact (Kd.C_below HR0.out (by repeat (first | (with_reducible first | exact HB.out | apply below_alloc | apply pw_below_drewN | apply below_drew1) | exact HB.out))) | (with_reducible refine Kd.C_alloc ?_ _) | (with_reducible refine Kd.C_drewN ?_ _) | (with_reducible refine Kd.C_drew ?_))); (case side2 => exact HC0.out); rintro e w51 ⟨v317, rfl, ho0, hb⟩; have n0_ := Aside0.mk (Kd.R_elder' (by (with_reducible repeat (first | apply Kd.R_alloc | apply Kd.R_drewN | apply Kd.R_drew)); exact HO_9.out) (Kd.R_base ho0) hb); have n1_ := Aside0.mk (Kd.R_elder' (by (with_reducible repeat (first | apply Kd.R_alloc | apply Kd.R_drewN | apply Kd.R_drew)); exact HO308.out) (Kd.R_base ho0) hb); have n2_ := Aside0.mk (Kd.R_elder' (by (with_reducible repeat (first | apply Kd.R_alloc | apply Kd.R_drewN | apply Kd.R_drew)); exact HO311.out) (Kd.R_base ho0) hb); have n3_ := Aside0.mk (Kd.R_elder' (by (with_reducible repeat (first | apply Kd.R_alloc | apply Kd.R_drewN | apply Kd.R_drew)); exact HO314.out) (Kd.R_base ho0) hb); have n4_ := Aside0.mk (Kd.R_lower (Kd.R_new' (Kd.R_new' (Kd.R_new' (Kd.R_new' ho0 (Kd.R_lt (by (with_reducible repeat (first | apply Kd.R_alloc | apply Kd.R_drewN | apply Kd.R_drew)); exact HO_9.out))) (Kd.R_lt (by (with_reducible repeat (first | apply Kd.R_alloc | apply Kd.R_drewN | apply Kd.R_drew)); exact HO308.out))) (Kd.R_lt (by (with_reducible repeat (first | apply Kd.R_alloc | apply Kd.R_drewN | apply Kd.R_drew)); exact HO311.out))) (Kd.R_lt (by (with_reducible repeat (first | apply Kd.R_alloc | apply Kd.R_drewN | apply Kd.R_drew)); exact HO314.out))) (below_size (by repeat (first | (with_reducible first | exact HB.out | apply below_alloc | apply pw_below_drewN | apply below_drew1) | exact HB.out)))); have n5_ := Aside0.mk (below_step (by repeat (first | (with_reducible first | exact HB.out | apply below_alloc | apply pw_below_drewN | apply below_drew1) | exact HB.out)) hb); clear HO_9; clear HO308; clear HO311; clear HO314; clear HB; have HO_9 := n0_; have HO308 := n1_; have HO311 := n2_; have HO314 := n3_; have HO318 := n4_; have HB := n5_; clear n0_ n1_ n2_ n3_ n4_ n5_; (try clear hb); (try clear hb2); (try clear hk); (try clear hi); (try clear ho0); obtain ⟨Ao52, co52, eo52⟩ := Kd.R_slice HO311.out; subst eo52; obtain ⟨Ao53, co53, eo53⟩ := Kd.R_slice HO318.out; subst eo53) | (go_at_call 11; (with_reducible refine (tollhouseref05_Same.calls kj7 _ _ t309 _ _ t316 t319 _ ?side1 ?side2 ?side3 ?side4 A47.out).mono ?_); (case side1 => repeat (first | exact (Kd.R_reads' HO311.out).2.2 | (with_reducible refine Kd.C_alloc ?_ _) | (with_reducible refine Kd.C_drewN ?_ _) | (with_reducible refine Kd.C_drew ?_))); (case side2 => exact (Kd.R_reads' HO311.out).2.1); (case side3 => repeat (first | exact (Kd.R_reads' HO318.out).2.2 | (with_reducible refine Kd.C_alloc ?_ _) | (with_reducible refine Kd.C_drewN ?_ _) | (with_reducible refine Kd.C_drew ?_))); (case side4 => exact (Kd.R_reads' HO318.out).2.1); rintro e w' ⟨rfl, ⟨nd, rfl⟩⟩))
            go_meet
            case rel => exact ⟨_, (t319), (by first | rfl | (simp; done) | (simp [*]; done)), H', ⟨by have := HJ7.out; first | omega | exact Nat.le_refl _⟩, ⟨by (with_reducible repeat (first | apply Kd.R_alloc | apply Kd.R_drewN | apply Kd.R_drew)); exact Kd.R_mono HO_9.out (fun _ hk => ⟨hk.1.1.1.2, hk.1.1.2⟩)⟩, ⟨by (with_reducible repeat (first | apply Kd.R_alloc | apply Kd.R_drewN | apply Kd.R_drew)); exact Kd.R_mono HO308.out (fun _ hk => ⟨hk.1.1.1.2, hk.1.1.2⟩)⟩, ⟨by (with_reducible repeat (first | apply Kd.R_alloc | apply Kd.R_drewN | apply Kd.R_drew)); exact Kd.R_mono HO311.out (fun _ hk => ⟨hk.1.1.1.2, hk.1.1.2⟩)⟩, ⟨by repeat (first | (with_reducible first | exact HB.out | apply below_alloc | apply pw_below_drewN | apply below_drew1) | exact HB.out)⟩⟩
          · replace c45 := Bool.eq_false_iff.mpr c45
            subst c45
            have H1 : (tollhouselaw05_HeadFields.j1 kj7 l0 t286 t306 t309 false) = some r := by rw [if_neg (show ¬ (false = true) by decide)] at H; exact H
            clear H
            have H := H1
            clear H1
            have H' := Aside0.mk H
            clear H
            go_wp2_with (first | ((with_reducible refine gate_callee (f := 23) rfl ?_); refine goesL_ (some 68) rfl rfl Tryd.func23 (by kernel_rfl) rfl #[.slice A0 l0.length c0, .slice A3 l3.length c3] rfl (by (try simp only [List.map_toArray, List.map_cons, List.map_nil]); first | done | rfl | (simp only [List.length_drop, List.length_take]; rfl)) ?_; (with_reducible refine (tollhouseref05_Drop.calls kj7 _ _ l0 _ _ l3 t312 _ ?side1 ?side2 ?side3 ?side4 A43.out).mono ?_); (case side1 => repeat (first | exact (Kd.C_below HR0.out HB.out) | (with_reducible refine Kd.C_alloc ?_ _) | (with_reducible refine Kd.C_drewN ?_ _) | (with_reducible refine Kd.C_drew ?_))); (case side2 => exact HC0.out); (case side3 => repeat (first | exact (Kd.C_below HR3.out HB.out) | (with_reducible refine Kd.C_alloc ?_ _) | (with_reducible refine Kd.C_drewN ?_ _) | (with_reducible refine Kd.C_drew ?_))); (case side4 => exact HC3.out); rintro e w54 ⟨v313, rfl, ho0, hb⟩; refine ⟨_, rfl, ?_⟩; have n0_ := Aside0.mk (Kd.R_elder' (by (with_reducible repeat (first | apply Kd.R_alloc | apply Kd.R_drewN | apply Kd.R_drew)); exact HO_9.out) (Kd.R_base ho0) hb); have n1_ := Aside0.mk (Kd.R_elder' (by (with_reducible repeat (first | apply Kd.R_alloc | apply Kd.R_drewN | apply Kd.R_drew)); exact HO308.out) (Kd.R_base ho0) hb); have n2_ := Aside0.mk (Kd.R_elder' (by (with_reducible repeat (first | apply Kd.R_alloc | apply Kd.R_drewN | apply Kd.R_drew)); exact HO311.out) (Kd.R_base ho0) hb); have n3_ := Aside0.mk (Kd.R_lower (Kd.R_new' (Kd.R_new' (Kd.R_new' ho0 (Kd.R_lt (by (with_reducible repeat (first | apply Kd.R_alloc | apply Kd.R_drewN | apply Kd.R_drew)); exact HO_9.out))) (Kd.R_lt (by (with_reducible repeat (first | apply Kd.R_alloc | apply Kd.R_drewN | apply Kd.R_drew)); exact HO308.out))) (Kd.R_lt (by (with_reducible repeat (first | apply Kd.R_alloc | apply Kd.R_drewN | apply Kd.R_drew)); exact HO311.out))) (below_size (by repeat (first | (with_reducible first | exact HB.out | apply below_alloc | apply pw_below_drewN | apply below_drew1) | exact HB.out)))); have n4_ := Aside0.mk (below_step (by repeat (first | (with_reducible first | exact HB.out | apply below_alloc | apply pw_below_drewN | apply below_drew1) | exact HB.out)) hb); clear HO_9; clear HO308; clear HO311; clear HB; have HO_9 := n0_; have HO308 := n1_; have HO311 := n2_; have HO314 := n3_; have HB := n4_; clear n0_ n1_ n2_ n3_ n4_; (try clear hb); (try clear hb2); (try clear hk); (try clear hi); (try clear ho0); obtain ⟨Ao55, co55, eo55⟩ := Kd.R_slice HO308.out; subst eo55; obtain ⟨Ao56, co56, eo56⟩ := Kd.R_slice HO314.out; subst eo56) | ((with_reducible refine gate_callee (f := 11) rfl ?_); refine goesL_ (some 69) rfl rfl Tryd.func11 (by kernel_rfl) rfl #[.slice Ao55 t306.length co55, .slice Ao56 t312.length co56] rfl (by (try simp only [List.map_toArray, List.map_cons, List.map_nil]); first | done | rfl | (simp only [List.length_drop, List.length_take]; rfl)) ?_; (with_reducible refine (tollhouseref05_Same.calls kj7 _ _ t306 _ _ t312 false _ ?side1 ?side2 ?side3 ?side4 A44.out).mono ?_); (case side1 => repeat (first | exact (Kd.R_reads' HO308.out).2.2 | (with_reducible refine Kd.C_alloc ?_ _) | (with_reducible refine Kd.C_drewN ?_ _) | (with_reducible refine Kd.C_drew ?_))); (case side2 => exact (Kd.R_reads' HO308.out).2.1); (case side3 => repeat (first | exact (Kd.R_reads' HO314.out).2.2 | (with_reducible refine Kd.C_alloc ?_ _) | (with_reducible refine Kd.C_drewN ?_ _) | (with_reducible refine Kd.C_drew ?_))); (case side4 => exact (Kd.R_reads' HO314.out).2.1); rintro e w' ⟨rfl, ⟨nd, rfl⟩⟩; refine ⟨_, rfl, ?_⟩))
            go_meet
            case rel => exact ⟨_, (false), (by first | rfl | (simp; done) | (simp [*]; done)), H', ⟨by have := HJ7.out; first | omega | exact Nat.le_refl _⟩, ⟨by (with_reducible repeat (first | apply Kd.R_alloc | apply Kd.R_drewN | apply Kd.R_drew)); exact Kd.R_mono HO_9.out (fun _ hk => ⟨hk.1.1.2, hk.1.2⟩)⟩, ⟨by (with_reducible repeat (first | apply Kd.R_alloc | apply Kd.R_drewN | apply Kd.R_drew)); exact Kd.R_mono HO308.out (fun _ hk => ⟨hk.1.1.2, hk.1.2⟩)⟩, ⟨by (with_reducible repeat (first | apply Kd.R_alloc | apply Kd.R_drewN | apply Kd.R_drew)); exact Kd.R_mono HO311.out (fun _ hk => ⟨hk.1.1.2, hk.1.2⟩)⟩, ⟨by repeat (first | (with_reducible first | exact HB.out | apply below_alloc | apply pw_below_drewN | apply below_drew1) | exact HB.out)⟩⟩
        case rest =>
          clear HC40
          try clear c1
          try clear hcv1
          try clear c2
          try clear p2
          try clear hcv2
          try clear c3
          try clear hcv3
          try clear c4
          try clear c11
          try clear c13
          try clear c13b0
          try clear c13b1
          try clear c14
          try clear c14b0
          try clear c14b1
          try clear c15
          try clear c17
          try clear c17b0
          try clear c17b1
          try clear c17b2
          try clear hcv18
          try clear hcv19
          try clear c21
          try clear c22
          try clear c23
          try clear hcv25
          try clear hcv26
          try clear hcv33
          try clear hcv34
          try clear hcv35
          try clear hcv36
          try clear c37
          try clear c45
          try clear p2
          obtain ⟨kq, x16_39, rfl, HA, HJ39, HO_9, HO_14, HO_15, HB⟩ := hcut
          cases kq with
          | zero => exact absurd HA.out (by simp [tollhouselaw05_HeadFields.j1])
          | succ kj39 =>
            have H := HA.out
            clear HA
            simp only [tollhouselaw05_HeadFields.j1] at H
            have H' := Aside0.mk H
            clear H
            go_wp2
            go_loopg [17] kj39 (fun kq v17 w' => ∃ (x14_3 : List (S45)) (x17_3 : Int), v17 = .int .i64 x17_3 ∧ Aside0 (tollhouselaw05_HeadFields.l0 kq l0 t286 x14_3 t309 x16_39 x17_3 = some r) ∧ Aside0 (kq ≤ kj39) ∧ Aside0 (Kd.R k45 45 w' w.heap.size (fun k_ => some k_ ≠ (v307 : Value).ownBlock ∧ some k_ ≠ (v310 : Value).ownBlock) (.slice Ao10 t286.length co10) t286) ∧ Aside0 (Kd.R k45 45 w' w.heap.size (fun k_ => some k_ ≠ ((.slice Ao10 t286.length co10) : Value).ownBlock ∧ some k_ ≠ (v310 : Value).ownBlock) v307 x14_3) ∧ Aside0 (Kd.R k45 45 w' w.heap.size (fun k_ => some k_ ≠ ((.slice Ao10 t286.length co10) : Value).ownBlock ∧ some k_ ≠ (v307 : Value).ownBlock) v310 t309) ∧ Aside0 (Below w.heap.size w w'))
            case atStart => exact ⟨(t306), (0), (by first | rfl | (simp; done) | (simp [*]; done)), H', ⟨Nat.le_refl _⟩, ⟨by (with_reducible repeat (first | apply Kd.R_alloc | apply Kd.R_drewN | apply Kd.R_drew)); exact HO_9.out⟩, ⟨by (with_reducible repeat (first | apply Kd.R_alloc | apply Kd.R_drewN | apply Kd.R_drew)); exact HO_14.out⟩, ⟨by (with_reducible repeat (first | apply Kd.R_alloc | apply Kd.R_drewN | apply Kd.R_drew)); exact HO_15.out⟩, ⟨by repeat (first | (with_reducible first | exact HB.out | apply below_alloc | apply pw_below_drewN | apply below_drew1) | exact HB.out)⟩⟩
            case round =>
              clear H'
              try clear c1
              try clear hcv1
              try clear c2
              try clear p2
              try clear hcv2
              try clear c3
              try clear hcv3
              try clear c4
              try clear c11
              try clear c13
              try clear c13b0
              try clear c13b1
              try clear c14
              try clear c14b0
              try clear c14b1
              try clear c15
              try clear c17
              try clear c17b0
              try clear c17b1
              try clear c17b2
              try clear hcv18
              try clear hcv19
              try clear c21
              try clear c22
              try clear c23
              try clear hcv25
              try clear hcv26
              try clear hcv33
              try clear hcv34
              try clear hcv35
              try clear hcv36
              try clear c37
              try clear c45
              try clear p2
              obtain ⟨x14_3, x17_3, rfl, HA, HK3, HO_9, HO_14, HO_15, HB⟩ := hrel
              cases gk with
              | zero => exact absurd HA.out (by simp [tollhouselaw05_HeadFields.l0])
              | succ k3 =>
                have H := HA.out
                clear HA
                simp only [tollhouselaw05_HeadFields.l0] at H
                by_cases c57 : x17_3 < (x14_3.length : Int)
                · rw [if_pos c57] at H
                  have c57b0 : decide (x17_3 < (x14_3.length : Int)) = true := decide_eq_true c57
                  clear c57
                  by_cases c58 : 0 ≤ x17_3
                  · rw [if_pos c58] at H
                    have c58b0 : decide (0 ≤ x17_3) = true := decide_eq_true c58
                    clear c58
                    obtain ⟨y320, hy320⟩ : ∃ y_ : List (S45), y_ = (x14_3.set (x17_3 : Int).toNat (⟨(rd_T45 x14_3 x17_3).f0, (⟨#[120]⟩ : ByteArray)⟩ : S45)) := ⟨_, rfl⟩
                    replace H : (tollhouselaw05_HeadFields.l0 k3 l0 t286 y320 t309 x16_39 (wrap64 (x17_3 + 1))) = some r := by first | (rw [hy320]; with_reducible exact H) | (have H2_ := (Option.bind_some _ _).symm.trans H; rw [hy320]; with_reducible exact H2_) | (have H2_ := (Option.bind_some _ _).symm.trans H; with_reducible exact H2_) | with_reducible exact H | (rw [hy320]; exact H) | exact H
                    have Ny320 := Aside0.mk hy320
                    clear hy320
                    have H' := Aside0.mk H
                    clear H
                    obtain ⟨Ao60, co60, eo60⟩ := Kd.R_slice HO_14.out
                    subst eo60
                    have p59 : 0 ≤ (x17_3 : Int) := of_decide_eq_true (by first | (with_reducible assumption) | assumption)
                    have q59 : (x17_3 : Int) < ((x14_3.length : Int) : Int) := of_decide_eq_true (by first | (with_reducible assumption) | assumption)
                    obtain ⟨go59, co59, eo59, gb59, gl59, cl59, HG59⟩ := Kd.R_form HO_14.out (by omega)
                    (first | cases eo59 | (injection eo59 with ea_ en_ ec_; (first | subst ea_ | (injection ea_ with ea_; subst ea_)); subst ec_; clear en_))
                    have GB59 := Aside0.mk gb59
                    have GG59 := Aside0.mk HG59
                    clear gb59 gl59 HG59
                    obtain ⟨ce59, hcl59, hM59, hcc59, hfr59⟩ := Kd.R_elem HO_14.out z45 (x17_3 : Int) p59 q59
                    obtain rfl := k45_openM hM59
                    have hx59_0 : wr.cell? ⟨go59, (x17_3 : Int).toNat * 2, none⟩ = some (.string ((rd_T45 x14_3 x17_3).f0)) := hcc59 0 _ rfl
                    have hx59_1 : wr.cell? ⟨go59, (x17_3 : Int).toNat * 2 + 1, none⟩ = some (.string ((rd_T45 x14_3 x17_3).f1)) := hcc59 1 _ rfl
                    have hf59_0 : wr.frozen? ⟨go59, (x17_3 : Int).toNat * 2, none⟩ = false := hfr59 0
                    have hf59_1 : wr.frozen? ⟨go59, (x17_3 : Int).toNat * 2 + 1, none⟩ = false := hfr59 1
                    clear hcl59 hcc59 hfr59 hM59
                    replace p59 := eq_true p59
                    replace q59 := eq_true q59
                    have HX61 := Aside0.mk (show Kd.R k45 45 wr w.heap.size (fun k_ => some k_ ≠ (.slice Ao10 t286.length co10 : Value).ownBlock ∧ some k_ ≠ (v310 : Value).ownBlock) (.slice (some ⟨go59, 0, none⟩) x14_3.length co60) x14_3 from (by (with_reducible repeat (first | apply Kd.R_alloc | apply Kd.R_drewN | apply Kd.R_drew)); exact HO_14.out))
                    obtain ⟨ce61, hcl61, hM61, hcc61, hfr61⟩ := Kd.R_elem HX61.out z45 (x17_3 : Int) (of_decide_eq_true (by first | (with_reducible assumption) | assumption)) (by have h_ : (x17_3 : Int) < ((x14_3.length : Int) : Int) := of_decide_eq_true (by first | (with_reducible assumption) | assumption); first | exact h_ | (have e_ := (Kd.R_reads' HO_14.out).1; omega) | simpa using h_)
                    obtain rfl := k45_openM hM61
                    have HP61 := Kd.R_seg HX61.out (x17_3 : Int) (of_decide_eq_true (by first | (with_reducible assumption) | assumption)) (by have h_ : (x17_3 : Int) < ((x14_3.length : Int) : Int) := of_decide_eq_true (by first | (with_reducible assumption) | assumption); first | exact h_ | (have e_ := (Kd.R_reads' HO_14.out).1; omega) | simpa using h_) (seg := [.string (⟨#[120]⟩ : ByteArray)]) (j := 1) hcl61 hcc61 (show 2 ≤ 2 from by decide) (x' := (⟨(rd_T45 x14_3 x17_3).f0, (⟨#[120]⟩ : ByteArray)⟩ : S45)) (k45_mkM _ _ _ (⟨(rd_T45 x14_3 x17_3).f0, (⟨#[120]⟩ : ByteArray)⟩ : S45) ) (fun _ hk => hk)
                    have hx61_1 := hcc61 1 _ rfl
                    (try simp only [show (k45).sz = 2 from rfl, Nat.mul_one, Nat.add_zero] at hx61_1)
                    have hf61_1 := hfr61 1
                    (try simp only [show (k45).sz = 2 from rfl, Nat.mul_one, Nat.add_zero] at hf61_1)
                    clear hcl61 hcc61 hfr61 hM61
                    go_wp2_with (first | ((with_reducible refine gate_store (t := 9) (p := 87) rfl ?_); refine store_event (t := 9) (p := 87) (v := ?vo_w62) (w1 := (wr.setCell ⟨go59, (x17_3 : Int).toNat * 2 + 1, none⟩ (.string (⟨#[120]⟩ : ByteArray)))) ?hg ?ho ?hn ?hr ?_; (case ho => rfl); (case hg => rfl); (case hn => rfl); (case hr => first | (go_simp; done) | (go_simp; rfl)); intro w62 hw; have hg : wr.grownBy w62 (some go59) := (by rw [hw]; exact HP61.2); have hp_ : Kd.R k45 45 w62 w.heap.size (fun k_ => some k_ ≠ (.slice Ao10 t286.length co10 : Value).ownBlock ∧ some k_ ≠ (v310 : Value).ownBlock) (.slice (some ⟨go59, 0, none⟩) x14_3.length co60) y320 := (by rw [hw, Ny320.out]; exact HP61.1); clear HP61; have n0_ := Aside0.mk (Kd.R_after (v := (.slice (some ⟨go59, 0, none⟩) x14_3.length co60)) (v1 := (.slice (some ⟨go59, 0, none⟩) x14_3.length co60)) (ok := (fun k_ => some k_ ≠ (v310 : Value).ownBlock)) (by (with_reducible repeat (first | apply Kd.R_alloc | apply Kd.R_drewN | apply Kd.R_drew)); exact Kd.R_mono HO_9.out (fun _ hk => ⟨hk.2, hk.1⟩)) hg (.inl rfl)); have n1_ := Aside0.mk (hp_); have n2_ := Aside0.mk (Kd.R_after (v := (.slice (some ⟨go59, 0, none⟩) x14_3.length co60)) (v1 := (.slice (some ⟨go59, 0, none⟩) x14_3.length co60)) (ok := (fun k_ => some k_ ≠ (.slice Ao10 t286.length co10 : Value).ownBlock)) (by (with_reducible repeat (first | apply Kd.R_alloc | apply Kd.R_drewN | apply Kd.R_drew)); exact HO_15.out) hg (.inl rfl)); have n3_ := Aside0.mk ((by rw [hw]; exact below_set (HB.out) GB59.out : Below w.heap.size w w62)); clear HO_9; clear HO_14; clear HO_15; clear HB; have HO_9 := n0_; have HO_14 := n1_; have HO_15 := n2_; have HB := n3_; clear n0_ n1_ n2_ n3_; clear hg hw hp_))
                    go_roundg k3
                    case measure => have := HJ7.out; have := HJ39.out; have := HK3.out; omega
                    case rel => exact ⟨(y320), (wrap64 (x17_3 + 1)), (by first | rfl | (simp; done) | (simp [*]; done)), H', ⟨by have := HJ7.out; have := HJ39.out; have := HK3.out; omega⟩, ⟨by (with_reducible repeat (first | apply Kd.R_alloc | apply Kd.R_drewN | apply Kd.R_drew)); exact Kd.R_mono HO_9.out (fun _ hk => ⟨hk.2, hk.1⟩)⟩, ⟨by (with_reducible repeat (first | apply Kd.R_alloc | apply Kd.R_drewN | apply Kd.R_drew)); exact HO_14.out⟩, ⟨by (with_reducible repeat (first | apply Kd.R_alloc | apply Kd.R_drewN | apply Kd.R_drew)); exact HO_15.out⟩, ⟨by repeat (first | (with_reducible first | exact HB.out | apply below_alloc | apply pw_below_drewN | apply below_drew1) | exact HB.out)⟩⟩
                  · rw [if_neg c58] at H
                    exact absurd H (by simp)
                · rw [if_neg c57] at H
                  have c57b0 : decide (x17_3 < (x14_3.length : Int)) = false := decide_eq_false c57
                  clear c57
                  have H' := Aside0.mk H
                  clear H
                  obtain ⟨Ao63, co63, eo63⟩ := Kd.R_slice HO_14.out
                  subst eo63
                  go_wp2
                  go_loopg [18] k3 (fun kq v18 w' => ∃ (x15_4 : List (S45)) (x18_4 : Int), v18 = .int .i64 x18_4 ∧ Aside0 (tollhouselaw05_HeadFields.l1 kq l0 t286 x15_4 x16_39 x18_4 = some r) ∧ Aside0 (kq ≤ k3) ∧ Aside0 (Kd.R k45 45 w' w.heap.size (fun k_ => some k_ ≠ (v310 : Value).ownBlock) (.slice Ao10 t286.length co10) t286) ∧ Aside0 (Kd.R k45 45 w' w.heap.size (fun k_ => some k_ ≠ ((.slice Ao10 t286.length co10) : Value).ownBlock) v310 x15_4) ∧ Aside0 (Below w.heap.size w w'))
                  case atStart => exact ⟨(t309), (0), (by first | rfl | (simp; done) | (simp [*]; done)), H', ⟨Nat.le_refl _⟩, ⟨by (with_reducible repeat (first | apply Kd.R_alloc | apply Kd.R_drewN | apply Kd.R_drew)); exact Kd.R_mono HO_9.out (fun _ hk => hk.2)⟩, ⟨by (with_reducible repeat (first | apply Kd.R_alloc | apply Kd.R_drewN | apply Kd.R_drew)); exact Kd.R_mono HO_15.out (fun _ hk => hk.1)⟩, ⟨by repeat (first | (with_reducible first | exact HB.out | apply below_alloc | apply pw_below_drewN | apply below_drew1) | exact HB.out)⟩⟩
                  case round =>
                    clear H'
                    try clear c1
                    try clear hcv1
                    try clear c2
                    try clear p2
                    try clear hcv2
                    try clear c3
                    try clear hcv3
                    try clear c4
                    try clear c5
                    try clear p5
                    try clear q5
                    try clear hx5
                    try clear hf5
                    try clear c6
                    try clear p6
                    try clear hx6
                    try clear hf6
                    try clear c11
                    try clear c13
                    try clear c13b0
                    try clear c13b1
                    try clear c14
                    try clear c14b0
                    try clear c14b1
                    try clear c15
                    try clear c17
                    try clear c17b0
                    try clear c17b1
                    try clear c17b2
                    try clear hcv18
                    try clear hcv19
                    try clear c21
                    try clear c22
                    try clear c23
                    try clear hcv25
                    try clear hcv26
                    try clear hcv33
                    try clear hcv34
                    try clear hcv35
                    try clear hcv36
                    try clear c37
                    try clear c45
                    try clear c57
                    try clear c57b0
                    try clear c58
                    try clear c58b0
                    try clear c59
                    try clear p59
                    try clear q59
                    try clear hx59
                    try clear hf59
                    try clear c61
                    try clear hx61
                    try clear hf61
                    try clear hx59_0
                    try clear hx59_1
                    try clear hx61_1
                    try clear p2
                    try clear p59
                    try clear q59
                    obtain ⟨x15_4, x18_4, rfl, HA, HK4, HO_9, HO_15, HB⟩ := hrel
                    cases gk with
                    | zero => exact absurd HA.out (by simp [tollhouselaw05_HeadFields.l1])
                    | succ k4 =>
                      have H := HA.out
                      clear HA
                      simp only [tollhouselaw05_HeadFields.l1] at H
                      by_cases c64 : x18_4 < (x15_4.length : Int)
                      · rw [if_pos c64] at H
                        have c64b0 : decide (x18_4 < (x15_4.length : Int)) = true := decide_eq_true c64
                        clear c64
                        by_cases c65 : 0 ≤ x18_4
                        · rw [if_pos c65] at H
                          have c65b0 : decide (0 ≤ x18_4) = true := decide_eq_true c65
                          clear c65
                          obtain ⟨y321, hy321⟩ : ∃ y_ : List (S45), y_ = (x15_4.set (x18_4 : Int).toNat (⟨(rd_T45 x15_4 x18_4).f0, (⟨#[120]⟩ : ByteArray)⟩ : S45)) := ⟨_, rfl⟩
                          replace H : (tollhouselaw05_HeadFields.l1 k4 l0 t286 y321 x16_39 (wrap64 (x18_4 + 1))) = some r := by first | (rw [hy321]; with_reducible exact H) | (have H2_ := (Option.bind_some _ _).symm.trans H; rw [hy321]; with_reducible exact H2_) | (have H2_ := (Option.bind_some _ _).symm.trans H; with_reducible exact H2_) | with_reducible exact H | (rw [hy321]; exact H) | exact H
                          have Ny321 := Aside0.mk hy321
                          clear hy321
                          have H' := Aside0.mk H
                          clear H
                          obtain ⟨Ao67, co67, eo67⟩ := Kd.R_slice HO_15.out
                          subst eo67
                          have p66 : 0 ≤ (x18_4 : Int) := of_decide_eq_true (by first | (with_reducible assumption) | assumption)
                          have q66 : (x18_4 : Int) < ((x15_4.length : Int) : Int) := of_decide_eq_true (by first | (with_reducible assumption) | assumption)
                          obtain ⟨go66, co66, eo66, gb66, gl66, cl66, HG66⟩ := Kd.R_form HO_15.out (by omega)
                          (first | cases eo66 | (injection eo66 with ea_ en_ ec_; (first | subst ea_ | (injection ea_ with ea_; subst ea_)); subst ec_; clear en_))
                          have GB66 := Aside0.mk gb66
                          have GG66 := Aside0.mk HG66
                          clear gb66 gl66 HG66
                          obtain ⟨ce66, hcl66, hM66, hcc66, hfr66⟩ := Kd.R_elem HO_15.out z45 (x18_4 : Int) p66 q66
                          obtain rfl := k45_openM hM66
                          have hx66_0 : wr.cell? ⟨go66, (x18_4 : Int).toNat * 2, none⟩ = some (.string ((rd_T45 x15_4 x18_4).f0)) := hcc66 0 _ rfl
                          have hx66_1 : wr.cell? ⟨go66, (x18_4 : Int).toNat * 2 + 1, none⟩ = some (.string ((rd_T45 x15_4 x18_4).f1)) := hcc66 1 _ rfl
                          have hf66_0 : wr.frozen? ⟨go66, (x18_4 : Int).toNat * 2, none⟩ = false := hfr66 0
                          have hf66_1 : wr.frozen? ⟨go66, (x18_4 : Int).toNat * 2 + 1, none⟩ = false := hfr66 1
                          clear hcl66 hcc66 hfr66 hM66
                          replace p66 := eq_true p66
                          replace q66 := eq_true q66
                          have HX68 := Aside0.mk (show Kd.R k45 45 wr w.heap.size (fun k_ => some k_ ≠ (.slice Ao10 t286.length co10 : Value).ownBlock) (.slice (some ⟨go66, 0, none⟩) x15_4.length co67) x15_4 from (by (with_reducible repeat (first | apply Kd.R_alloc | apply Kd.R_drewN | apply Kd.R_drew)); exact HO_15.out))
                          obtain ⟨ce68, hcl68, hM68, hcc68, hfr68⟩ := Kd.R_elem HX68.out z45 (x18_4 : Int) (of_decide_eq_true (by first | (with_reducible assumption) | assumption)) (by have h_ : (x18_4 : Int) < ((x15_4.length : Int) : Int) := of_decide_eq_true (by first | (with_reducible assumption) | assumption); first | exact h_ | (have e_ := (Kd.R_reads' HO_15.out).1; omega) | simpa using h_)
                          obtain rfl := k45_openM hM68
                          have HP68 := Kd.R_seg HX68.out (x18_4 : Int) (of_decide_eq_true (by first | (with_reducible assumption) | assumption)) (by have h_ : (x18_4 : Int) < ((x15_4.length : Int) : Int) := of_decide_eq_true (by first | (with_reducible assumption) | assumption); first | exact h_ | (have e_ := (Kd.R_reads' HO_15.out).1; omega) | simpa using h_) (seg := [.string (⟨#[120]⟩ : ByteArray)]) (j := 1) hcl68 hcc68 (show 2 ≤ 2 from by decide) (x' := (⟨(rd_T45 x15_4 x18_4).f0, (⟨#[120]⟩ : ByteArray)⟩ : S45)) (k45_mkM _ _ _ (⟨(rd_T45 x15_4 x18_4).f0, (⟨#[120]⟩ : ByteArray)⟩ : S45) ) (fun _ hk => hk)
                          have hx68_1 := hcc68 1 _ rfl
                          (try simp only [show (k45).sz = 2 from rfl, Nat.mul_one, Nat.add_zero] at hx68_1)
                          have hf68_1 := hfr68 1
                          (try simp only [show (k45).sz = 2 from rfl, Nat.mul_one, Nat.add_zero] at hf68_1)
                          clear hcl68 hcc68 hfr68 hM68
                          go_wp2_with (first | ((with_reducible refine gate_store (t := 9) (p := 97) rfl ?_); refine store_event (t := 9) (p := 97) (v := ?vo_w69) (w1 := (wr.setCell ⟨go66, (x18_4 : Int).toNat * 2 + 1, none⟩ (.string (⟨#[120]⟩ : ByteArray)))) ?hg ?ho ?hn ?hr ?_; (case ho => rfl); (case hg => rfl); (case hn => rfl); (case hr => first | (go_simp; done) | (go_simp; rfl)); intro w69 hw; have hg : wr.grownBy w69 (some go66) := (by rw [hw]; exact HP68.2); have hp_ : Kd.R k45 45 w69 w.heap.size (fun k_ => some k_ ≠ (.slice Ao10 t286.length co10 : Value).ownBlock) (.slice (some ⟨go66, 0, none⟩) x15_4.length co67) y321 := (by rw [hw, Ny321.out]; exact HP68.1); clear HP68; have n0_ := Aside0.mk (Kd.R_after (v := (.slice (some ⟨go66, 0, none⟩) x15_4.length co67)) (v1 := (.slice (some ⟨go66, 0, none⟩) x15_4.length co67)) (ok := (fun _ => True)) (by (with_reducible repeat (first | apply Kd.R_alloc | apply Kd.R_drewN | apply Kd.R_drew)); exact Kd.R_mono HO_9.out (fun _ hk => ⟨trivial, hk⟩)) hg (.inl rfl)); have n1_ := Aside0.mk (hp_); have n2_ := Aside0.mk ((by rw [hw]; exact below_set (HB.out) GB66.out : Below w.heap.size w w69)); clear HO_9; clear HO_15; clear HB; have HO_9 := n0_; have HO_15 := n1_; have HB := n2_; clear n0_ n1_ n2_; clear hg hw hp_))
                          go_roundg k4
                          case measure => have := HJ7.out; have := HJ39.out; have := HK3.out; have := HK4.out; omega
                          case rel => exact ⟨(y321), (wrap64 (x18_4 + 1)), (by first | rfl | (simp; done) | (simp [*]; done)), H', ⟨by have := HJ7.out; have := HJ39.out; have := HK3.out; have := HK4.out; omega⟩, ⟨by (with_reducible repeat (first | apply Kd.R_alloc | apply Kd.R_drewN | apply Kd.R_drew)); exact Kd.R_mono HO_9.out (fun _ hk => hk.2)⟩, ⟨by (with_reducible repeat (first | apply Kd.R_alloc | apply Kd.R_drewN | apply Kd.R_drew)); exact HO_15.out⟩, ⟨by repeat (first | (with_reducible first | exact HB.out | apply below_alloc | apply pw_below_drewN | apply below_drew1) | exact HB.out)⟩⟩
                        · rw [if_neg c65] at H
                          exact absurd H (by simp)
                      · rw [if_neg c64] at H
                        have c64b0 : decide (x18_4 < (x15_4.length : Int)) = false := decide_eq_false c64
                        clear c64
                        by_cases c70 : x16_39 = true
                        · subst c70
                          have H1 : ((tollhouseref05_Same.f k4 t286 l0).bind fun t322 => (if t322 = true then ((tollhouselaw05_wakes.f k4).bind fun t323 => (some t323)) else (some false))) = some r := by rw [if_pos rfl] at H; exact H
                          clear H
                          have H := H1
                          clear H1
                          replace H := Option.bind_eq_some_iff.mp H
                          obtain ⟨t322, A710, H⟩ := H
                          replace H : (if t322 = true then ((tollhouselaw05_wakes.f k4).bind fun t323 => (some t323)) else (some false)) = some r := H
                          have A71 := Aside0.mk A710
                          clear A710
                          by_cases c72 : t322 = true
                          · subst c72
                            have H1 : ((tollhouselaw05_wakes.f k4).bind fun t323 => (some t323)) = some r := by rw [if_pos rfl] at H; exact H
                            clear H
                            have H := H1
                            clear H1
                            replace H := Option.bind_eq_some_iff.mp H
                            obtain ⟨t323, A730, H⟩ := H
                            replace H : (some t323) = some r := H
                            have A73 := Aside0.mk A730
                            clear A730
                            obtain rfl := Option.some.inj H
                            obtain ⟨Ao74, co74, eo74⟩ := Kd.R_slice HO_15.out
                            subst eo74
                            go_wp2_with (first | (go_at_call 11; (with_reducible refine (tollhouseref05_Same.calls k4 _ _ t286 _ _ l0 true _ ?side1 ?side2 ?side3 ?side4 A71.out).mono ?_); (case side1 => repeat (first | exact (Kd.R_reads' HO_9.out).2.2 | (with_reducible refine Kd.C_alloc ?_ _) | (with_reducible refine Kd.C_drewN ?_ _) | (with_reducible refine Kd.C_drew ?_))); (case side2 => exact (Kd.R_reads' HO_9.out).2.1); (case side3 => repeat (first | exact (Kd.C_below HR0.out HB.out) | (with_reducible refine Kd.C_alloc ?_ _) | (with_reducible refine Kd.C_drewN ?_ _) | (with_reducible refine Kd.C_drew ?_))); (case side4 => exact HC0.out); rintro e w' ⟨rfl, ⟨nd, rfl⟩⟩) | (go_at_call 12; (with_reducible refine (tollhouselaw05_wakes.calls k4  t323 _ A73.out).mono ?_); rintro e w75 ⟨rfl, hb⟩; have n0_ := Aside0.mk (Kd.R_below (by (with_reducible repeat (first | apply Kd.R_alloc | apply Kd.R_drewN | apply Kd.R_drew)); exact HO_9.out) hb); have n1_ := Aside0.mk (Kd.R_below (by (with_reducible repeat (first | apply Kd.R_alloc | apply Kd.R_drewN | apply Kd.R_drew)); exact HO_15.out) hb); have n2_ := Aside0.mk (below_step (by repeat (first | (with_reducible first | exact HB.out | apply below_alloc | apply pw_below_drewN | apply below_drew1) | exact HB.out)) hb); clear HO_9; clear HO_15; clear HB; have HO_9 := n0_; have HO_15 := n1_; have HB := n2_; clear n0_ n1_ n2_; (try clear hb); (try clear hb2); (try clear hk); (try clear hi)))
                            go_ret
                            exact ⟨by first | rfl | (simp [errW_none, errW_some] <;> rfl) | (simp [*, errW_none, errW_some] <;> rfl), by repeat (first | (with_reducible first | exact HB.out | apply below_alloc | apply pw_below_drewN | apply below_drew1) | exact HB.out)⟩
                          · replace c72 := Bool.eq_false_iff.mpr c72
                            subst c72
                            have H1 : (some false) = some r := by rw [if_neg (show ¬ (false = true) by decide)] at H; exact H
                            clear H
                            have H := H1
                            clear H1
                            obtain rfl := Option.some.inj H
                            obtain ⟨Ao76, co76, eo76⟩ := Kd.R_slice HO_15.out
                            subst eo76
                            go_wp2_with (first | (go_at_call 11; (with_reducible refine (tollhouseref05_Same.calls k4 _ _ t286 _ _ l0 false _ ?side1 ?side2 ?side3 ?side4 A71.out).mono ?_); (case side1 => repeat (first | exact (Kd.R_reads' HO_9.out).2.2 | (with_reducible refine Kd.C_alloc ?_ _) | (with_reducible refine Kd.C_drewN ?_ _) | (with_reducible refine Kd.C_drew ?_))); (case side2 => exact (Kd.R_reads' HO_9.out).2.1); (case side3 => repeat (first | exact (Kd.C_below HR0.out HB.out) | (with_reducible refine Kd.C_alloc ?_ _) | (with_reducible refine Kd.C_drewN ?_ _) | (with_reducible refine Kd.C_drew ?_))); (case side4 => exact HC0.out); rintro e w' ⟨rfl, ⟨nd, rfl⟩⟩))
                            go_ret
                            exact ⟨by first | rfl | (simp [errW_none, errW_some] <;> rfl) | (simp [*, errW_none, errW_some] <;> rfl), by repeat (first | (with_reducible first | exact HB.out | apply below_alloc | apply pw_below_drewN | apply below_drew1) | exact HB.out)⟩
                        · replace c70 := Bool.eq_false_iff.mpr c70
                          subst c70
                          have H1 : (some false) = some r := by rw [if_neg (show ¬ (false = true) by decide)] at H; exact H
                          clear H
                          have H := H1
                          clear H1
                          obtain rfl := Option.some.inj H
                          obtain ⟨Ao77, co77, eo77⟩ := Kd.R_slice HO_15.out
                          subst eo77
                          go_wp2
                          go_ret
                          exact ⟨by first | rfl | (simp [errW_none, errW_some] <;> rfl) | (simp [*, errW_none, errW_some] <;> rfl), by repeat (first | (with_reducible first | exact HB.out | apply below_alloc | apply pw_below_drewN | apply below_drew1) | exact HB.out)⟩

end Go.Proofs.YtdofgilfmgdpkaaDoor.P
