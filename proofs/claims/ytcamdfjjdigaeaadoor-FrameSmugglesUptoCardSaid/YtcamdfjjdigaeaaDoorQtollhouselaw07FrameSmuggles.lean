/- The walk of the Go function tollhouselaw07 FrameSmuggles, and what it computes. By program. Conditions: none but those that each theorem names. -/
import Derived.Test.YtcamdfjjdigaeaaDoorQ0
import Derived.Test.YtcamdfjjdigaeaaDoorQframeRequest
import Derived.Test.YtcamdfjjdigaeaaDoorQtollhouselaw07awake
import Derived.Test.YtcamdfjjdigaeaaDoorQtollhouselaw07values
import Derived.Test.YtcamdfjjdigaeaaDoorQRef02
import Derived.Test.YtcamdfjjdigaeaaDoorFstringsCount
import Derived.Test.YtcamdfjjdigaeaaDoorFstringsToLower
import Derived.Test.YtcamdfjjdigaeaaDoorFstringsJoin
namespace Go.Proofs.YtcamdfjjdigaeaaDoor.P
open Go.RowKit Go.Proofs.YtcamdfjjdigaeaaDoorW.PrintWords Go.Proofs.YtcamdfjjdigaeaaDoorW.PrintLast Go.Proofs.YtcamdfjjdigaeaaDoorW.PrintMore
attribute [local go_sem] max2_int min2_int max_two min_two max_three min_three max_four min_four
set_option linter.unusedVariables false
set_option linter.unusedSimpArgs false

/-! ### tollhouselaw07_FrameSmuggles: function 7 -/
mutual
def tollhouselaw07_FrameSmuggles.j0 : Nat → List ByteArray → List ByteArray → Int → Int → Int → Bool → Int → ByteArray → Int → List (S34) → Option (Bool)
  | 0, _, _, _, _, _, _, _, _, _, _ => none
  | k + 1, x3, x4, x5, x6, x7, x40, x215000, x215001, x215002, x215003 => if x40 = true then (some false) else (if (x3.length : Int) > 0 then (if (x4.length : Int) > 0 then (if x7 = 22 then (tollhouselaw07_FrameSmuggles.j1 k x3 x4 x5 x6 x7 false x215000 x215001 x215002 x215003) else (tollhouselaw07_FrameSmuggles.j1 k x3 x4 x5 x6 x7 (x7 != 1) x215000 x215001 x215002 x215003)) else (tollhouselaw07_FrameSmuggles.j1 k x3 x4 x5 x6 x7 false x215000 x215001 x215002 x215003)) else (tollhouselaw07_FrameSmuggles.j1 k x3 x4 x5 x6 x7 false x215000 x215001 x215002 x215003))
def tollhouselaw07_FrameSmuggles.j1 : Nat → List ByteArray → List ByteArray → Int → Int → Int → Bool → Int → ByteArray → Int → List (S34) → Option (Bool)
  | 0, _, _, _, _, _, _, _, _, _, _ => none
  | k + 1, x3, x4, x5, x6, x7, x56, x215000, x215001, x215002, x215003 => if x56 = true then (some false) else (if x7 = 0 then (if x5 = 0 then (if (x3.length : Int) = 0 then (if (x4.length : Int) = 0 then (some (x6 == 0)) else (some false)) else (some false)) else (if x5 = 2 then (if (x3.length : Int) = 0 then (if x215002 = 1 then (if x6 = 0 then ((strings_Join.f x4 (⟨#[44]⟩ : ByteArray)).bind fun t225 => ((strings_ToLower.f t225).bind fun t226 => ((strings_Count.f t226 (⟨#[99, 104, 117, 110, 107, 101, 100]⟩ : ByteArray)).bind fun t227 => (some (t227 == 1))))) else (some false)) else (some false)) else (some false)) else (if x5 = 1 then (if (x4.length : Int) > 0 then (tollhouselaw07_FrameSmuggles.j2 k x3 x6 true) else (tollhouselaw07_FrameSmuggles.j2 k x3 x6 (decide (x6 > 4096)))) else (some false)))) else (some true))
def tollhouselaw07_FrameSmuggles.j2 : Nat → List ByteArray → Int → Bool → Option (Bool)
  | 0, _, _, _ => none
  | k + 1, x3, x6, x103 => if x103 = true then (some false) else (tollhouselaw07_FrameSmuggles.l0 k x6 x3 (x3.length : Int) 0)
def tollhouselaw07_FrameSmuggles.l0 : Nat → Int → List ByteArray → Int → Int → Option (Bool)
  | 0, _, _, _, _ => none
  | k + 1, x6, x104, x105, x106 => if x106 < x105 then (if 0 ≤ x106 then (if x106 < (x104.length : Int) then ((tollhouseref02_List.f k (rdOf ByteArray.empty x104 x106)).bind fun t229 => (tollhouselaw07_FrameSmuggles.l1 k x6 x104 x105 x106 t229 (t229.length : Int) 0)) else (none)) else (none)) else (some true)
def tollhouselaw07_FrameSmuggles.l1 : Nat → Int → List ByteArray → Int → Int → List ByteArray → Int → Int → Option (Bool)
  | 0, _, _, _, _, _, _, _ => none
  | k + 1, x6, x104, x105, x106, x111, x112, x113 => if x113 < x112 then (if 0 ≤ x113 then (if x113 < (x111.length : Int) then (tollhouselaw07_FrameSmuggles.l2 k x6 (rdOf ByteArray.empty x111 x113) 0 x104 x105 x106 x111 x112 x113 ((rdOf ByteArray.empty x111 x113).size : Int) 0) else (none)) else (none)) else (tollhouselaw07_FrameSmuggles.l0 k x6 x104 x105 (wrap64 (x106 + 1)))
def tollhouselaw07_FrameSmuggles.l2 : Nat → Int → ByteArray → Int → List ByteArray → Int → Int → List ByteArray → Int → Int → Int → Int → Option (Bool)
  | 0, _, _, _, _, _, _, _, _, _, _, _ => none
  | k + 1, x6, x11, x12, x104, x105, x106, x111, x112, x113, x118, x119 => if x119 < x118 then (if 0 ≤ x119 then (if x119 < (x11.size : Int) then (if (bt x11 x119) < 48 then (tollhouselaw07_FrameSmuggles.j6 k x6 x11 x12 x119 x104 x105 x106 x111 x112 x113 x118 x119 true) else (tollhouselaw07_FrameSmuggles.j6 k x6 x11 x12 x119 x104 x105 x106 x111 x112 x113 x118 x119 (decide ((bt x11 x119) > 57)))) else (none)) else (none)) else (if x12 = x6 then (tollhouselaw07_FrameSmuggles.l1 k x6 x104 x105 x106 x111 x112 (wrap64 (x113 + 1))) else (some false))
def tollhouselaw07_FrameSmuggles.j6 : Nat → Int → ByteArray → Int → Int → List ByteArray → Int → Int → List ByteArray → Int → Int → Int → Int → Bool → Option (Bool)
  | 0, _, _, _, _, _, _, _, _, _, _, _, _, _ => none
  | k + 1, x6, x11, x12, x13, x104, x105, x106, x111, x112, x113, x118, x119, x131 => if x131 = true then (some false) else (if 0 ≤ x13 then (if x13 < (x11.size : Int) then (if (IntKind.u64.wrap ((IntKind.u64.wrap (x12 * 10)) + (((bt x11 x13) - 48) % 256))) > x6 then (some false) else (tollhouselaw07_FrameSmuggles.l2 k x6 x11 (IntKind.u64.wrap ((IntKind.u64.wrap (x12 * 10)) + (((bt x11 x13) - 48) % 256))) x104 x105 x106 x111 x112 x113 x118 (wrap64 (x119 + 1)))) else (none)) else (none))
end
def tollhouselaw07_FrameSmuggles.f (k : Nat) (a0_0 : Int) (a0_1 : ByteArray) (a0_2 : Int) (l0_3 : List (S34)) : Option (Bool) := (tollhouselaw07_awake.f k).bind fun t215 => (if t215 = true then ((tollhouselaw07_values.f k l0_3 (⟨#[99, 111, 110, 116, 101, 110, 116, 45, 108, 101, 110, 103, 116, 104]⟩ : ByteArray)).bind fun t216 => ((tollhouselaw07_values.f k l0_3 (⟨#[116, 114, 97, 110, 115, 102, 101, 114, 45, 101, 110, 99, 111, 100, 105, 110, 103]⟩ : ByteArray)).bind fun t219 => ((frame_Request.f k a0_2 l0_3).bind fun bt222 => (if bt222.2.2 = 0 then (tollhouselaw07_FrameSmuggles.j0 k t216 t219 bt222.1 bt222.2.1 bt222.2.2 false a0_0 a0_1 a0_2 l0_3) else (if bt222.1 = 0 then (tollhouselaw07_FrameSmuggles.j0 k t216 t219 bt222.1 bt222.2.1 bt222.2.2 (bt222.2.1 != 0) a0_0 a0_1 a0_2 l0_3) else (tollhouselaw07_FrameSmuggles.j0 k t216 t219 bt222.1 bt222.2.1 bt222.2.2 true a0_0 a0_1 a0_2 l0_3)))))) else (some false))
theorem tollhouselaw07_FrameSmuggles.mono_l : ∀ k, (∀ y0 y1 y2 y3 y4 y5 y6 y7 y8 y9, LeO (tollhouselaw07_FrameSmuggles.j0 k y0 y1 y2 y3 y4 y5 y6 y7 y8 y9) (tollhouselaw07_FrameSmuggles.j0 (k + 1) y0 y1 y2 y3 y4 y5 y6 y7 y8 y9)) ∧ (∀ y0 y1 y2 y3 y4 y5 y6 y7 y8 y9, LeO (tollhouselaw07_FrameSmuggles.j1 k y0 y1 y2 y3 y4 y5 y6 y7 y8 y9) (tollhouselaw07_FrameSmuggles.j1 (k + 1) y0 y1 y2 y3 y4 y5 y6 y7 y8 y9)) ∧ (∀ y0 y1 y2, LeO (tollhouselaw07_FrameSmuggles.j2 k y0 y1 y2) (tollhouselaw07_FrameSmuggles.j2 (k + 1) y0 y1 y2)) ∧ (∀ y0 y1 y2 y3, LeO (tollhouselaw07_FrameSmuggles.l0 k y0 y1 y2 y3) (tollhouselaw07_FrameSmuggles.l0 (k + 1) y0 y1 y2 y3)) ∧ (∀ y0 y1 y2 y3 y4 y5 y6, LeO (tollhouselaw07_FrameSmuggles.l1 k y0 y1 y2 y3 y4 y5 y6) (tollhouselaw07_FrameSmuggles.l1 (k + 1) y0 y1 y2 y3 y4 y5 y6)) ∧ (∀ y0 y1 y2 y3 y4 y5 y6 y7 y8 y9 y10, LeO (tollhouselaw07_FrameSmuggles.l2 k y0 y1 y2 y3 y4 y5 y6 y7 y8 y9 y10) (tollhouselaw07_FrameSmuggles.l2 (k + 1) y0 y1 y2 y3 y4 y5 y6 y7 y8 y9 y10)) ∧ (∀ y0 y1 y2 y3 y4 y5 y6 y7 y8 y9 y10 y11 y12, LeO (tollhouselaw07_FrameSmuggles.j6 k y0 y1 y2 y3 y4 y5 y6 y7 y8 y9 y10 y11 y12) (tollhouselaw07_FrameSmuggles.j6 (k + 1) y0 y1 y2 y3 y4 y5 y6 y7 y8 y9 y10 y11 y12))
  | 0 => ⟨fun _ _ _ _ _ _ _ _ _ _ r h => by simp [tollhouselaw07_FrameSmuggles.j0] at h, fun _ _ _ _ _ _ _ _ _ _ r h => by simp [tollhouselaw07_FrameSmuggles.j1] at h, fun _ _ _ r h => by simp [tollhouselaw07_FrameSmuggles.j2] at h, fun _ _ _ _ r h => by simp [tollhouselaw07_FrameSmuggles.l0] at h, fun _ _ _ _ _ _ _ r h => by simp [tollhouselaw07_FrameSmuggles.l1] at h, fun _ _ _ _ _ _ _ _ _ _ _ r h => by simp [tollhouselaw07_FrameSmuggles.l2] at h, fun _ _ _ _ _ _ _ _ _ _ _ _ _ r h => by simp [tollhouselaw07_FrameSmuggles.j6] at h⟩
  | k + 1 => by
    obtain ⟨ih0, ih1, ih2, ih3, ih4, ih5, ih6⟩ := tollhouselaw07_FrameSmuggles.mono_l k
    refine ⟨?_, ?_, ?_, ?_, ?_, ?_, ?_⟩
    · intro y0 y1 y2 y3 y4 y5 y6 y7 y8 y9
      unfold tollhouselaw07_FrameSmuggles.j0
      repeat' first
      | (with_reducible exact ih0 _ _ _ _ _ _ _ _ _ _)
      | (with_reducible exact ih1 _ _ _ _ _ _ _ _ _ _)
      | (with_reducible exact ih2 _ _ _)
      | (with_reducible exact ih3 _ _ _ _)
      | (with_reducible exact ih4 _ _ _ _ _ _ _)
      | (with_reducible exact ih5 _ _ _ _ _ _ _ _ _ _ _)
      | (with_reducible exact ih6 _ _ _ _ _ _ _ _ _ _ _ _ _)
      | (with_reducible exact frame_Request.mono _ _ _)
      | (with_reducible exact tollhouselaw07_awake.mono _)
      | (with_reducible exact tollhouselaw07_values.mono _ _ _)
      | (with_reducible exact tollhouseref02_List.mono _ _)
      | (with_reducible exact LeO.refl _)
      | (with_reducible exact LeO.none _)
      | (with_reducible refine LeO.ite ?_ ?_)
      | (with_reducible refine LeO.bind ?_ (fun _ => ?_))
      | exact ih0 _ _ _ _ _ _ _ _ _ _
      | exact ih1 _ _ _ _ _ _ _ _ _ _
      | exact ih2 _ _ _
      | exact ih3 _ _ _ _
      | exact ih4 _ _ _ _ _ _ _
      | exact ih5 _ _ _ _ _ _ _ _ _ _ _
      | exact ih6 _ _ _ _ _ _ _ _ _ _ _ _ _
      | exact frame_Request.mono _ _ _
      | exact tollhouselaw07_awake.mono _
      | exact tollhouselaw07_values.mono _ _ _
      | exact tollhouseref02_List.mono _ _
      | exact LeO.none _
      | refine LeO.ite ?_ ?_
      | refine LeO.bind ?_ (fun _ => ?_)
    · intro y0 y1 y2 y3 y4 y5 y6 y7 y8 y9
      unfold tollhouselaw07_FrameSmuggles.j1
      repeat' first
      | (with_reducible exact ih0 _ _ _ _ _ _ _ _ _ _)
      | (with_reducible exact ih1 _ _ _ _ _ _ _ _ _ _)
      | (with_reducible exact ih2 _ _ _)
      | (with_reducible exact ih3 _ _ _ _)
      | (with_reducible exact ih4 _ _ _ _ _ _ _)
      | (with_reducible exact ih5 _ _ _ _ _ _ _ _ _ _ _)
      | (with_reducible exact ih6 _ _ _ _ _ _ _ _ _ _ _ _ _)
      | (with_reducible exact frame_Request.mono _ _ _)
      | (with_reducible exact tollhouselaw07_awake.mono _)
      | (with_reducible exact tollhouselaw07_values.mono _ _ _)
      | (with_reducible exact tollhouseref02_List.mono _ _)
      | (with_reducible exact LeO.refl _)
      | (with_reducible exact LeO.none _)
      | (with_reducible refine LeO.ite ?_ ?_)
      | (with_reducible refine LeO.bind ?_ (fun _ => ?_))
      | exact ih0 _ _ _ _ _ _ _ _ _ _
      | exact ih1 _ _ _ _ _ _ _ _ _ _
      | exact ih2 _ _ _
      | exact ih3 _ _ _ _
      | exact ih4 _ _ _ _ _ _ _
      | exact ih5 _ _ _ _ _ _ _ _ _ _ _
      | exact ih6 _ _ _ _ _ _ _ _ _ _ _ _ _
      | exact frame_Request.mono _ _ _
      | exact tollhouselaw07_awake.mono _
      | exact tollhouselaw07_values.mono _ _ _
      | exact tollhouseref02_List.mono _ _
      | exact LeO.none _
      | refine LeO.ite ?_ ?_
      | refine LeO.bind ?_ (fun _ => ?_)
    · intro y0 y1 y2
      unfold tollhouselaw07_FrameSmuggles.j2
      repeat' first
      | (with_reducible exact ih0 _ _ _ _ _ _ _ _ _ _)
      | (with_reducible exact ih1 _ _ _ _ _ _ _ _ _ _)
      | (with_reducible exact ih2 _ _ _)
      | (with_reducible exact ih3 _ _ _ _)
      | (with_reducible exact ih4 _ _ _ _ _ _ _)
      | (with_reducible exact ih5 _ _ _ _ _ _ _ _ _ _ _)
      | (with_reducible exact ih6 _ _ _ _ _ _ _ _ _ _ _ _ _)
      | (with_reducible exact frame_Request.mono _ _ _)
      | (with_reducible exact tollhouselaw07_awake.mono _)
      | (with_reducible exact tollhouselaw07_values.mono _ _ _)
      | (with_reducible exact tollhouseref02_List.mono _ _)
      | (with_reducible exact LeO.refl _)
      | (with_reducible exact LeO.none _)
      | (with_reducible refine LeO.ite ?_ ?_)
      | (with_reducible refine LeO.bind ?_ (fun _ => ?_))
      | exact ih0 _ _ _ _ _ _ _ _ _ _
      | exact ih1 _ _ _ _ _ _ _ _ _ _
      | exact ih2 _ _ _
      | exact ih3 _ _ _ _
      | exact ih4 _ _ _ _ _ _ _
      | exact ih5 _ _ _ _ _ _ _ _ _ _ _
      | exact ih6 _ _ _ _ _ _ _ _ _ _ _ _ _
      | exact frame_Request.mono _ _ _
      | exact tollhouselaw07_awake.mono _
      | exact tollhouselaw07_values.mono _ _ _
      | exact tollhouseref02_List.mono _ _
      | exact LeO.none _
      | refine LeO.ite ?_ ?_
      | refine LeO.bind ?_ (fun _ => ?_)
    · intro y0 y1 y2 y3
      unfold tollhouselaw07_FrameSmuggles.l0
      repeat' first
      | (with_reducible exact ih0 _ _ _ _ _ _ _ _ _ _)
      | (with_reducible exact ih1 _ _ _ _ _ _ _ _ _ _)
      | (with_reducible exact ih2 _ _ _)
      | (with_reducible exact ih3 _ _ _ _)
      | (with_reducible exact ih4 _ _ _ _ _ _ _)
      | (with_reducible exact ih5 _ _ _ _ _ _ _ _ _ _ _)
      | (with_reducible exact ih6 _ _ _ _ _ _ _ _ _ _ _ _ _)
      | (with_reducible exact frame_Request.mono _ _ _)
      | (with_reducible exact tollhouselaw07_awake.mono _)
      | (with_reducible exact tollhouselaw07_values.mono _ _ _)
      | (with_reducible exact tollhouseref02_List.mono _ _)
      | (with_reducible exact LeO.refl _)
      | (with_reducible exact LeO.none _)
      | (with_reducible refine LeO.ite ?_ ?_)
      | (with_reducible refine LeO.bind ?_ (fun _ => ?_))
      | exact ih0 _ _ _ _ _ _ _ _ _ _
      | exact ih1 _ _ _ _ _ _ _ _ _ _
      | exact ih2 _ _ _
      | exact ih3 _ _ _ _
      | exact ih4 _ _ _ _ _ _ _
      | exact ih5 _ _ _ _ _ _ _ _ _ _ _
      | exact ih6 _ _ _ _ _ _ _ _ _ _ _ _ _
      | exact frame_Request.mono _ _ _
      | exact tollhouselaw07_awake.mono _
      | exact tollhouselaw07_values.mono _ _ _
      | exact tollhouseref02_List.mono _ _
      | exact LeO.none _
      | refine LeO.ite ?_ ?_
      | refine LeO.bind ?_ (fun _ => ?_)
    · intro y0 y1 y2 y3 y4 y5 y6
      unfold tollhouselaw07_FrameSmuggles.l1
      repeat' first
      | (with_reducible exact ih0 _ _ _ _ _ _ _ _ _ _)
      | (with_reducible exact ih1 _ _ _ _ _ _ _ _ _ _)
      | (with_reducible exact ih2 _ _ _)
      | (with_reducible exact ih3 _ _ _ _)
      | (with_reducible exact ih4 _ _ _ _ _ _ _)
      | (with_reducible exact ih5 _ _ _ _ _ _ _ _ _ _ _)
      | (with_reducible exact ih6 _ _ _ _ _ _ _ _ _ _ _ _ _)
      | (with_reducible exact frame_Request.mono _ _ _)
      | (with_reducible exact tollhouselaw07_awake.mono _)
      | (with_reducible exact tollhouselaw07_values.mono _ _ _)
      | (with_reducible exact tollhouseref02_List.mono _ _)
      | (with_reducible exact LeO.refl _)
      | (with_reducible exact LeO.none _)
      | (with_reducible refine LeO.ite ?_ ?_)
      | (with_reducible refine LeO.bind ?_ (fun _ => ?_))
      | exact ih0 _ _ _ _ _ _ _ _ _ _
      | exact ih1 _ _ _ _ _ _ _ _ _ _
      | exact ih2 _ _ _
      | exact ih3 _ _ _ _
      | exact ih4 _ _ _ _ _ _ _
      | exact ih5 _ _ _ _ _ _ _ _ _ _ _
      | exact ih6 _ _ _ _ _ _ _ _ _ _ _ _ _
      | exact frame_Request.mono _ _ _
      | exact tollhouselaw07_awake.mono _
      | exact tollhouselaw07_values.mono _ _ _
      | exact tollhouseref02_List.mono _ _
      | exact LeO.none _
      | refine LeO.ite ?_ ?_
      | refine LeO.bind ?_ (fun _ => ?_)
    · intro y0 y1 y2 y3 y4 y5 y6 y7 y8 y9 y10
      unfold tollhouselaw07_FrameSmuggles.l2
      repeat' first
      | (with_reducible exact ih0 _ _ _ _ _ _ _ _ _ _)
      | (with_reducible exact ih1 _ _ _ _ _ _ _ _ _ _)
      | (with_reducible exact ih2 _ _ _)
      | (with_reducible exact ih3 _ _ _ _)
      | (with_reducible exact ih4 _ _ _ _ _ _ _)
      | (with_reducible exact ih5 _ _ _ _ _ _ _ _ _ _ _)
      | (with_reducible exact ih6 _ _ _ _ _ _ _ _ _ _ _ _ _)
      | (with_reducible exact frame_Request.mono _ _ _)
      | (with_reducible exact tollhouselaw07_awake.mono _)
      | (with_reducible exact tollhouselaw07_values.mono _ _ _)
      | (with_reducible exact tollhouseref02_List.mono _ _)
      | (with_reducible exact LeO.refl _)
      | (with_reducible exact LeO.none _)
      | (with_reducible refine LeO.ite ?_ ?_)
      | (with_reducible refine LeO.bind ?_ (fun _ => ?_))
      | exact ih0 _ _ _ _ _ _ _ _ _ _
      | exact ih1 _ _ _ _ _ _ _ _ _ _
      | exact ih2 _ _ _
      | exact ih3 _ _ _ _
      | exact ih4 _ _ _ _ _ _ _
      | exact ih5 _ _ _ _ _ _ _ _ _ _ _
      | exact ih6 _ _ _ _ _ _ _ _ _ _ _ _ _
      | exact frame_Request.mono _ _ _
      | exact tollhouselaw07_awake.mono _
      | exact tollhouselaw07_values.mono _ _ _
      | exact tollhouseref02_List.mono _ _
      | exact LeO.none _
      | refine LeO.ite ?_ ?_
      | refine LeO.bind ?_ (fun _ => ?_)
    · intro y0 y1 y2 y3 y4 y5 y6 y7 y8 y9 y10 y11 y12
      unfold tollhouselaw07_FrameSmuggles.j6
      repeat' first
      | (with_reducible exact ih0 _ _ _ _ _ _ _ _ _ _)
      | (with_reducible exact ih1 _ _ _ _ _ _ _ _ _ _)
      | (with_reducible exact ih2 _ _ _)
      | (with_reducible exact ih3 _ _ _ _)
      | (with_reducible exact ih4 _ _ _ _ _ _ _)
      | (with_reducible exact ih5 _ _ _ _ _ _ _ _ _ _ _)
      | (with_reducible exact ih6 _ _ _ _ _ _ _ _ _ _ _ _ _)
      | (with_reducible exact frame_Request.mono _ _ _)
      | (with_reducible exact tollhouselaw07_awake.mono _)
      | (with_reducible exact tollhouselaw07_values.mono _ _ _)
      | (with_reducible exact tollhouseref02_List.mono _ _)
      | (with_reducible exact LeO.refl _)
      | (with_reducible exact LeO.none _)
      | (with_reducible refine LeO.ite ?_ ?_)
      | (with_reducible refine LeO.bind ?_ (fun _ => ?_))
      | exact ih0 _ _ _ _ _ _ _ _ _ _
      | exact ih1 _ _ _ _ _ _ _ _ _ _
      | exact ih2 _ _ _
      | exact ih3 _ _ _ _
      | exact ih4 _ _ _ _ _ _ _
      | exact ih5 _ _ _ _ _ _ _ _ _ _ _
      | exact ih6 _ _ _ _ _ _ _ _ _ _ _ _ _
      | exact frame_Request.mono _ _ _
      | exact tollhouselaw07_awake.mono _
      | exact tollhouselaw07_values.mono _ _ _
      | exact tollhouseref02_List.mono _ _
      | exact LeO.none _
      | refine LeO.ite ?_ ?_
      | refine LeO.bind ?_ (fun _ => ?_)
theorem tollhouselaw07_FrameSmuggles.mono : ∀ a0 a1 a2 a3 k, LeO (tollhouselaw07_FrameSmuggles.f k a0 a1 a2 a3) (tollhouselaw07_FrameSmuggles.f (k + 1) a0 a1 a2 a3) := by
  intro a0 a1 a2 a3 k
  obtain ⟨ih0, ih1, ih2, ih3, ih4, ih5, ih6⟩ := tollhouselaw07_FrameSmuggles.mono_l k
  unfold tollhouselaw07_FrameSmuggles.f
  repeat' first
      | (with_reducible exact ih0 _ _ _ _ _ _ _ _ _ _)
      | (with_reducible exact ih1 _ _ _ _ _ _ _ _ _ _)
      | (with_reducible exact ih2 _ _ _)
      | (with_reducible exact ih3 _ _ _ _)
      | (with_reducible exact ih4 _ _ _ _ _ _ _)
      | (with_reducible exact ih5 _ _ _ _ _ _ _ _ _ _ _)
      | (with_reducible exact ih6 _ _ _ _ _ _ _ _ _ _ _ _ _)
      | (with_reducible exact frame_Request.mono _ _ _)
      | (with_reducible exact tollhouselaw07_awake.mono _)
      | (with_reducible exact tollhouselaw07_values.mono _ _ _)
      | (with_reducible exact tollhouseref02_List.mono _ _)
      | (with_reducible exact LeO.refl _)
      | (with_reducible exact LeO.none _)
      | (with_reducible refine LeO.ite ?_ ?_)
      | (with_reducible refine LeO.bind ?_ (fun _ => ?_))
      | exact ih0 _ _ _ _ _ _ _ _ _ _
      | exact ih1 _ _ _ _ _ _ _ _ _ _
      | exact ih2 _ _ _
      | exact ih3 _ _ _ _
      | exact ih4 _ _ _ _ _ _ _
      | exact ih5 _ _ _ _ _ _ _ _ _ _ _
      | exact ih6 _ _ _ _ _ _ _ _ _ _ _ _ _
      | exact frame_Request.mono _ _ _
      | exact tollhouselaw07_awake.mono _
      | exact tollhouselaw07_values.mono _ _ _
      | exact tollhouseref02_List.mono _ _
      | exact LeO.none _
      | refine LeO.ite ?_ ?_
      | refine LeO.bind ?_ (fun _ => ?_)
def tollhouselaw07_FrameSmuggles.T3 : Bool × List (List Nat × List Nat) := (true, [([], []), ([0], [0]), ([1], [1]), ([], []), ([3], [3]), ([4, 2], [4]), ([2, 5, 0, 1, 2], [2]), ([5, 6, 0, 1, 2, 3, 4, 5, 6], [5])])
def tollhouselaw07_FrameSmuggles.B3 : List Nat := [0, 1, 3, 0, 8, 31, 63, 127]
theorem tollhouselaw07_FrameSmuggles.tab3 : rtab .any (opsOf Tryd.f7 3) = tollhouselaw07_FrameSmuggles.T3 := by kernel_rfl
theorem tollhouselaw07_FrameSmuggles.bits3 : waitsOk tollhouselaw07_FrameSmuggles.T3.2 tollhouselaw07_FrameSmuggles.B3 = true := by kernel_rfl
set_option maxHeartbeats 8000000 in
set_option maxRecDepth 100000 in
theorem tollhouselaw07_FrameSmuggles.calls (k : Nat) (a0_0 : Int) (a0_1 : ByteArray) (a0_2 : Int) (A0_3 : Option Addr) (c0_3 : Nat) (l0_3 : List (S34)) (r : Bool) (w : World) (hr0_3 : Kd.C k34 w A0_3 l0_3.length l0_3) (hc0_3 : l0_3.length ≤ c0_3) (hr_ : r = true) (hT : Tab w) (h : tollhouselaw07_FrameSmuggles.f k a0_0 a0_1 a0_2 l0_3 = some r) :
    Calls Tryd.prog 7 #[.agg #[.int .i64 a0_0, .string a0_1, .int .i64 a0_2, .slice A0_3 l0_3.length c0_3]] w fun e w' => e = .returned (.bool r) ∧ Below w.heap.size w w' := by
  have HT := Aside0.mk hT
  clear hT
  have hu24 := Tryd.underlying24
  have HR0_3 := Aside0.mk hr0_3
  have HC0_3 := Aside0.mk hc0_3
  clear hr0_3 hc0_3
  have HB := Aside0.mk (Below.refl w.heap.size w)
  have H : ((tollhouselaw07_awake.f k).bind fun t215 => (if t215 = true then ((tollhouselaw07_values.f k l0_3 (⟨#[99, 111, 110, 116, 101, 110, 116, 45, 108, 101, 110, 103, 116, 104]⟩ : ByteArray)).bind fun t216 => ((tollhouselaw07_values.f k l0_3 (⟨#[116, 114, 97, 110, 115, 102, 101, 114, 45, 101, 110, 99, 111, 100, 105, 110, 103]⟩ : ByteArray)).bind fun t219 => ((frame_Request.f k a0_2 l0_3).bind fun bt222 => (if bt222.2.2 = 0 then (tollhouselaw07_FrameSmuggles.j0 k t216 t219 bt222.1 bt222.2.1 bt222.2.2 false a0_0 a0_1 a0_2 l0_3) else (if bt222.1 = 0 then (tollhouselaw07_FrameSmuggles.j0 k t216 t219 bt222.1 bt222.2.1 bt222.2.2 (bt222.2.1 != 0) a0_0 a0_1 a0_2 l0_3) else (tollhouselaw07_FrameSmuggles.j0 k t216 t219 bt222.1 bt222.2.1 bt222.2.2 true a0_0 a0_1 a0_2 l0_3)))))) else (some false))) = some r := h
  clear h
  replace H := Option.bind_eq_some_iff.mp H
  obtain ⟨t215, A20, H⟩ := H
  replace H : (if t215 = true then ((tollhouselaw07_values.f k l0_3 (⟨#[99, 111, 110, 116, 101, 110, 116, 45, 108, 101, 110, 103, 116, 104]⟩ : ByteArray)).bind fun t216 => ((tollhouselaw07_values.f k l0_3 (⟨#[116, 114, 97, 110, 115, 102, 101, 114, 45, 101, 110, 99, 111, 100, 105, 110, 103]⟩ : ByteArray)).bind fun t219 => ((frame_Request.f k a0_2 l0_3).bind fun bt222 => (if bt222.2.2 = 0 then (tollhouselaw07_FrameSmuggles.j0 k t216 t219 bt222.1 bt222.2.1 bt222.2.2 false a0_0 a0_1 a0_2 l0_3) else (if bt222.1 = 0 then (tollhouselaw07_FrameSmuggles.j0 k t216 t219 bt222.1 bt222.2.1 bt222.2.2 (bt222.2.1 != 0) a0_0 a0_1 a0_2 l0_3) else (tollhouselaw07_FrameSmuggles.j0 k t216 t219 bt222.1 bt222.2.1 bt222.2.2 true a0_0 a0_1 a0_2 l0_3)))))) else (some false)) = some r := H
  have A2 := Aside0.mk A20
  clear A20
  by_cases c3 : t215 = true
  · subst c3
    have H1 : ((tollhouselaw07_values.f k l0_3 (⟨#[99, 111, 110, 116, 101, 110, 116, 45, 108, 101, 110, 103, 116, 104]⟩ : ByteArray)).bind fun t216 => ((tollhouselaw07_values.f k l0_3 (⟨#[116, 114, 97, 110, 115, 102, 101, 114, 45, 101, 110, 99, 111, 100, 105, 110, 103]⟩ : ByteArray)).bind fun t219 => ((frame_Request.f k a0_2 l0_3).bind fun bt222 => (if bt222.2.2 = 0 then (tollhouselaw07_FrameSmuggles.j0 k t216 t219 bt222.1 bt222.2.1 bt222.2.2 false a0_0 a0_1 a0_2 l0_3) else (if bt222.1 = 0 then (tollhouselaw07_FrameSmuggles.j0 k t216 t219 bt222.1 bt222.2.1 bt222.2.2 (bt222.2.1 != 0) a0_0 a0_1 a0_2 l0_3) else (tollhouselaw07_FrameSmuggles.j0 k t216 t219 bt222.1 bt222.2.1 bt222.2.2 true a0_0 a0_1 a0_2 l0_3)))))) = some r := by rw [if_pos rfl] at H; exact H
    clear H
    have H := H1
    clear H1
    replace H := Option.bind_eq_some_iff.mp H
    obtain ⟨t216, A40, H⟩ := H
    replace H : ((tollhouselaw07_values.f k l0_3 (⟨#[116, 114, 97, 110, 115, 102, 101, 114, 45, 101, 110, 99, 111, 100, 105, 110, 103]⟩ : ByteArray)).bind fun t219 => ((frame_Request.f k a0_2 l0_3).bind fun bt222 => (if bt222.2.2 = 0 then (tollhouselaw07_FrameSmuggles.j0 k t216 t219 bt222.1 bt222.2.1 bt222.2.2 false a0_0 a0_1 a0_2 l0_3) else (if bt222.1 = 0 then (tollhouselaw07_FrameSmuggles.j0 k t216 t219 bt222.1 bt222.2.1 bt222.2.2 (bt222.2.1 != 0) a0_0 a0_1 a0_2 l0_3) else (tollhouselaw07_FrameSmuggles.j0 k t216 t219 bt222.1 bt222.2.1 bt222.2.2 true a0_0 a0_1 a0_2 l0_3))))) = some r := H
    have A4 := Aside0.mk A40
    clear A40
    replace H := Option.bind_eq_some_iff.mp H
    obtain ⟨t219, A50, H⟩ := H
    replace H : ((frame_Request.f k a0_2 l0_3).bind fun bt222 => (if bt222.2.2 = 0 then (tollhouselaw07_FrameSmuggles.j0 k t216 t219 bt222.1 bt222.2.1 bt222.2.2 false a0_0 a0_1 a0_2 l0_3) else (if bt222.1 = 0 then (tollhouselaw07_FrameSmuggles.j0 k t216 t219 bt222.1 bt222.2.1 bt222.2.2 (bt222.2.1 != 0) a0_0 a0_1 a0_2 l0_3) else (tollhouselaw07_FrameSmuggles.j0 k t216 t219 bt222.1 bt222.2.1 bt222.2.2 true a0_0 a0_1 a0_2 l0_3)))) = some r := H
    have A5 := Aside0.mk A50
    clear A50
    replace H := Option.bind_eq_some_iff.mp H
    obtain ⟨⟨t222, t223, t224⟩, A60, H⟩ := H
    replace H : (if t224 = 0 then (tollhouselaw07_FrameSmuggles.j0 k t216 t219 t222 t223 t224 false a0_0 a0_1 a0_2 l0_3) else (if t222 = 0 then (tollhouselaw07_FrameSmuggles.j0 k t216 t219 t222 t223 t224 (t223 != 0) a0_0 a0_1 a0_2 l0_3) else (tollhouselaw07_FrameSmuggles.j0 k t216 t219 t222 t223 t224 true a0_0 a0_1 a0_2 l0_3))) = some r := H
    have A6 := Aside0.mk A60
    clear A60
    have HC7 := Aside0.mk H
    clear H
    go_enter Tryd.func7, Tryd.ntmps7
    try go_wp2_with (first | ((with_reducible refine gate_dst (N := 1) rfl ?_); (try (refine gate_guard (by rfl) ?_; dsimp only)); refine box_event ?hg (N := 1) ?hd (cs := #[.int .i64 a0_0, .string a0_1, .int .i64 a0_2, .slice A0_3 l0_3.length c0_3]) (t := 24) ?hr ?_; (case hd => rfl); (case hg => rfl); (case hr => first | (go_simp; done) | (go_simp; rfl)); intro gb214 hg w8 hbox hb; have n0_ := Aside0.mk (below_step (by repeat (first | (with_reducible first | exact HB.out | apply below_alloc | apply pw_below_drewN | apply below_drew1) | exact HB.out)) hb); have n1_ := Aside0.mk (hbox); have n2_ := Aside0.mk ((by rw [hg]; exact (below_size (by repeat (first | (with_reducible first | exact HB.out | apply below_alloc | apply pw_below_drewN | apply below_drew1) | exact HB.out))) : w.heap.size ≤ gb214)); have n3_ := Aside0.mk ((by rw [hg]; exact (below_size (by repeat (first | (with_reducible first | exact HB.out | apply below_alloc | apply pw_below_drewN | apply below_drew1) | exact HB.out))) : w.heap.size ≤ gb214)); clear HB; have HB := n0_; have BK214 := n1_; have GW214 := n2_; have GE214 := n3_; clear n0_ n1_ n2_ n3_; clear hb hbox hg) | ((with_reducible refine gate_callee (f := 12) rfl ?_); refine goesL_ (some 14) rfl rfl Tryd.func12 (by kernel_rfl) rfl #[] rfl (by (try simp only [List.map_toArray, List.map_cons, List.map_nil]); first | done | rfl | (simp only [List.length_drop, List.length_take]; rfl)) ?_; (with_reducible refine (tollhouselaw07_awake.calls k  true _ A2.out).mono ?_); rintro e w9 ⟨rfl, hb⟩; refine ⟨_, rfl, ?_⟩; have n0_ := Aside0.mk (blk_below (g := gb214) (o := .cells #[.int .i64 a0_0, .string a0_1, .int .i64 a0_2, .slice A0_3 l0_3.length c0_3] 24 (0, 0)) (by (with_reducible repeat (first | refine blk_drewN ?_ _ | refine blk_drew ?_ | refine blk_alloc ?_ _)); exact BK214.out) hb); have n1_ := Aside0.mk (below_step (by repeat (first | (with_reducible first | exact HB.out | apply below_alloc | apply pw_below_drewN | apply below_drew1 | refine below_set ?_ GE214.out) | exact HB.out)) hb); clear BK214; clear HB; have BK214 := n0_; have HB := n1_; clear n0_ n1_; (try clear hb); (try clear hb2); (try clear hk); (try clear hi)))
    have n0_ := Aside0.mk (blk_drew BK214.out)
    have n1_ := Aside0.mk (below_drew1 HB.out)
    clear BK214
    clear HB
    have BK214 := n0_
    have HB := n1_
    clear n0_ n1_
    refine start_ (n := 8) (S := fun w' => w'.cell? ⟨gb214, 0, none⟩ = some (.int .i64 a0_0) ∧ w'.cell? ⟨gb214, 1, none⟩ = some (.string a0_1) ∧ w'.cell? ⟨gb214, 2, none⟩ = some (.int .i64 a0_2) ∧ w'.cell? ⟨gb214, 3, none⟩ = some (.slice A0_3 l0_3.length c0_3)) (ds := []) #[false, false, false, false, false, false, false, false] (by kernel_rfl) rfl rfl ⟨(blk_cell BK214.out 0).trans rfl, (blk_cell BK214.out 1).trans rfl, (blk_cell BK214.out 2).trans rfl, (blk_cell BK214.out 3).trans rfl⟩ (fun hHeld => ?_); refine with_tabW tollhouselaw07_FrameSmuggles.tab3 tollhouselaw07_FrameSmuggles.bits3 (fun HT_ HW_ => ?_)
    generalize w9.drew = w10 at BK214 HB hHeld ⊢
    refine pure_ (i := 0) (N := some 16) (v := ?_) (a' := ?_) #[true, false, false, false, false, false, false, false] rfl rfl (any_of HT_.out (by kernel_rfl)) (fun _ _ _ h => h) (Or.inl ⟨by rfl, ?_⟩) ?_ ?_
    rotate_left
    · intro w'
      go_simp
      with_reducible rfl
    rotate_left
    · simp only [Act.put, List.setIfInBounds_toArray, List.set_cons_zero, List.set_cons_succ, i64_w, i32_w]
      rfl
    refine pure_ (i := 3) (N := some 19) (v := ?_) (a' := ?_) #[true, false, false, true, false, false, false, false] rfl rfl (any_of HT_.out (by kernel_rfl)) (fun _ _ _ h => h) (Or.inl ⟨by rfl, ?_⟩) ?_ ?_
    rotate_left
    · intro w'
      go_simp
      with_reducible rfl
    rotate_left
    · simp only [Act.put, List.setIfInBounds_toArray, List.set_cons_zero, List.set_cons_succ, i64_w, i32_w]
      rfl
    refine take_ (i := 1) (N := some 17) (v := ?_) (a' := ?_) #[true, true, false, true, false, false, false, false] rfl rfl (take_ofW HT_.out HW_.out (by kernel_rfl)) (fun _ _ _ h => h) (Or.inl ⟨by rfl, ?_⟩) hHeld ?_ ?_
    rotate_left
    · rintro w' ⟨s0, s1, s2, s3⟩
      go_simp
      with_reducible rfl
    rotate_left
    · simp only [Act.put, List.setIfInBounds_toArray, List.set_cons_zero, List.set_cons_succ, i64_w, i32_w]
      rfl
    refine take_ (i := 4) (N := some 20) (v := ?_) (a' := ?_) #[true, true, false, true, true, false, false, false] rfl rfl (take_ofW HT_.out HW_.out (by kernel_rfl)) (fun _ _ _ h => h) (Or.inl ⟨by rfl, ?_⟩) hHeld ?_ ?_
    rotate_left
    · rintro w' ⟨s0, s1, s2, s3⟩
      go_simp
      with_reducible rfl
    rotate_left
    · simp only [Act.put, List.setIfInBounds_toArray, List.set_cons_zero, List.set_cons_succ, i64_w, i32_w]
      rfl
    refine one_ (i := 2) (N := some 18) #[true, true, true, true, true, false, false, false] rfl rfl (one_of HT_.out (by kernel_rfl)) (by decide) (fun K hK => ?_)
    refine goes_ Tryd.func17 (by kernel_rfl) rfl #[.slice A0_3 l0_3.length c0_3, .string (⟨#[99, 111, 110, 116, 101, 110, 116, 45, 108, 101, 110, 103, 116, 104]⟩ : ByteArray)] (by rfl) rfl rfl (by (try simp only [List.map_toArray, List.map_cons, List.map_nil]); first | done | rfl | (simp only [List.length_drop, List.length_take]; rfl)) ?_
    with_reducible refine (tollhouselaw07_values.calls k _ _ l0_3 (⟨#[99, 111, 110, 116, 101, 110, 116, 45, 108, 101, 110, 103, 116, 104]⟩ : ByteArray) t216 _ ?side1 ?side2 A4.out).mono ?_
    (case side1 => repeat (first | exact (Kd.C_below HR0_3.out HB.out) | (with_reducible refine Kd.C_alloc ?_ _) | (with_reducible refine Kd.C_drewN ?_ _) | (with_reducible refine Kd.C_drew ?_)))
    (case side2 => exact HC0_3.out)
    rintro e w11 ⟨v217, rfl, ho0, hb⟩
    refine ⟨_, rfl, ?_⟩
    have n0_ := Aside0.mk (Kd.R_lower ho0 (below_size (by repeat (first | (with_reducible first | exact HB.out | apply below_alloc | apply pw_below_drewN | apply below_drew1 | refine below_set ?_ GE214.out) | exact HB.out))))
    have n1_ := Aside0.mk (blk_below (g := gb214) (o := .cells #[.int .i64 a0_0, .string a0_1, .int .i64 a0_2, .slice A0_3 l0_3.length c0_3] 24 (0, 0)) (by (with_reducible repeat (first | refine blk_drewN ?_ _ | refine blk_drew ?_ | refine blk_alloc ?_ _)); exact BK214.out) hb)
    have n2_ := Aside0.mk (below_step (by repeat (first | (with_reducible first | exact HB.out | apply below_alloc | apply pw_below_drewN | apply below_drew1 | refine below_set ?_ GE214.out) | exact HB.out)) hb)
    clear BK214
    clear HB
    have HO218 := n0_
    have BK214 := n1_
    have HB := n2_
    clear n0_ n1_ n2_
    (try clear hb)
    (try clear hb2)
    (try clear hk)
    (try clear hi)
    (try clear ho0)
    refine hK.out _ _ ⟨(blk_cell BK214.out 0).trans rfl, (blk_cell BK214.out 1).trans rfl, (blk_cell BK214.out 2).trans rfl, (blk_cell BK214.out 3).trans rfl⟩ (fun hHeld => ?_)
    clear hK K
    refine norm_ (a' := ?_) ?_ ?_
    rotate_left
    · show Act.put _ (some 18) _ = _
      simp only [Act.put, List.setIfInBounds_toArray, List.set_cons_zero, List.set_cons_succ, i64_w, i32_w]
      rfl
    refine one_ (i := 5) (N := some 21) #[true, true, true, true, true, true, false, false] rfl rfl (one_of HT_.out (by kernel_rfl)) (by decide) (fun K hK => ?_)
    refine goes_ Tryd.func17 (by kernel_rfl) rfl #[.slice A0_3 l0_3.length c0_3, .string (⟨#[116, 114, 97, 110, 115, 102, 101, 114, 45, 101, 110, 99, 111, 100, 105, 110, 103]⟩ : ByteArray)] (by rfl) rfl rfl (by (try simp only [List.map_toArray, List.map_cons, List.map_nil]); first | done | rfl | (simp only [List.length_drop, List.length_take]; rfl)) ?_
    with_reducible refine (tollhouselaw07_values.calls k _ _ l0_3 (⟨#[116, 114, 97, 110, 115, 102, 101, 114, 45, 101, 110, 99, 111, 100, 105, 110, 103]⟩ : ByteArray) t219 _ ?side1 ?side2 A5.out).mono ?_
    (case side1 => repeat (first | exact (Kd.C_below HR0_3.out HB.out) | (with_reducible refine Kd.C_alloc ?_ _) | (with_reducible refine Kd.C_drewN ?_ _) | (with_reducible refine Kd.C_drew ?_)))
    (case side2 => exact HC0_3.out)
    rintro e w12 ⟨v220, rfl, ho0, hb⟩
    refine ⟨_, rfl, ?_⟩
    have n0_ := Aside0.mk (Kd.R_elder' (by (with_reducible repeat (first | apply Kd.R_alloc | apply Kd.R_drewN | apply Kd.R_drew)); exact HO218.out) (Kd.R_base ho0) hb)
    have n1_ := Aside0.mk (Kd.R_lower (Kd.R_new' ho0 (Kd.R_lt (by (with_reducible repeat (first | apply Kd.R_alloc | apply Kd.R_drewN | apply Kd.R_drew)); exact HO218.out))) (below_size (by repeat (first | (with_reducible first | exact HB.out | apply below_alloc | apply pw_below_drewN | apply below_drew1 | refine below_set ?_ GE214.out) | exact HB.out))))
    have n2_ := Aside0.mk (blk_below (g := gb214) (o := .cells #[.int .i64 a0_0, .string a0_1, .int .i64 a0_2, .slice A0_3 l0_3.length c0_3] 24 (0, 0)) (by (with_reducible repeat (first | refine blk_drewN ?_ _ | refine blk_drew ?_ | refine blk_alloc ?_ _)); exact BK214.out) hb)
    have n3_ := Aside0.mk (below_step (by repeat (first | (with_reducible first | exact HB.out | apply below_alloc | apply pw_below_drewN | apply below_drew1 | refine below_set ?_ GE214.out) | exact HB.out)) hb)
    clear HO218
    clear BK214
    clear HB
    have HO218 := n0_
    have HO221 := n1_
    have BK214 := n2_
    have HB := n3_
    clear n0_ n1_ n2_ n3_
    (try clear hb)
    (try clear hb2)
    (try clear hk)
    (try clear hi)
    (try clear ho0)
    refine hK.out _ _ ⟨(blk_cell BK214.out 0).trans rfl, (blk_cell BK214.out 1).trans rfl, (blk_cell BK214.out 2).trans rfl, (blk_cell BK214.out 3).trans rfl⟩ (fun hHeld => ?_)
    clear hK K
    refine norm_ (a' := ?_) ?_ ?_
    rotate_left
    · show Act.put _ (some 21) _ = _
      simp only [Act.put, List.setIfInBounds_toArray, List.set_cons_zero, List.set_cons_succ, i64_w, i32_w]
      rfl
    refine pure_ (i := 6) (N := some 3) (v := ?_) (a' := ?_) #[true, true, true, true, true, true, true, false] rfl rfl (any_of HT_.out (by kernel_rfl)) (fun _ _ _ h => h) (Or.inl ⟨by rfl, ?_⟩) ?_ ?_
    rotate_left
    · intro w'
      go_simp
      with_reducible rfl
    rotate_left
    · simp only [Act.put, List.setIfInBounds_toArray, List.set_cons_zero, List.set_cons_succ, i64_w, i32_w]
      rfl
    refine pure_ (i := 7) (N := some 4) (v := ?_) (a' := ?_) #[true, true, true, true, true, true, true, true] rfl rfl (any_of HT_.out (by kernel_rfl)) (fun _ _ _ h => h) (Or.inl ⟨by rfl, ?_⟩) ?_ ?_
    rotate_left
    · intro w'
      go_simp
      with_reducible rfl
    rotate_left
    · simp only [Act.put, List.setIfInBounds_toArray, List.set_cons_zero, List.set_cons_succ, i64_w, i32_w]
      rfl
    refine done_ (done_of HT_.out (by kernel_rfl)) ?_
    have hcz13_0 : w12.cell? ⟨gb214, 0, none⟩ = some (.int .i64 a0_0) := (blk_cell BK214.out 0).trans rfl
    have hcz13_1 : w12.cell? ⟨gb214, 1, none⟩ = some (.string a0_1) := (blk_cell BK214.out 1).trans rfl
    have hcz13_2 : w12.cell? ⟨gb214, 2, none⟩ = some (.int .i64 a0_2) := (blk_cell BK214.out 2).trans rfl
    have hcz13_3 : w12.cell? ⟨gb214, 3, none⟩ = some (.slice A0_3 l0_3.length c0_3) := (blk_cell BK214.out 3).trans rfl
    have hfz13_0 := blk_frozen BK214.out 0
    have hfz13_1 := blk_frozen BK214.out 1
    have hfz13_2 := blk_frozen BK214.out 2
    have hfz13_3 := blk_frozen BK214.out 3
    go_upto_region 5 with (first | ((with_reducible refine gate_callee (f := 8) rfl ?_); refine goesL_ (some 27) rfl rfl Tryd.func8 (by kernel_rfl) rfl #[.int .i64 a0_2, .slice A0_3 l0_3.length c0_3] rfl (by (try simp only [List.map_toArray, List.map_cons, List.map_nil]); first | done | rfl | (simp only [List.length_drop, List.length_take]; rfl)) ?_; (with_reducible refine (frame_Request.calls k a0_2 _ _ l0_3 t222 t223 t224 _ ?side1 ?side2 A6.out).mono ?_); (case side1 => repeat (first | exact (Kd.C_below HR0_3.out HB.out) | (with_reducible refine Kd.C_alloc ?_ _) | (with_reducible refine Kd.C_drewN ?_ _) | (with_reducible refine Kd.C_drew ?_))); (case side2 => exact HC0_3.out); rintro e w14 ⟨rfl, hb⟩; refine ⟨_, rfl, ?_⟩; have n0_ := Aside0.mk (Kd.R_below (by (with_reducible repeat (first | apply Kd.R_alloc | apply Kd.R_drewN | apply Kd.R_drew)); exact HO218.out) hb); have n1_ := Aside0.mk (Kd.R_below (by (with_reducible repeat (first | apply Kd.R_alloc | apply Kd.R_drewN | apply Kd.R_drew)); exact HO221.out) hb); have n2_ := Aside0.mk (blk_below (g := gb214) (o := .cells #[.int .i64 a0_0, .string a0_1, .int .i64 a0_2, .slice A0_3 l0_3.length c0_3] 24 (0, 0)) (by (with_reducible repeat (first | refine blk_drewN ?_ _ | refine blk_drew ?_ | refine blk_alloc ?_ _)); exact BK214.out) hb); have n3_ := Aside0.mk (below_step (by repeat (first | (with_reducible first | exact HB.out | apply below_alloc | apply pw_below_drewN | apply below_drew1 | refine below_set ?_ GE214.out) | exact HB.out)) hb); clear HO218; clear HO221; clear BK214; clear HB; have HO218 := n0_; have HO221 := n1_; have BK214 := n2_; have HB := n3_; clear n0_ n1_ n2_ n3_; (try clear hb); (try clear hb2); (try clear hk); (try clear hi)))
    (try simp only [Act.put, List.setIfInBounds_toArray, List.set_cons_zero, List.set_cons_succ])
    go_cut [40] (fun v40 wc => ∃ (kq : Nat) (x40_6 : Bool), v40 = .bool x40_6 ∧ Aside0 (tollhouselaw07_FrameSmuggles.j0 kq t216 t219 t222 t223 t224 x40_6 a0_0 a0_1 a0_2 l0_3 = some r) ∧ Aside0 (kq ≤ k) ∧ Aside0 (Kd.R Kd.string 9 wc w.heap.size (fun k_ => some k_ ≠ (v220 : Value).ownBlock) v217 t216) ∧ Aside0 (Kd.R Kd.string 9 wc w.heap.size (fun k_ => some k_ ≠ (v217 : Value).ownBlock) v220 t219) ∧ Aside0 (wc.heap[gb214]? = some (.cells #[.int .i64 a0_0, .string a0_1, .int .i64 a0_2, (.slice A0_3 l0_3.length c0_3)] 24 (0, 0))) ∧ Aside0 (Below w.heap.size w wc))
    case first =>
      have H := HC7.out
      clear HC7
      by_cases c15 : t224 = 0
      · rw [if_pos c15] at H
        have c15b0 : (t224 == 0) = true := beq_iff_eq.mpr c15
        have c15b1 : (t224 != 0) = false := bne_eq_false_iff_eq.mpr c15
        clear c15
        (first | rw [c15b0] | (simp only [i64_w, i32_w]; rw [c15b0]) | skip)
        have H' := Aside0.mk H
        clear H
        go_wp2
        go_meet
        case rel => exact ⟨_, (false), (by first | rfl | (simp; done) | (simp [*]; done)), H', ⟨by first | omega | exact Nat.le_refl _⟩, ⟨by (with_reducible repeat (first | apply Kd.R_alloc | apply Kd.R_drewN | apply Kd.R_drew)); exact Kd.R_mono HO218.out (fun _ hk => hk.2)⟩, ⟨by (with_reducible repeat (first | apply Kd.R_alloc | apply Kd.R_drewN | apply Kd.R_drew)); exact Kd.R_mono HO221.out (fun _ hk => hk.2)⟩, ⟨by (with_reducible repeat (first | refine blk_drewN ?_ _ | refine blk_drew ?_ | refine blk_alloc ?_ _)); exact BK214.out⟩, ⟨by repeat (first | (with_reducible first | exact HB.out | apply below_alloc | apply pw_below_drewN | apply below_drew1 | refine below_set ?_ GE214.out) | exact HB.out)⟩⟩
      · rw [if_neg c15] at H
        have c15b0 : (t224 == 0) = false := beq_eq_false_iff_ne.mpr c15
        have c15b1 : (t224 != 0) = true := bne_iff_ne.mpr c15
        (first | rw [c15b0] | (simp only [i64_w, i32_w]; rw [c15b0]) | skip)
        by_cases c16 : t222 = 0
        · rw [if_pos c16] at H
          have c16b0 : (t222 == 0) = true := beq_iff_eq.mpr c16
          have c16b1 : (t222 != 0) = false := bne_eq_false_iff_eq.mpr c16
          clear c16
          have H' := Aside0.mk H
          clear H
          go_wp2
          go_meet
          case rel => exact ⟨_, ((t223 != 0)), (by first | rfl | (simp; done) | (simp [*]; done)), H', ⟨by first | omega | exact Nat.le_refl _⟩, ⟨by (with_reducible repeat (first | apply Kd.R_alloc | apply Kd.R_drewN | apply Kd.R_drew)); exact Kd.R_mono HO218.out (fun _ hk => hk.2)⟩, ⟨by (with_reducible repeat (first | apply Kd.R_alloc | apply Kd.R_drewN | apply Kd.R_drew)); exact Kd.R_mono HO221.out (fun _ hk => hk.2)⟩, ⟨by (with_reducible repeat (first | refine blk_drewN ?_ _ | refine blk_drew ?_ | refine blk_alloc ?_ _)); exact BK214.out⟩, ⟨by repeat (first | (with_reducible first | exact HB.out | apply below_alloc | apply pw_below_drewN | apply below_drew1 | refine below_set ?_ GE214.out) | exact HB.out)⟩⟩
        · rw [if_neg c16] at H
          have c16b0 : (t222 == 0) = false := beq_eq_false_iff_ne.mpr c16
          have c16b1 : (t222 != 0) = true := bne_iff_ne.mpr c16
          have H' := Aside0.mk H
          clear H
          go_wp2
          go_meet
          case rel => exact ⟨_, (true), (by first | rfl | (simp; done) | (simp [*]; done)), H', ⟨by first | omega | exact Nat.le_refl _⟩, ⟨by (with_reducible repeat (first | apply Kd.R_alloc | apply Kd.R_drewN | apply Kd.R_drew)); exact Kd.R_mono HO218.out (fun _ hk => hk.2)⟩, ⟨by (with_reducible repeat (first | apply Kd.R_alloc | apply Kd.R_drewN | apply Kd.R_drew)); exact Kd.R_mono HO221.out (fun _ hk => hk.2)⟩, ⟨by (with_reducible repeat (first | refine blk_drewN ?_ _ | refine blk_drew ?_ | refine blk_alloc ?_ _)); exact BK214.out⟩, ⟨by repeat (first | (with_reducible first | exact HB.out | apply below_alloc | apply pw_below_drewN | apply below_drew1 | refine below_set ?_ GE214.out) | exact HB.out)⟩⟩
    case rest =>
      clear HC7
      try clear c1
      try clear p2
      try clear c3
      try clear c7
      try clear c8
      try clear c12
      try clear c15
      try clear c15b0
      try clear c15b1
      try clear c16
      try clear c16b0
      try clear c16b1
      try clear hcz13_0
      try clear hcz13_1
      try clear hcz13_2
      try clear hcz13_3
      try clear hfz13_0
      try clear hfz13_1
      try clear hfz13_2
      try clear hfz13_3
      obtain ⟨kq, x40_6, rfl, HA, HJ6, HO_3, HO_4, BK214, HB⟩ := hcut
      cases kq with
      | zero => exact absurd HA.out (by simp [tollhouselaw07_FrameSmuggles.j0])
      | succ kj6 =>
        have H := HA.out
        clear HA
        simp only [tollhouselaw07_FrameSmuggles.j0] at H
        by_cases c17 : x40_6 = true
        · subst c17
          have H1 : (some false) = some r := by rw [if_pos rfl] at H; exact H
          clear H
          have H := H1
          clear H1
          exact absurd ((Option.some.inj H).trans hr_) (by decide)
        · replace c17 := Bool.eq_false_iff.mpr c17
          subst c17
          have H1 : (if (t216.length : Int) > 0 then (if (t219.length : Int) > 0 then (if t224 = 22 then (tollhouselaw07_FrameSmuggles.j1 kj6 t216 t219 t222 t223 t224 false a0_0 a0_1 a0_2 l0_3) else (tollhouselaw07_FrameSmuggles.j1 kj6 t216 t219 t222 t223 t224 (t224 != 1) a0_0 a0_1 a0_2 l0_3)) else (tollhouselaw07_FrameSmuggles.j1 kj6 t216 t219 t222 t223 t224 false a0_0 a0_1 a0_2 l0_3)) else (tollhouselaw07_FrameSmuggles.j1 kj6 t216 t219 t222 t223 t224 false a0_0 a0_1 a0_2 l0_3)) = some r := by rw [if_neg (show ¬ (false = true) by decide)] at H; exact H
          clear H
          have H := H1
          clear H1
          have HC18 := Aside0.mk H
          clear H
          go_upto_region 7 with (fail)
          go_cut [56] (fun v56 wc => ∃ (kq : Nat) (x56_17 : Bool), v56 = .bool x56_17 ∧ Aside0 (tollhouselaw07_FrameSmuggles.j1 kq t216 t219 t222 t223 t224 x56_17 a0_0 a0_1 a0_2 l0_3 = some r) ∧ Aside0 (kq ≤ kj6) ∧ Aside0 (Kd.R Kd.string 9 wc w.heap.size (fun k_ => some k_ ≠ (v220 : Value).ownBlock) v217 t216) ∧ Aside0 (Kd.R Kd.string 9 wc w.heap.size (fun k_ => some k_ ≠ (v217 : Value).ownBlock) v220 t219) ∧ Aside0 (wc.heap[gb214]? = some (.cells #[.int .i64 a0_0, .string a0_1, .int .i64 a0_2, (.slice A0_3 l0_3.length c0_3)] 24 (0, 0))) ∧ Aside0 (Below w.heap.size w wc))
          case first =>
            have H := HC18.out
            clear HC18
            by_cases c19 : (t216.length : Int) > 0
            · rw [if_pos c19] at H
              have c19b0 : decide (0 < (t216.length : Int)) = true := decide_eq_true c19
              have c19b1 : decide (0 < t216.length) = true := decide_eq_true (by omega)
              clear c19
              (first | rw [c19b0] | (simp only [i64_w, i32_w]; rw [c19b0]) | skip)
              by_cases c20 : (t219.length : Int) > 0
              · rw [if_pos c20] at H
                have c20b0 : decide (0 < (t219.length : Int)) = true := decide_eq_true c20
                have c20b1 : decide (0 < t219.length) = true := decide_eq_true (by omega)
                clear c20
                by_cases c21 : t224 = 22
                · rw [if_pos c21] at H
                  have c21b0 : (t224 == 22) = true := beq_iff_eq.mpr c21
                  have c21b1 : (t224 != 22) = false := bne_eq_false_iff_eq.mpr c21
                  clear c21
                  have H' := Aside0.mk H
                  clear H
                  obtain ⟨Ao22, co22, eo22⟩ := Kd.R_slice HO_3.out
                  subst eo22
                  obtain ⟨Ao23, co23, eo23⟩ := Kd.R_slice HO_4.out
                  subst eo23
                  go_wp2
                  go_meet
                  case rel => exact ⟨_, (false), (by first | rfl | (simp; done) | (simp [*]; done)), H', ⟨by have := HJ6.out; first | omega | exact Nat.le_refl _⟩, ⟨by (with_reducible repeat (first | apply Kd.R_alloc | apply Kd.R_drewN | apply Kd.R_drew)); exact HO_3.out⟩, ⟨by (with_reducible repeat (first | apply Kd.R_alloc | apply Kd.R_drewN | apply Kd.R_drew)); exact HO_4.out⟩, ⟨by (with_reducible repeat (first | refine blk_drewN ?_ _ | refine blk_drew ?_ | refine blk_alloc ?_ _)); exact BK214.out⟩, ⟨by repeat (first | (with_reducible first | exact HB.out | apply below_alloc | apply pw_below_drewN | apply below_drew1 | refine below_set ?_ GE214.out) | exact HB.out)⟩⟩
                · rw [if_neg c21] at H
                  have c21b0 : (t224 == 22) = false := beq_eq_false_iff_ne.mpr c21
                  have c21b1 : (t224 != 22) = true := bne_iff_ne.mpr c21
                  have H' := Aside0.mk H
                  clear H
                  obtain ⟨Ao24, co24, eo24⟩ := Kd.R_slice HO_3.out
                  subst eo24
                  obtain ⟨Ao25, co25, eo25⟩ := Kd.R_slice HO_4.out
                  subst eo25
                  go_wp2
                  go_meet
                  case rel => exact ⟨_, ((t224 != 1)), (by first | rfl | (simp; done) | (simp [*]; done)), H', ⟨by have := HJ6.out; first | omega | exact Nat.le_refl _⟩, ⟨by (with_reducible repeat (first | apply Kd.R_alloc | apply Kd.R_drewN | apply Kd.R_drew)); exact HO_3.out⟩, ⟨by (with_reducible repeat (first | apply Kd.R_alloc | apply Kd.R_drewN | apply Kd.R_drew)); exact HO_4.out⟩, ⟨by (with_reducible repeat (first | refine blk_drewN ?_ _ | refine blk_drew ?_ | refine blk_alloc ?_ _)); exact BK214.out⟩, ⟨by repeat (first | (with_reducible first | exact HB.out | apply below_alloc | apply pw_below_drewN | apply below_drew1 | refine below_set ?_ GE214.out) | exact HB.out)⟩⟩
              · rw [if_neg c20] at H
                have c20b0 : decide (0 < (t219.length : Int)) = false := decide_eq_false c20
                have c20b1 : decide (0 < t219.length) = false := decide_eq_false (by omega)
                clear c20
                have H' := Aside0.mk H
                clear H
                obtain ⟨Ao26, co26, eo26⟩ := Kd.R_slice HO_3.out
                subst eo26
                obtain ⟨Ao27, co27, eo27⟩ := Kd.R_slice HO_4.out
                subst eo27
                go_wp2
                go_meet
                case rel => exact ⟨_, (false), (by first | rfl | (simp; done) | (simp [*]; done)), H', ⟨by have := HJ6.out; first | omega | exact Nat.le_refl _⟩, ⟨by (with_reducible repeat (first | apply Kd.R_alloc | apply Kd.R_drewN | apply Kd.R_drew)); exact HO_3.out⟩, ⟨by (with_reducible repeat (first | apply Kd.R_alloc | apply Kd.R_drewN | apply Kd.R_drew)); exact HO_4.out⟩, ⟨by (with_reducible repeat (first | refine blk_drewN ?_ _ | refine blk_drew ?_ | refine blk_alloc ?_ _)); exact BK214.out⟩, ⟨by repeat (first | (with_reducible first | exact HB.out | apply below_alloc | apply pw_below_drewN | apply below_drew1 | refine below_set ?_ GE214.out) | exact HB.out)⟩⟩
            · rw [if_neg c19] at H
              have c19b0 : decide (0 < (t216.length : Int)) = false := decide_eq_false c19
              have c19b1 : decide (0 < t216.length) = false := decide_eq_false (by omega)
              clear c19
              (first | rw [c19b0] | (simp only [i64_w, i32_w]; rw [c19b0]) | skip)
              have H' := Aside0.mk H
              clear H
              obtain ⟨Ao28, co28, eo28⟩ := Kd.R_slice HO_3.out
              subst eo28
              go_wp2
              go_meet
              case rel => exact ⟨_, (false), (by first | rfl | (simp; done) | (simp [*]; done)), H', ⟨by have := HJ6.out; first | omega | exact Nat.le_refl _⟩, ⟨by (with_reducible repeat (first | apply Kd.R_alloc | apply Kd.R_drewN | apply Kd.R_drew)); exact HO_3.out⟩, ⟨by (with_reducible repeat (first | apply Kd.R_alloc | apply Kd.R_drewN | apply Kd.R_drew)); exact HO_4.out⟩, ⟨by (with_reducible repeat (first | refine blk_drewN ?_ _ | refine blk_drew ?_ | refine blk_alloc ?_ _)); exact BK214.out⟩, ⟨by repeat (first | (with_reducible first | exact HB.out | apply below_alloc | apply pw_below_drewN | apply below_drew1 | refine below_set ?_ GE214.out) | exact HB.out)⟩⟩
          case rest =>
            clear HC18
            try clear c1
            try clear c2
            try clear p2
            try clear c3
            try clear c7
            try clear c8
            try clear c12
            try clear c15
            try clear c15b0
            try clear c15b1
            try clear c16
            try clear c16b0
            try clear c16b1
            try clear c17
            try clear c19
            try clear c19b0
            try clear c19b1
            try clear c20
            try clear c20b0
            try clear c20b1
            try clear c21
            try clear c21b0
            try clear c21b1
            try clear hcz13_0
            try clear hcz13_1
            try clear hcz13_2
            try clear hcz13_3
            try clear hfz13_0
            try clear hfz13_1
            try clear hfz13_2
            try clear hfz13_3
            try clear p2
            obtain ⟨kq, x56_17, rfl, HA, HJ17, HO_3, HO_4, BK214, HB⟩ := hcut
            cases kq with
            | zero => exact absurd HA.out (by simp [tollhouselaw07_FrameSmuggles.j1])
            | succ kj17 =>
              have H := HA.out
              clear HA
              simp only [tollhouselaw07_FrameSmuggles.j1] at H
              by_cases c29 : x56_17 = true
              · subst c29
                have H1 : (some false) = some r := by rw [if_pos rfl] at H; exact H
                clear H
                have H := H1
                clear H1
                exact absurd ((Option.some.inj H).trans hr_) (by decide)
              · replace c29 := Bool.eq_false_iff.mpr c29
                subst c29
                have H1 : (if t224 = 0 then (if t222 = 0 then (if (t216.length : Int) = 0 then (if (t219.length : Int) = 0 then (some (t223 == 0)) else (some false)) else (some false)) else (if t222 = 2 then (if (t216.length : Int) = 0 then (if a0_2 = 1 then (if t223 = 0 then ((strings_Join.f t219 (⟨#[44]⟩ : ByteArray)).bind fun t225 => ((strings_ToLower.f t225).bind fun t226 => ((strings_Count.f t226 (⟨#[99, 104, 117, 110, 107, 101, 100]⟩ : ByteArray)).bind fun t227 => (some (t227 == 1))))) else (some false)) else (some false)) else (some false)) else (if t222 = 1 then (if (t219.length : Int) > 0 then (tollhouselaw07_FrameSmuggles.j2 kj17 t216 t223 true) else (tollhouselaw07_FrameSmuggles.j2 kj17 t216 t223 (decide (t223 > 4096)))) else (some false)))) else (some true)) = some r := by rw [if_neg (show ¬ (false = true) by decide)] at H; exact H
                clear H
                have H := H1
                clear H1
                by_cases c30 : t224 = 0
                · rw [if_pos c30] at H
                  have c30b0 : (t224 == 0) = true := beq_iff_eq.mpr c30
                  have c30b1 : (t224 != 0) = false := bne_eq_false_iff_eq.mpr c30
                  clear c30
                  by_cases c31 : t222 = 0
                  · rw [if_pos c31] at H
                    have c31b0 : (t222 == 0) = true := beq_iff_eq.mpr c31
                    have c31b1 : (t222 != 0) = false := bne_eq_false_iff_eq.mpr c31
                    clear c31
                    by_cases c32 : (t216.length : Int) = 0
                    · rw [if_pos c32] at H
                      have c32b0 : ((t216.length : Int) == 0) = true := beq_iff_eq.mpr c32
                      have c32b1 : ((t216.length : Int) != 0) = false := bne_eq_false_iff_eq.mpr c32
                      clear c32
                      by_cases c33 : (t219.length : Int) = 0
                      · rw [if_pos c33] at H
                        have c33b0 : ((t219.length : Int) == 0) = true := beq_iff_eq.mpr c33
                        have c33b1 : ((t219.length : Int) != 0) = false := bne_eq_false_iff_eq.mpr c33
                        clear c33
                        obtain rfl := Option.some.inj H
                        obtain ⟨Ao34, co34, eo34⟩ := Kd.R_slice HO_3.out
                        subst eo34
                        obtain ⟨Ao35, co35, eo35⟩ := Kd.R_slice HO_4.out
                        subst eo35
                        go_wp2
                        go_ret
                        exact ⟨by first | rfl | (simp [errW_none, errW_some] <;> rfl) | (simp [*, errW_none, errW_some] <;> rfl), by repeat (first | (with_reducible first | exact HB.out | apply below_alloc | apply pw_below_drewN | apply below_drew1 | refine below_set ?_ GE214.out) | exact HB.out)⟩
                      · rw [if_neg c33] at H
                        have c33b0 : ((t219.length : Int) == 0) = false := beq_eq_false_iff_ne.mpr c33
                        have c33b1 : ((t219.length : Int) != 0) = true := bne_iff_ne.mpr c33
                        have c33b2 : ¬ (t219 = []) := fun h_ => c33 (by rw [h_]; rfl)
                        exact absurd ((Option.some.inj H).trans hr_) (by decide)
                    · rw [if_neg c32] at H
                      have c32b0 : ((t216.length : Int) == 0) = false := beq_eq_false_iff_ne.mpr c32
                      have c32b1 : ((t216.length : Int) != 0) = true := bne_iff_ne.mpr c32
                      have c32b2 : ¬ (t216 = []) := fun h_ => c32 (by rw [h_]; rfl)
                      exact absurd ((Option.some.inj H).trans hr_) (by decide)
                  · rw [if_neg c31] at H
                    have c31b0 : (t222 == 0) = false := beq_eq_false_iff_ne.mpr c31
                    have c31b1 : (t222 != 0) = true := bne_iff_ne.mpr c31
                    by_cases c36 : t222 = 2
                    · rw [if_pos c36] at H
                      have c36b0 : (t222 == 2) = true := beq_iff_eq.mpr c36
                      have c36b1 : (t222 != 2) = false := bne_eq_false_iff_eq.mpr c36
                      clear c36
                      by_cases c37 : (t216.length : Int) = 0
                      · rw [if_pos c37] at H
                        have c37b0 : ((t216.length : Int) == 0) = true := beq_iff_eq.mpr c37
                        have c37b1 : ((t216.length : Int) != 0) = false := bne_eq_false_iff_eq.mpr c37
                        clear c37
                        by_cases c38 : a0_2 = 1
                        · rw [if_pos c38] at H
                          have c38b0 : (a0_2 == 1) = true := beq_iff_eq.mpr c38
                          have c38b1 : (a0_2 != 1) = false := bne_eq_false_iff_eq.mpr c38
                          clear c38
                          by_cases c39 : t223 = 0
                          · rw [if_pos c39] at H
                            have c39b0 : (t223 == 0) = true := beq_iff_eq.mpr c39
                            have c39b1 : (t223 != 0) = false := bne_eq_false_iff_eq.mpr c39
                            clear c39
                            replace H := Option.bind_eq_some_iff.mp H
                            obtain ⟨t225, A400, H⟩ := H
                            replace H : ((strings_ToLower.f t225).bind fun t226 => ((strings_Count.f t226 (⟨#[99, 104, 117, 110, 107, 101, 100]⟩ : ByteArray)).bind fun t227 => (some (t227 == 1)))) = some r := H
                            have A40 := Aside0.mk A400
                            clear A400
                            replace H := Option.bind_eq_some_iff.mp H
                            obtain ⟨t226, A410, H⟩ := H
                            replace H : ((strings_Count.f t226 (⟨#[99, 104, 117, 110, 107, 101, 100]⟩ : ByteArray)).bind fun t227 => (some (t227 == 1))) = some r := H
                            have A41 := Aside0.mk A410
                            clear A410
                            replace H := Option.bind_eq_some_iff.mp H
                            obtain ⟨t227, A420, H⟩ := H
                            replace H : (some (t227 == 1)) = some r := H
                            have A42 := Aside0.mk A420
                            clear A420
                            obtain rfl := Option.some.inj H
                            obtain ⟨Ao43, co43, eo43⟩ := Kd.R_slice HO_3.out
                            subst eo43
                            have hcz44_0 : wc.cell? ⟨gb214, 0, none⟩ = some (.int .i64 a0_0) := (blk_cell BK214.out 0).trans rfl
                            have hcz44_1 : wc.cell? ⟨gb214, 1, none⟩ = some (.string a0_1) := (blk_cell BK214.out 1).trans rfl
                            have hcz44_2 : wc.cell? ⟨gb214, 2, none⟩ = some (.int .i64 a0_2) := (blk_cell BK214.out 2).trans rfl
                            have hcz44_3 : wc.cell? ⟨gb214, 3, none⟩ = some (.slice A0_3 l0_3.length c0_3) := (blk_cell BK214.out 3).trans rfl
                            have hfz44_0 := blk_frozen BK214.out 0
                            have hfz44_1 := blk_frozen BK214.out 1
                            have hfz44_2 := blk_frozen BK214.out 2
                            have hfz44_3 := blk_frozen BK214.out 3
                            obtain ⟨Ao45, co45, eo45⟩ := Kd.R_slice HO_4.out
                            subst eo45
                            go_wp2_with (first | (go_at_call 20; (with_reducible refine (strings_Join.calls _ _ t219 (⟨#[44]⟩ : ByteArray) t225 _ ?side1 ?side2 A40.out).mono ?_); (case side1 => exact joinRow (by (with_reducible repeat (first | apply Kd.R_alloc | apply Kd.R_drewN | apply Kd.R_drew)); exact HO_4.out)); (case side2 => exact (Kd.R_reads' HO_4.out).2.1); rintro e w46 ⟨rfl, hb⟩; have n0_ := Aside0.mk (Kd.R_below (by (with_reducible repeat (first | apply Kd.R_alloc | apply Kd.R_drewN | apply Kd.R_drew)); exact HO_3.out) hb); have n1_ := Aside0.mk (Kd.R_below (by (with_reducible repeat (first | apply Kd.R_alloc | apply Kd.R_drewN | apply Kd.R_drew)); exact HO_4.out) hb); have n2_ := Aside0.mk (blk_below (g := gb214) (o := .cells #[.int .i64 a0_0, .string a0_1, .int .i64 a0_2, .slice A0_3 l0_3.length c0_3] 24 (0, 0)) (by (with_reducible repeat (first | refine blk_drewN ?_ _ | refine blk_drew ?_ | refine blk_alloc ?_ _)); exact BK214.out) hb); have n3_ := Aside0.mk (below_step (by repeat (first | (with_reducible first | exact HB.out | apply below_alloc | apply pw_below_drewN | apply below_drew1 | refine below_set ?_ GE214.out) | exact HB.out)) hb); clear HO_3; clear HO_4; clear BK214; clear HB; have HO_3 := n0_; have HO_4 := n1_; have BK214 := n2_; have HB := n3_; clear n0_ n1_ n2_ n3_; (try clear hb); (try clear hb2); (try clear hk); (try clear hi)) | (go_at_call 19; (with_reducible refine (strings_ToLower.calls t225 t226 _ A41.out).mono ?_); rintro e w47 ⟨rfl, hb⟩; have n0_ := Aside0.mk (Kd.R_below (by (with_reducible repeat (first | apply Kd.R_alloc | apply Kd.R_drewN | apply Kd.R_drew)); exact HO_3.out) hb); have n1_ := Aside0.mk (Kd.R_below (by (with_reducible repeat (first | apply Kd.R_alloc | apply Kd.R_drewN | apply Kd.R_drew)); exact HO_4.out) hb); have n2_ := Aside0.mk (blk_below (g := gb214) (o := .cells #[.int .i64 a0_0, .string a0_1, .int .i64 a0_2, .slice A0_3 l0_3.length c0_3] 24 (0, 0)) (by (with_reducible repeat (first | refine blk_drewN ?_ _ | refine blk_drew ?_ | refine blk_alloc ?_ _)); exact BK214.out) hb); have n3_ := Aside0.mk (below_step (by repeat (first | (with_reducible first | exact HB.out | apply below_alloc | apply pw_below_drewN | apply below_drew1 | refine below_set ?_ GE214.out) | exact HB.out)) hb); clear HO_3; clear HO_4; clear BK214; clear HB; have HO_3 := n0_; have HO_4 := n1_; have BK214 := n2_; have HB := n3_; clear n0_ n1_ n2_ n3_; (try clear hb); (try clear hb2); (try clear hk); (try clear hi)) | (go_at_call 18; (with_reducible refine (strings_Count.calls t226 (⟨#[99, 104, 117, 110, 107, 101, 100]⟩ : ByteArray) t227 _ ?sideT A42.out).mono ?_); (case sideT => repeat (first | exact HT.out | exact (Tab.below HT.out HB.out) | (with_reducible first | refine Tab.alloc ?_ _ | refine Tab.drewN ?_ _ | refine Tab.drew ?_ | refine Tab.set ?_ HT.out GE214.out _))); rintro e w48 ⟨rfl, hb⟩; have n0_ := Aside0.mk (Kd.R_below (by (with_reducible repeat (first | apply Kd.R_alloc | apply Kd.R_drewN | apply Kd.R_drew)); exact HO_3.out) hb); have n1_ := Aside0.mk (Kd.R_below (by (with_reducible repeat (first | apply Kd.R_alloc | apply Kd.R_drewN | apply Kd.R_drew)); exact HO_4.out) hb); have n2_ := Aside0.mk (blk_below (g := gb214) (o := .cells #[.int .i64 a0_0, .string a0_1, .int .i64 a0_2, .slice A0_3 l0_3.length c0_3] 24 (0, 0)) (by (with_reducible repeat (first | refine blk_drewN ?_ _ | refine blk_drew ?_ | refine blk_alloc ?_ _)); exact BK214.out) hb); have n3_ := Aside0.mk (below_step (by repeat (first | (with_reducible first | exact HB.out | apply below_alloc | apply pw_below_drewN | apply below_drew1 | refine below_set ?_ GE214.out) | exact HB.out)) hb); clear HO_3; clear HO_4; clear BK214; clear HB; have HO_3 := n0_; have HO_4 := n1_; have BK214 := n2_; have HB := n3_; clear n0_ n1_ n2_ n3_; (try clear hb); (try clear hb2); (try clear hk); (try clear hi)))
                            go_ret
                            exact ⟨by first | rfl | (simp [errW_none, errW_some] <;> rfl) | (simp [*, errW_none, errW_some] <;> rfl), by repeat (first | (with_reducible first | exact HB.out | apply below_alloc | apply pw_below_drewN | apply below_drew1 | refine below_set ?_ GE214.out) | exact HB.out)⟩
                          · rw [if_neg c39] at H
                            have c39b0 : (t223 == 0) = false := beq_eq_false_iff_ne.mpr c39
                            have c39b1 : (t223 != 0) = true := bne_iff_ne.mpr c39
                            exact absurd ((Option.some.inj H).trans hr_) (by decide)
                        · rw [if_neg c38] at H
                          have c38b0 : (a0_2 == 1) = false := beq_eq_false_iff_ne.mpr c38
                          have c38b1 : (a0_2 != 1) = true := bne_iff_ne.mpr c38
                          exact absurd ((Option.some.inj H).trans hr_) (by decide)
                      · rw [if_neg c37] at H
                        have c37b0 : ((t216.length : Int) == 0) = false := beq_eq_false_iff_ne.mpr c37
                        have c37b1 : ((t216.length : Int) != 0) = true := bne_iff_ne.mpr c37
                        have c37b2 : ¬ (t216 = []) := fun h_ => c37 (by rw [h_]; rfl)
                        exact absurd ((Option.some.inj H).trans hr_) (by decide)
                    · rw [if_neg c36] at H
                      have c36b0 : (t222 == 2) = false := beq_eq_false_iff_ne.mpr c36
                      have c36b1 : (t222 != 2) = true := bne_iff_ne.mpr c36
                      by_cases c49 : t222 = 1
                      · rw [if_pos c49] at H
                        have c49b0 : (t222 == 1) = true := beq_iff_eq.mpr c49
                        have c49b1 : (t222 != 1) = false := bne_eq_false_iff_eq.mpr c49
                        clear c49
                        have HC50 := Aside0.mk H
                        clear H
                        go_upto_region 17 with (fail)
                        go_cut [103] (fun v103 wc => ∃ (kq : Nat) (x103_49 : Bool), v103 = .bool x103_49 ∧ Aside0 (tollhouselaw07_FrameSmuggles.j2 kq t216 t223 x103_49 = some r) ∧ Aside0 (kq ≤ kj17) ∧ Aside0 (Kd.R Kd.string 9 wc w.heap.size (fun _ => True) v217 t216) ∧ Aside0 (wc.heap[gb214]? = some (.cells #[.int .i64 a0_0, .string a0_1, .int .i64 a0_2, (.slice A0_3 l0_3.length c0_3)] 24 (0, 0))) ∧ Aside0 (Below w.heap.size w wc))
                        case first =>
                          have H := HC50.out
                          clear HC50
                          by_cases c51 : (t219.length : Int) > 0
                          · rw [if_pos c51] at H
                            have c51b0 : decide (0 < (t219.length : Int)) = true := decide_eq_true c51
                            have c51b1 : decide (0 < t219.length) = true := decide_eq_true (by omega)
                            clear c51
                            (first | rw [c51b0] | (simp only [i64_w, i32_w]; rw [c51b0]) | skip)
                            have H' := Aside0.mk H
                            clear H
                            obtain ⟨Ao52, co52, eo52⟩ := Kd.R_slice HO_4.out
                            subst eo52
                            go_wp2
                            go_meet
                            case rel => exact ⟨_, (true), (by first | rfl | (simp; done) | (simp [*]; done)), H', ⟨by have := HJ6.out; have := HJ17.out; first | omega | exact Nat.le_refl _⟩, ⟨by (with_reducible repeat (first | apply Kd.R_alloc | apply Kd.R_drewN | apply Kd.R_drew)); exact Kd.R_mono HO_3.out (fun _ hk => trivial)⟩, ⟨by (with_reducible repeat (first | refine blk_drewN ?_ _ | refine blk_drew ?_ | refine blk_alloc ?_ _)); exact BK214.out⟩, ⟨by repeat (first | (with_reducible first | exact HB.out | apply below_alloc | apply pw_below_drewN | apply below_drew1 | refine below_set ?_ GE214.out) | exact HB.out)⟩⟩
                          · rw [if_neg c51] at H
                            have c51b0 : decide (0 < (t219.length : Int)) = false := decide_eq_false c51
                            have c51b1 : decide (0 < t219.length) = false := decide_eq_false (by omega)
                            clear c51
                            (first | rw [c51b0] | (simp only [i64_w, i32_w]; rw [c51b0]) | skip)
                            have H' := Aside0.mk H
                            clear H
                            obtain ⟨Ao53, co53, eo53⟩ := Kd.R_slice HO_4.out
                            subst eo53
                            go_wp2
                            go_meet
                            case rel => exact ⟨_, (decide (t223 > 4096)), (by first | rfl | (simp; done) | (simp [*]; done)), H', ⟨by have := HJ6.out; have := HJ17.out; first | omega | exact Nat.le_refl _⟩, ⟨by (with_reducible repeat (first | apply Kd.R_alloc | apply Kd.R_drewN | apply Kd.R_drew)); exact Kd.R_mono HO_3.out (fun _ hk => trivial)⟩, ⟨by (with_reducible repeat (first | refine blk_drewN ?_ _ | refine blk_drew ?_ | refine blk_alloc ?_ _)); exact BK214.out⟩, ⟨by repeat (first | (with_reducible first | exact HB.out | apply below_alloc | apply pw_below_drewN | apply below_drew1 | refine below_set ?_ GE214.out) | exact HB.out)⟩⟩
                        case rest =>
                          clear HC50
                          try clear c1
                          try clear c2
                          try clear p2
                          try clear c3
                          try clear c4
                          try clear c5
                          try clear c7
                          try clear c8
                          try clear c12
                          try clear c15
                          try clear c15b0
                          try clear c15b1
                          try clear c16
                          try clear c16b0
                          try clear c16b1
                          try clear c17
                          try clear c19
                          try clear c19b0
                          try clear c19b1
                          try clear c20
                          try clear c20b0
                          try clear c20b1
                          try clear c21
                          try clear c21b0
                          try clear c21b1
                          try clear c29
                          try clear c30
                          try clear c30b0
                          try clear c30b1
                          try clear c31
                          try clear c31b0
                          try clear c31b1
                          try clear c32
                          try clear c32b0
                          try clear c32b1
                          try clear c32b2
                          try clear c33
                          try clear c33b0
                          try clear c33b1
                          try clear c33b2
                          try clear c36
                          try clear c36b0
                          try clear c36b1
                          try clear c37
                          try clear c37b0
                          try clear c37b1
                          try clear c37b2
                          try clear c38
                          try clear c38b0
                          try clear c38b1
                          try clear c39
                          try clear c39b0
                          try clear c39b1
                          try clear c49
                          try clear c49b0
                          try clear c49b1
                          try clear c51
                          try clear c51b0
                          try clear c51b1
                          try clear hcz13_0
                          try clear hcz13_1
                          try clear hcz13_2
                          try clear hcz13_3
                          try clear hcz44_0
                          try clear hcz44_1
                          try clear hcz44_2
                          try clear hcz44_3
                          try clear hfz13_0
                          try clear hfz13_1
                          try clear hfz13_2
                          try clear hfz13_3
                          try clear hfz44_0
                          try clear hfz44_1
                          try clear hfz44_2
                          try clear hfz44_3
                          try clear p2
                          obtain ⟨kq, x103_49, rfl, HA, HJ49, HO_3, BK214, HB⟩ := hcut
                          cases kq with
                          | zero => exact absurd HA.out (by simp [tollhouselaw07_FrameSmuggles.j2])
                          | succ kj49 =>
                            have H := HA.out
                            clear HA
                            simp only [tollhouselaw07_FrameSmuggles.j2] at H
                            by_cases c54 : x103_49 = true
                            · subst c54
                              have H1 : (some false) = some r := by rw [if_pos rfl] at H; exact H
                              clear H
                              have H := H1
                              clear H1
                              exact absurd ((Option.some.inj H).trans hr_) (by decide)
                            · replace c54 := Bool.eq_false_iff.mpr c54
                              subst c54
                              have H1 : (tollhouselaw07_FrameSmuggles.l0 kj49 t223 t216 (t216.length : Int) 0) = some r := by rw [if_neg (show ¬ (false = true) by decide)] at H; exact H
                              clear H
                              have H := H1
                              clear H1
                              have H' := Aside0.mk H
                              clear H
                              obtain ⟨Ao55, co55, eo55⟩ := Kd.R_slice HO_3.out
                              subst eo55
                              go_wp2
                              go_loopg [106] kj49 (fun kq v106 w' => ∃ (x106_4 : Int), v106 = .int .i64 x106_4 ∧ Aside0 (tollhouselaw07_FrameSmuggles.l0 kq t223 t216 (t216.length : Int) x106_4 = some r) ∧ Aside0 (kq ≤ kj49) ∧ Aside0 (Kd.R Kd.string 9 w' w.heap.size (fun _ => True) (.slice Ao55 t216.length co55) t216) ∧ Aside0 (w'.heap[gb214]? = some (.cells #[.int .i64 a0_0, .string a0_1, .int .i64 a0_2, (.slice A0_3 l0_3.length c0_3)] 24 (0, 0))) ∧ Aside0 (Below w.heap.size w w'))
                              case atStart => exact ⟨(0), (by first | rfl | (simp; done) | (simp [*]; done)), H', ⟨Nat.le_refl _⟩, ⟨by (with_reducible repeat (first | apply Kd.R_alloc | apply Kd.R_drewN | apply Kd.R_drew)); exact HO_3.out⟩, ⟨by (with_reducible repeat (first | refine blk_drewN ?_ _ | refine blk_drew ?_ | refine blk_alloc ?_ _)); exact BK214.out⟩, ⟨by repeat (first | (with_reducible first | exact HB.out | apply below_alloc | apply pw_below_drewN | apply below_drew1 | refine below_set ?_ GE214.out) | exact HB.out)⟩⟩
                              case round =>
                                clear H'
                                try clear c1
                                try clear c2
                                try clear p2
                                try clear c3
                                try clear c4
                                try clear c5
                                try clear c7
                                try clear c8
                                try clear c12
                                try clear c15
                                try clear c15b0
                                try clear c15b1
                                try clear c16
                                try clear c16b0
                                try clear c16b1
                                try clear c17
                                try clear c19
                                try clear c19b0
                                try clear c19b1
                                try clear c20
                                try clear c20b0
                                try clear c20b1
                                try clear c21
                                try clear c21b0
                                try clear c21b1
                                try clear c29
                                try clear c30
                                try clear c30b0
                                try clear c30b1
                                try clear c31
                                try clear c31b0
                                try clear c31b1
                                try clear c32
                                try clear c32b0
                                try clear c32b1
                                try clear c32b2
                                try clear c33
                                try clear c33b0
                                try clear c33b1
                                try clear c33b2
                                try clear c36
                                try clear c36b0
                                try clear c36b1
                                try clear c37
                                try clear c37b0
                                try clear c37b1
                                try clear c37b2
                                try clear c38
                                try clear c38b0
                                try clear c38b1
                                try clear c39
                                try clear c39b0
                                try clear c39b1
                                try clear c49
                                try clear c49b0
                                try clear c49b1
                                try clear c51
                                try clear c51b0
                                try clear c51b1
                                try clear c54
                                try clear hcz13_0
                                try clear hcz13_1
                                try clear hcz13_2
                                try clear hcz13_3
                                try clear hcz44_0
                                try clear hcz44_1
                                try clear hcz44_2
                                try clear hcz44_3
                                try clear hfz13_0
                                try clear hfz13_1
                                try clear hfz13_2
                                try clear hfz13_3
                                try clear hfz44_0
                                try clear hfz44_1
                                try clear hfz44_2
                                try clear hfz44_3
                                try clear p2
                                obtain ⟨x106_4, rfl, HA, HK4, HO_104, BK214, HB⟩ := hrel
                                cases gk with
                                | zero => exact absurd HA.out (by simp [tollhouselaw07_FrameSmuggles.l0])
                                | succ k4 =>
                                  have H := HA.out
                                  clear HA
                                  simp only [tollhouselaw07_FrameSmuggles.l0] at H
                                  by_cases c56 : x106_4 < (t216.length : Int)
                                  · rw [if_pos c56] at H
                                    have c56b0 : decide (x106_4 < (t216.length : Int)) = true := decide_eq_true c56
                                    clear c56
                                    by_cases c57 : 0 ≤ x106_4
                                    · rw [if_pos c57] at H
                                      have c57b0 : decide (0 ≤ x106_4) = true := decide_eq_true c57
                                      clear c57
                                      by_cases c58 : x106_4 < (t216.length : Int)
                                      · rw [if_pos c58] at H
                                        have c58b0 : decide (x106_4 < (t216.length : Int)) = true := decide_eq_true c58
                                        clear c58
                                        replace H := Option.bind_eq_some_iff.mp H
                                        obtain ⟨t229, A590, H⟩ := H
                                        replace H : (tollhouselaw07_FrameSmuggles.l1 k4 t223 t216 (t216.length : Int) x106_4 t229 (t229.length : Int) 0) = some r := H
                                        have A59 := Aside0.mk A590
                                        clear A590
                                        have H' := Aside0.mk H
                                        clear H
                                        have p228 : 0 ≤ (x106_4 : Int) := of_decide_eq_true (by first | (with_reducible assumption) | assumption)
                                        have q228 : x106_4 < (t216.length : Int) := of_decide_eq_true (by first | (with_reducible assumption) | assumption)
                                        obtain ⟨ad228, e228, hx228_0⟩ := Kd.at_string (Kd.R_reads' HO_104.out).2.2 x106_4 p228 q228
                                        cases e228
                                        replace p228 := eq_true p228
                                        replace q228 := eq_true q228
                                        go_wp2_with (first | ((with_reducible refine gate_callee (f := 21) rfl ?_); refine goesL_ (some 111) rfl rfl Tryd.func21 (by kernel_rfl) rfl #[.string (rdOf ByteArray.empty t216 x106_4)] rfl (by (try simp only [List.map_toArray, List.map_cons, List.map_nil]); first | done | rfl | (simp only [List.length_drop, List.length_take]; rfl)) ?_; (with_reducible refine (tollhouseref02_List.calls k4 (rdOf ByteArray.empty t216 x106_4) t229 _ A59.out).mono ?_); rintro e w60 ⟨v230, rfl, ho0, hb⟩; refine ⟨_, rfl, ?_⟩; have n0_ := Aside0.mk (Kd.R_elder' (by (with_reducible repeat (first | apply Kd.R_alloc | apply Kd.R_drewN | apply Kd.R_drew)); exact HO_104.out) (Kd.R_base ho0) hb); have n1_ := Aside0.mk (Kd.R_lower (Kd.R_new' ho0 (Kd.R_lt (by (with_reducible repeat (first | apply Kd.R_alloc | apply Kd.R_drewN | apply Kd.R_drew)); exact HO_104.out))) (below_size (by repeat (first | (with_reducible first | exact HB.out | apply below_alloc | apply pw_below_drewN | apply below_drew1 | refine below_set ?_ GE214.out) | exact HB.out)))); have n2_ := Aside0.mk (blk_below (g := gb214) (o := .cells #[.int .i64 a0_0, .string a0_1, .int .i64 a0_2, .slice A0_3 l0_3.length c0_3] 24 (0, 0)) (by (with_reducible repeat (first | refine blk_drewN ?_ _ | refine blk_drew ?_ | refine blk_alloc ?_ _)); exact BK214.out) hb); have n3_ := Aside0.mk (below_step (by repeat (first | (with_reducible first | exact HB.out | apply below_alloc | apply pw_below_drewN | apply below_drew1 | refine below_set ?_ GE214.out) | exact HB.out)) hb); clear HO_104; clear BK214; clear HB; have HO_104 := n0_; have HO231 := n1_; have BK214 := n2_; have HB := n3_; clear n0_ n1_ n2_ n3_; (try clear hb); (try clear hb2); (try clear hk); (try clear hi); (try clear ho0); obtain ⟨Ao61, co61, eo61⟩ := Kd.R_slice HO231.out; subst eo61))
                                        go_loopg [113] k4 (fun kq v113 w' => ∃ (x113_5 : Int), v113 = .int .i64 x113_5 ∧ Aside0 (tollhouselaw07_FrameSmuggles.l1 kq t223 t216 (t216.length : Int) x106_4 t229 (t229.length : Int) x113_5 = some r) ∧ Aside0 (kq ≤ k4) ∧ Aside0 (Kd.R Kd.string 9 w' w.heap.size (fun k_ => some k_ ≠ ((.slice Ao61 t229.length co61) : Value).ownBlock) (.slice (some ad228) t216.length co55) t216) ∧ Aside0 (Kd.R Kd.string 9 w' w.heap.size (fun k_ => some k_ ≠ ((.slice (some ad228) t216.length co55) : Value).ownBlock) (.slice Ao61 t229.length co61) t229) ∧ Aside0 (w'.heap[gb214]? = some (.cells #[.int .i64 a0_0, .string a0_1, .int .i64 a0_2, (.slice A0_3 l0_3.length c0_3)] 24 (0, 0))) ∧ Aside0 (Below w.heap.size w w'))
                                        case atStart => exact ⟨(0), (by first | rfl | (simp; done) | (simp [*]; done)), H', ⟨Nat.le_refl _⟩, ⟨by (with_reducible repeat (first | apply Kd.R_alloc | apply Kd.R_drewN | apply Kd.R_drew)); exact Kd.R_mono HO_104.out (fun _ hk => hk.2)⟩, ⟨by (with_reducible repeat (first | apply Kd.R_alloc | apply Kd.R_drewN | apply Kd.R_drew)); exact Kd.R_mono HO231.out (fun _ hk => hk.2)⟩, ⟨by (with_reducible repeat (first | refine blk_drewN ?_ _ | refine blk_drew ?_ | refine blk_alloc ?_ _)); exact BK214.out⟩, ⟨by repeat (first | (with_reducible first | exact HB.out | apply below_alloc | apply pw_below_drewN | apply below_drew1 | refine below_set ?_ GE214.out) | exact HB.out)⟩⟩
                                        case round =>
                                          clear H'
                                          try clear c1
                                          try clear c2
                                          try clear p2
                                          try clear q2
                                          try clear hx2
                                          try clear c3
                                          try clear c4
                                          try clear c5
                                          try clear c7
                                          try clear c8
                                          try clear c12
                                          try clear c15
                                          try clear c15b0
                                          try clear c15b1
                                          try clear c16
                                          try clear c16b0
                                          try clear c16b1
                                          try clear c17
                                          try clear c19
                                          try clear c19b0
                                          try clear c19b1
                                          try clear c20
                                          try clear c20b0
                                          try clear c20b1
                                          try clear c21
                                          try clear c21b0
                                          try clear c21b1
                                          try clear p22
                                          try clear q22
                                          try clear hx22
                                          try clear c29
                                          try clear c30
                                          try clear c30b0
                                          try clear c30b1
                                          try clear c31
                                          try clear c31b0
                                          try clear c31b1
                                          try clear c32
                                          try clear c32b0
                                          try clear c32b1
                                          try clear c32b2
                                          try clear c33
                                          try clear c33b0
                                          try clear c33b1
                                          try clear c33b2
                                          try clear c36
                                          try clear c36b0
                                          try clear c36b1
                                          try clear c37
                                          try clear c37b0
                                          try clear c37b1
                                          try clear c37b2
                                          try clear c38
                                          try clear c38b0
                                          try clear c38b1
                                          try clear c39
                                          try clear c39b0
                                          try clear c39b1
                                          try clear c49
                                          try clear c49b0
                                          try clear c49b1
                                          try clear c51
                                          try clear c51b0
                                          try clear c51b1
                                          try clear c54
                                          try clear c56
                                          try clear c56b0
                                          try clear c57
                                          try clear c57b0
                                          try clear c58
                                          try clear c58b0
                                          try clear hcz13_0
                                          try clear hcz13_1
                                          try clear hcz13_2
                                          try clear hcz13_3
                                          try clear hcz44_0
                                          try clear hcz44_1
                                          try clear hcz44_2
                                          try clear hcz44_3
                                          try clear hfz13_0
                                          try clear hfz13_1
                                          try clear hfz13_2
                                          try clear hfz13_3
                                          try clear hfz44_0
                                          try clear hfz44_1
                                          try clear hfz44_2
                                          try clear hfz44_3
                                          try clear hx228_0
                                          try clear p2
                                          try clear p228
                                          try clear q228
                                          obtain ⟨x113_5, rfl, HA, HK5, HO_104, HO_111, BK214, HB⟩ := hrel
                                          cases gk with
                                          | zero => exact absurd HA.out (by simp [tollhouselaw07_FrameSmuggles.l1])
                                          | succ k5 =>
                                            have H := HA.out
                                            clear HA
                                            simp only [tollhouselaw07_FrameSmuggles.l1] at H
                                            by_cases c62 : x113_5 < (t229.length : Int)
                                            · rw [if_pos c62] at H
                                              have c62b0 : decide (x113_5 < (t229.length : Int)) = true := decide_eq_true c62
                                              clear c62
                                              by_cases c63 : 0 ≤ x113_5
                                              · rw [if_pos c63] at H
                                                have c63b0 : decide (0 ≤ x113_5) = true := decide_eq_true c63
                                                clear c63
                                                by_cases c64 : x113_5 < (t229.length : Int)
                                                · rw [if_pos c64] at H
                                                  have c64b0 : decide (x113_5 < (t229.length : Int)) = true := decide_eq_true c64
                                                  clear c64
                                                  have H' := Aside0.mk H
                                                  clear H
                                                  have p232 : 0 ≤ (x113_5 : Int) := of_decide_eq_true (by first | (with_reducible assumption) | assumption)
                                                  have q232 : x113_5 < (t229.length : Int) := of_decide_eq_true (by first | (with_reducible assumption) | assumption)
                                                  obtain ⟨ad232, e232, hx232_0⟩ := Kd.at_string (Kd.R_reads' HO_111.out).2.2 x113_5 p232 q232
                                                  cases e232
                                                  replace p232 := eq_true p232
                                                  replace q232 := eq_true q232
                                                  go_wp2
                                                  go_loopg [12, 119] k5 (fun kq v12 v119 w' => ∃ (x12_6 : Int) (x119_6 : Int), v12 = .int .u64 x12_6 ∧ v119 = .int .i64 x119_6 ∧ Aside0 (tollhouselaw07_FrameSmuggles.l2 kq t223 (rdOf ByteArray.empty t229 x113_5) x12_6 t216 (t216.length : Int) x106_4 t229 (t229.length : Int) x113_5 ((rdOf ByteArray.empty t229 x113_5).size : Int) x119_6 = some r) ∧ Aside0 (kq ≤ k5) ∧ Aside0 (Kd.R Kd.string 9 w' w.heap.size (fun k_ => some k_ ≠ ((.slice (some ad232) t229.length co61) : Value).ownBlock) (.slice (some ad228) t216.length co55) t216) ∧ Aside0 (Kd.R Kd.string 9 w' w.heap.size (fun k_ => some k_ ≠ ((.slice (some ad228) t216.length co55) : Value).ownBlock) (.slice (some ad232) t229.length co61) t229) ∧ Aside0 (w'.heap[gb214]? = some (.cells #[.int .i64 a0_0, .string a0_1, .int .i64 a0_2, (.slice A0_3 l0_3.length c0_3)] 24 (0, 0))) ∧ Aside0 (Below w.heap.size w w'))
                                                  case atStart => exact ⟨(0), (0), (by first | rfl | (simp; done) | (simp [*]; done)), (by first | rfl | (simp; done) | (simp [*]; done)), H', ⟨Nat.le_refl _⟩, ⟨by (with_reducible repeat (first | apply Kd.R_alloc | apply Kd.R_drewN | apply Kd.R_drew)); exact HO_104.out⟩, ⟨by (with_reducible repeat (first | apply Kd.R_alloc | apply Kd.R_drewN | apply Kd.R_drew)); exact HO_111.out⟩, ⟨by (with_reducible repeat (first | refine blk_drewN ?_ _ | refine blk_drew ?_ | refine blk_alloc ?_ _)); exact BK214.out⟩, ⟨by repeat (first | (with_reducible first | exact HB.out | apply below_alloc | apply pw_below_drewN | apply below_drew1 | refine below_set ?_ GE214.out) | exact HB.out)⟩⟩
                                                  case round =>
                                                    clear H'
                                                    try clear c1
                                                    try clear c2
                                                    try clear p2
                                                    try clear q2
                                                    try clear hx2
                                                    try clear c3
                                                    try clear c4
                                                    try clear c5
                                                    try clear c6
                                                    try clear c7
                                                    try clear c8
                                                    try clear c12
                                                    try clear c15
                                                    try clear c15b0
                                                    try clear c15b1
                                                    try clear c16
                                                    try clear c16b0
                                                    try clear c16b1
                                                    try clear c17
                                                    try clear c19
                                                    try clear c19b0
                                                    try clear c19b1
                                                    try clear c20
                                                    try clear c20b0
                                                    try clear c20b1
                                                    try clear c21
                                                    try clear c21b0
                                                    try clear c21b1
                                                    try clear p22
                                                    try clear q22
                                                    try clear hx22
                                                    try clear p23
                                                    try clear q23
                                                    try clear hx23
                                                    try clear c29
                                                    try clear c30
                                                    try clear c30b0
                                                    try clear c30b1
                                                    try clear c31
                                                    try clear c31b0
                                                    try clear c31b1
                                                    try clear c32
                                                    try clear c32b0
                                                    try clear c32b1
                                                    try clear c32b2
                                                    try clear c33
                                                    try clear c33b0
                                                    try clear c33b1
                                                    try clear c33b2
                                                    try clear c36
                                                    try clear c36b0
                                                    try clear c36b1
                                                    try clear c37
                                                    try clear c37b0
                                                    try clear c37b1
                                                    try clear c37b2
                                                    try clear c38
                                                    try clear c38b0
                                                    try clear c38b1
                                                    try clear c39
                                                    try clear c39b0
                                                    try clear c39b1
                                                    try clear c49
                                                    try clear c49b0
                                                    try clear c49b1
                                                    try clear c51
                                                    try clear c51b0
                                                    try clear c51b1
                                                    try clear c54
                                                    try clear c56
                                                    try clear c56b0
                                                    try clear c57
                                                    try clear c57b0
                                                    try clear c58
                                                    try clear c58b0
                                                    try clear c62
                                                    try clear c62b0
                                                    try clear c63
                                                    try clear c63b0
                                                    try clear c64
                                                    try clear c64b0
                                                    try clear hcz13_0
                                                    try clear hcz13_1
                                                    try clear hcz13_2
                                                    try clear hcz13_3
                                                    try clear hcz44_0
                                                    try clear hcz44_1
                                                    try clear hcz44_2
                                                    try clear hcz44_3
                                                    try clear hfz13_0
                                                    try clear hfz13_1
                                                    try clear hfz13_2
                                                    try clear hfz13_3
                                                    try clear hfz44_0
                                                    try clear hfz44_1
                                                    try clear hfz44_2
                                                    try clear hfz44_3
                                                    try clear hx228_0
                                                    try clear hx232_0
                                                    try clear p2
                                                    try clear p22
                                                    try clear p228
                                                    try clear p232
                                                    try clear q2
                                                    try clear q22
                                                    try clear q228
                                                    try clear q232
                                                    obtain ⟨x12_6, x119_6, rfl, rfl, HA, HK6, HO_104, HO_111, BK214, HB⟩ := hrel
                                                    cases gk with
                                                    | zero => exact absurd HA.out (by simp [tollhouselaw07_FrameSmuggles.l2])
                                                    | succ k6 =>
                                                      have H := HA.out
                                                      clear HA
                                                      simp only [tollhouselaw07_FrameSmuggles.l2] at H
                                                      by_cases c65 : x119_6 < ((rdOf ByteArray.empty t229 x113_5).size : Int)
                                                      · rw [if_pos c65] at H
                                                        have c65b0 : decide (x119_6 < ((rdOf ByteArray.empty t229 x113_5).size : Int)) = true := decide_eq_true c65
                                                        clear c65
                                                        have HC66 := Aside0.mk H
                                                        clear H
                                                        go_upto_region 29 with (fail)
                                                        go_cut [131] (fun v131 wc => ∃ (kq : Nat) (x131_65 : Bool), v131 = .bool x131_65 ∧ Aside0 (tollhouselaw07_FrameSmuggles.j6 kq t223 (rdOf ByteArray.empty t229 x113_5) x12_6 x119_6 t216 (t216.length : Int) x106_4 t229 (t229.length : Int) x113_5 ((rdOf ByteArray.empty t229 x113_5).size : Int) x119_6 x131_65 = some r) ∧ Aside0 (kq ≤ k6) ∧ Aside0 (Kd.R Kd.string 9 wc w.heap.size (fun k_ => some k_ ≠ ((.slice (some ad232) t229.length co61) : Value).ownBlock) (.slice (some ad228) t216.length co55) t216) ∧ Aside0 (Kd.R Kd.string 9 wc w.heap.size (fun k_ => some k_ ≠ ((.slice (some ad228) t216.length co55) : Value).ownBlock) (.slice (some ad232) t229.length co61) t229) ∧ Aside0 (wc.heap[gb214]? = some (.cells #[.int .i64 a0_0, .string a0_1, .int .i64 a0_2, (.slice A0_3 l0_3.length c0_3)] 24 (0, 0))) ∧ Aside0 (Below w.heap.size w wc))
                                                        case first =>
                                                          have H := HC66.out
                                                          clear HC66
                                                          by_cases c67 : 0 ≤ x119_6
                                                          · rw [if_pos c67] at H
                                                            have c67b0 : decide (0 ≤ x119_6) = true := decide_eq_true c67
                                                            clear c67
                                                            (first | rw [c67b0] | (simp only [i64_w, i32_w]; rw [c67b0]) | skip)
                                                            by_cases c68 : x119_6 < ((rdOf ByteArray.empty t229 x113_5).size : Int)
                                                            · rw [if_pos c68] at H
                                                              have c68b0 : decide (x119_6 < ((rdOf ByteArray.empty t229 x113_5).size : Int)) = true := decide_eq_true c68
                                                              clear c68
                                                              by_cases c70 : (bt (rdOf ByteArray.empty t229 x113_5) x119_6) < 48
                                                              · rw [if_pos c70] at H
                                                                have c70b0 : decide ((bt (rdOf ByteArray.empty t229 x113_5) x119_6) < 48) = true := decide_eq_true c70
                                                                clear c70
                                                                have H' := Aside0.mk H
                                                                clear H
                                                                have p69 : 0 ≤ (x119_6 : Int) := of_decide_eq_true (by first | (with_reducible assumption) | assumption)
                                                                have q69 : x119_6 < ((rdOf ByteArray.empty t229 x113_5).size : Int) := of_decide_eq_true (by first | (with_reducible assumption) | assumption)
                                                                have hx69 := bt_at (rdOf ByteArray.empty t229 x113_5) x119_6
                                                                replace p69 := eq_true p69
                                                                replace q69 := eq_true q69
                                                                go_wp2
                                                                go_meet
                                                                case rel => exact ⟨_, (true), (by first | rfl | (simp; done) | (simp [*]; done)), H', ⟨by have := HJ6.out; have := HJ17.out; have := HJ49.out; have := HK4.out; have := HK5.out; have := HK6.out; first | omega | exact Nat.le_refl _⟩, ⟨by (with_reducible repeat (first | apply Kd.R_alloc | apply Kd.R_drewN | apply Kd.R_drew)); exact HO_104.out⟩, ⟨by (with_reducible repeat (first | apply Kd.R_alloc | apply Kd.R_drewN | apply Kd.R_drew)); exact HO_111.out⟩, ⟨by (with_reducible repeat (first | refine blk_drewN ?_ _ | refine blk_drew ?_ | refine blk_alloc ?_ _)); exact BK214.out⟩, ⟨by repeat (first | (with_reducible first | exact HB.out | apply below_alloc | apply pw_below_drewN | apply below_drew1 | refine below_set ?_ GE214.out) | exact HB.out)⟩⟩
                                                              · rw [if_neg c70] at H
                                                                have c70b0 : decide ((bt (rdOf ByteArray.empty t229 x113_5) x119_6) < 48) = false := decide_eq_false c70
                                                                clear c70
                                                                have H' := Aside0.mk H
                                                                clear H
                                                                have p69 : 0 ≤ (x119_6 : Int) := of_decide_eq_true (by first | (with_reducible assumption) | assumption)
                                                                have q69 : x119_6 < ((rdOf ByteArray.empty t229 x113_5).size : Int) := of_decide_eq_true (by first | (with_reducible assumption) | assumption)
                                                                have hx69 := bt_at (rdOf ByteArray.empty t229 x113_5) x119_6
                                                                replace p69 := eq_true p69
                                                                replace q69 := eq_true q69
                                                                have p71 : 0 ≤ (x119_6 : Int) := of_decide_eq_true (by first | (with_reducible assumption) | assumption)
                                                                have q71 : x119_6 < ((rdOf ByteArray.empty t229 x113_5).size : Int) := of_decide_eq_true (by first | (with_reducible assumption) | assumption)
                                                                have hx71 := bt_at (rdOf ByteArray.empty t229 x113_5) x119_6
                                                                replace p71 := eq_true p71
                                                                replace q71 := eq_true q71
                                                                go_wp2
                                                                go_meet
                                                                case rel => exact ⟨_, (decide ((bt (rdOf ByteArray.empty t229 x113_5) x119_6) > 57)), (by first | rfl | (simp; done) | (simp [*]; done)), H', ⟨by have := HJ6.out; have := HJ17.out; have := HJ49.out; have := HK4.out; have := HK5.out; have := HK6.out; first | omega | exact Nat.le_refl _⟩, ⟨by (with_reducible repeat (first | apply Kd.R_alloc | apply Kd.R_drewN | apply Kd.R_drew)); exact HO_104.out⟩, ⟨by (with_reducible repeat (first | apply Kd.R_alloc | apply Kd.R_drewN | apply Kd.R_drew)); exact HO_111.out⟩, ⟨by (with_reducible repeat (first | refine blk_drewN ?_ _ | refine blk_drew ?_ | refine blk_alloc ?_ _)); exact BK214.out⟩, ⟨by repeat (first | (with_reducible first | exact HB.out | apply below_alloc | apply pw_below_drewN | apply below_drew1 | refine below_set ?_ GE214.out) | exact HB.out)⟩⟩
                                                            · rw [if_neg c68] at H
                                                              exact absurd H (by simp)
                                                          · rw [if_neg c67] at H
                                                            exact absurd H (by simp)
                                                        case rest =>
                                                          clear HC66
                                                          try clear c1
                                                          try clear c2
                                                          try clear p2
                                                          try clear q2
                                                          try clear hx2
                                                          try clear c3
                                                          try clear c4
                                                          try clear c5
                                                          try clear c6
                                                          try clear p6
                                                          try clear q6
                                                          try clear hx6
                                                          try clear c7
                                                          try clear p7
                                                          try clear q7
                                                          try clear hx7
                                                          try clear c8
                                                          try clear c12
                                                          try clear c15
                                                          try clear c15b0
                                                          try clear c15b1
                                                          try clear c16
                                                          try clear c16b0
                                                          try clear c16b1
                                                          try clear c17
                                                          try clear c19
                                                          try clear c19b0
                                                          try clear c19b1
                                                          try clear c20
                                                          try clear c20b0
                                                          try clear c20b1
                                                          try clear c21
                                                          try clear c21b0
                                                          try clear c21b1
                                                          try clear p22
                                                          try clear q22
                                                          try clear hx22
                                                          try clear p23
                                                          try clear q23
                                                          try clear hx23
                                                          try clear c29
                                                          try clear c30
                                                          try clear c30b0
                                                          try clear c30b1
                                                          try clear c31
                                                          try clear c31b0
                                                          try clear c31b1
                                                          try clear c32
                                                          try clear c32b0
                                                          try clear c32b1
                                                          try clear c32b2
                                                          try clear c33
                                                          try clear c33b0
                                                          try clear c33b1
                                                          try clear c33b2
                                                          try clear c36
                                                          try clear c36b0
                                                          try clear c36b1
                                                          try clear c37
                                                          try clear c37b0
                                                          try clear c37b1
                                                          try clear c37b2
                                                          try clear c38
                                                          try clear c38b0
                                                          try clear c38b1
                                                          try clear c39
                                                          try clear c39b0
                                                          try clear c39b1
                                                          try clear c49
                                                          try clear c49b0
                                                          try clear c49b1
                                                          try clear c51
                                                          try clear c51b0
                                                          try clear c51b1
                                                          try clear c54
                                                          try clear c56
                                                          try clear c56b0
                                                          try clear c57
                                                          try clear c57b0
                                                          try clear c58
                                                          try clear c58b0
                                                          try clear c62
                                                          try clear c62b0
                                                          try clear c63
                                                          try clear c63b0
                                                          try clear c64
                                                          try clear c64b0
                                                          try clear c65
                                                          try clear c65b0
                                                          try clear c67
                                                          try clear c67b0
                                                          try clear c68
                                                          try clear c68b0
                                                          try clear p69
                                                          try clear q69
                                                          try clear hx69
                                                          try clear c70
                                                          try clear c70b0
                                                          try clear p71
                                                          try clear q71
                                                          try clear hx71
                                                          try clear hcz13_0
                                                          try clear hcz13_1
                                                          try clear hcz13_2
                                                          try clear hcz13_3
                                                          try clear hcz44_0
                                                          try clear hcz44_1
                                                          try clear hcz44_2
                                                          try clear hcz44_3
                                                          try clear hfz13_0
                                                          try clear hfz13_1
                                                          try clear hfz13_2
                                                          try clear hfz13_3
                                                          try clear hfz44_0
                                                          try clear hfz44_1
                                                          try clear hfz44_2
                                                          try clear hfz44_3
                                                          try clear hx228_0
                                                          try clear hx232_0
                                                          try clear p2
                                                          try clear p22
                                                          try clear p228
                                                          try clear p23
                                                          try clear p232
                                                          try clear p69
                                                          try clear p71
                                                          try clear q2
                                                          try clear q22
                                                          try clear q228
                                                          try clear q23
                                                          try clear q232
                                                          try clear q69
                                                          try clear q71
                                                          obtain ⟨kq, x131_65, rfl, HA, HJ65, HO_104, HO_111, BK214, HB⟩ := hcut
                                                          cases kq with
                                                          | zero => exact absurd HA.out (by simp [tollhouselaw07_FrameSmuggles.j6])
                                                          | succ kj65 =>
                                                            have H := HA.out
                                                            clear HA
                                                            simp only [tollhouselaw07_FrameSmuggles.j6] at H
                                                            by_cases c72 : x131_65 = true
                                                            · subst c72
                                                              have H1 : (some false) = some r := by rw [if_pos rfl] at H; exact H
                                                              clear H
                                                              have H := H1
                                                              clear H1
                                                              exact absurd ((Option.some.inj H).trans hr_) (by decide)
                                                            · replace c72 := Bool.eq_false_iff.mpr c72
                                                              subst c72
                                                              have H1 : (if 0 ≤ x119_6 then (if x119_6 < ((rdOf ByteArray.empty t229 x113_5).size : Int) then (if (IntKind.u64.wrap ((IntKind.u64.wrap (x12_6 * 10)) + (((bt (rdOf ByteArray.empty t229 x113_5) x119_6) - 48) % 256))) > t223 then (some false) else (tollhouselaw07_FrameSmuggles.l2 kj65 t223 (rdOf ByteArray.empty t229 x113_5) (IntKind.u64.wrap ((IntKind.u64.wrap (x12_6 * 10)) + (((bt (rdOf ByteArray.empty t229 x113_5) x119_6) - 48) % 256))) t216 (t216.length : Int) x106_4 t229 (t229.length : Int) x113_5 ((rdOf ByteArray.empty t229 x113_5).size : Int) (wrap64 (x119_6 + 1)))) else (none)) else (none)) = some r := by rw [if_neg (show ¬ (false = true) by decide)] at H; exact H
                                                              clear H
                                                              have H := H1
                                                              clear H1
                                                              by_cases c73 : 0 ≤ x119_6
                                                              · rw [if_pos c73] at H
                                                                have c73b0 : decide (0 ≤ x119_6) = true := decide_eq_true c73
                                                                clear c73
                                                                by_cases c74 : x119_6 < ((rdOf ByteArray.empty t229 x113_5).size : Int)
                                                                · rw [if_pos c74] at H
                                                                  have c74b0 : decide (x119_6 < ((rdOf ByteArray.empty t229 x113_5).size : Int)) = true := decide_eq_true c74
                                                                  clear c74
                                                                  by_cases c76 : (IntKind.u64.wrap ((IntKind.u64.wrap (x12_6 * 10)) + (((bt (rdOf ByteArray.empty t229 x113_5) x119_6) - 48) % 256))) > t223
                                                                  · rw [if_pos c76] at H
                                                                    have c76b0 : decide (t223 < (IntKind.u64.wrap ((IntKind.u64.wrap (x12_6 * 10)) + (((bt (rdOf ByteArray.empty t229 x113_5) x119_6) - 48) % 256)))) = true := decide_eq_true c76
                                                                    clear c76
                                                                    exact absurd ((Option.some.inj H).trans hr_) (by decide)
                                                                  · rw [if_neg c76] at H
                                                                    have c76b0 : decide (t223 < (IntKind.u64.wrap ((IntKind.u64.wrap (x12_6 * 10)) + (((bt (rdOf ByteArray.empty t229 x113_5) x119_6) - 48) % 256)))) = false := decide_eq_false c76
                                                                    clear c76
                                                                    have H' := Aside0.mk H
                                                                    clear H
                                                                    have p75 : 0 ≤ (x119_6 : Int) := of_decide_eq_true (by first | (with_reducible assumption) | assumption)
                                                                    have q75 : x119_6 < ((rdOf ByteArray.empty t229 x113_5).size : Int) := of_decide_eq_true (by first | (with_reducible assumption) | assumption)
                                                                    have hx75 := bt_at (rdOf ByteArray.empty t229 x113_5) x119_6
                                                                    replace p75 := eq_true p75
                                                                    replace q75 := eq_true q75
                                                                    go_wp2
                                                                    go_roundg kj65
                                                                    case measure => have := HJ6.out; have := HJ17.out; have := HJ49.out; have := HK4.out; have := HK5.out; have := HK6.out; have := HJ65.out; omega
                                                                    case rel => exact ⟨(IntKind.u64.wrap ((IntKind.u64.wrap (x12_6 * 10)) + (((bt (rdOf ByteArray.empty t229 x113_5) x119_6) - 48) % 256))), (wrap64 (x119_6 + 1)), (by first | rfl | (simp; done) | (simp [*]; done)), (by first | rfl | (simp; done) | (simp [*]; done)), H', ⟨by have := HJ6.out; have := HJ17.out; have := HJ49.out; have := HK4.out; have := HK5.out; have := HK6.out; have := HJ65.out; omega⟩, ⟨by (with_reducible repeat (first | apply Kd.R_alloc | apply Kd.R_drewN | apply Kd.R_drew)); exact HO_104.out⟩, ⟨by (with_reducible repeat (first | apply Kd.R_alloc | apply Kd.R_drewN | apply Kd.R_drew)); exact HO_111.out⟩, ⟨by (with_reducible repeat (first | refine blk_drewN ?_ _ | refine blk_drew ?_ | refine blk_alloc ?_ _)); exact BK214.out⟩, ⟨by repeat (first | (with_reducible first | exact HB.out | apply below_alloc | apply pw_below_drewN | apply below_drew1 | refine below_set ?_ GE214.out) | exact HB.out)⟩⟩
                                                                · rw [if_neg c74] at H
                                                                  exact absurd H (by simp)
                                                              · rw [if_neg c73] at H
                                                                exact absurd H (by simp)
                                                      · rw [if_neg c65] at H
                                                        have c65b0 : decide (x119_6 < ((rdOf ByteArray.empty t229 x113_5).size : Int)) = false := decide_eq_false c65
                                                        clear c65
                                                        by_cases c77 : x12_6 = t223
                                                        · rw [if_pos c77] at H
                                                          have c77b0 : (x12_6 == t223) = true := beq_iff_eq.mpr c77
                                                          have c77b1 : (x12_6 != t223) = false := bne_eq_false_iff_eq.mpr c77
                                                          clear c77
                                                          have H' := Aside0.mk H
                                                          clear H
                                                          go_wp2
                                                          go_roundg k6
                                                          case measure => have := HJ6.out; have := HJ17.out; have := HJ49.out; have := HK4.out; have := HK5.out; have := HK6.out; omega
                                                          case rel => exact ⟨(wrap64 (x113_5 + 1)), (by first | rfl | (simp; done) | (simp [*]; done)), H', ⟨by have := HJ6.out; have := HJ17.out; have := HJ49.out; have := HK4.out; have := HK5.out; have := HK6.out; omega⟩, ⟨by (with_reducible repeat (first | apply Kd.R_alloc | apply Kd.R_drewN | apply Kd.R_drew)); exact HO_104.out⟩, ⟨by (with_reducible repeat (first | apply Kd.R_alloc | apply Kd.R_drewN | apply Kd.R_drew)); exact HO_111.out⟩, ⟨by (with_reducible repeat (first | refine blk_drewN ?_ _ | refine blk_drew ?_ | refine blk_alloc ?_ _)); exact BK214.out⟩, ⟨by repeat (first | (with_reducible first | exact HB.out | apply below_alloc | apply pw_below_drewN | apply below_drew1 | refine below_set ?_ GE214.out) | exact HB.out)⟩⟩
                                                        · rw [if_neg c77] at H
                                                          have c77b0 : (x12_6 == t223) = false := beq_eq_false_iff_ne.mpr c77
                                                          have c77b1 : (x12_6 != t223) = true := bne_iff_ne.mpr c77
                                                          exact absurd ((Option.some.inj H).trans hr_) (by decide)
                                                · rw [if_neg c64] at H
                                                  exact absurd H (by simp)
                                              · rw [if_neg c63] at H
                                                exact absurd H (by simp)
                                            · rw [if_neg c62] at H
                                              have c62b0 : decide (x113_5 < (t229.length : Int)) = false := decide_eq_false c62
                                              clear c62
                                              have H' := Aside0.mk H
                                              clear H
                                              go_wp2
                                              go_roundg k5
                                              case measure => have := HJ6.out; have := HJ17.out; have := HJ49.out; have := HK4.out; have := HK5.out; omega
                                              case rel => exact ⟨(wrap64 (x106_4 + 1)), (by first | rfl | (simp; done) | (simp [*]; done)), H', ⟨by have := HJ6.out; have := HJ17.out; have := HJ49.out; have := HK4.out; have := HK5.out; omega⟩, ⟨by (with_reducible repeat (first | apply Kd.R_alloc | apply Kd.R_drewN | apply Kd.R_drew)); exact Kd.R_mono HO_104.out (fun _ hk => trivial)⟩, ⟨by (with_reducible repeat (first | refine blk_drewN ?_ _ | refine blk_drew ?_ | refine blk_alloc ?_ _)); exact BK214.out⟩, ⟨by repeat (first | (with_reducible first | exact HB.out | apply below_alloc | apply pw_below_drewN | apply below_drew1 | refine below_set ?_ GE214.out) | exact HB.out)⟩⟩
                                      · rw [if_neg c58] at H
                                        exact absurd H (by simp)
                                    · rw [if_neg c57] at H
                                      exact absurd H (by simp)
                                  · rw [if_neg c56] at H
                                    have c56b0 : decide (x106_4 < (t216.length : Int)) = false := decide_eq_false c56
                                    clear c56
                                    obtain rfl := Option.some.inj H
                                    go_wp2
                                    go_ret
                                    exact ⟨by first | rfl | (simp [errW_none, errW_some] <;> rfl) | (simp [*, errW_none, errW_some] <;> rfl), by repeat (first | (with_reducible first | exact HB.out | apply below_alloc | apply pw_below_drewN | apply below_drew1 | refine below_set ?_ GE214.out) | exact HB.out)⟩
                      · rw [if_neg c49] at H
                        have c49b0 : (t222 == 1) = false := beq_eq_false_iff_ne.mpr c49
                        have c49b1 : (t222 != 1) = true := bne_iff_ne.mpr c49
                        exact absurd ((Option.some.inj H).trans hr_) (by decide)
                · rw [if_neg c30] at H
                  have c30b0 : (t224 == 0) = false := beq_eq_false_iff_ne.mpr c30
                  have c30b1 : (t224 != 0) = true := bne_iff_ne.mpr c30
                  obtain rfl := Option.some.inj H
                  go_wp2
                  go_ret
                  exact ⟨by first | rfl | (simp [errW_none, errW_some] <;> rfl) | (simp [*, errW_none, errW_some] <;> rfl), by repeat (first | (with_reducible first | exact HB.out | apply below_alloc | apply pw_below_drewN | apply below_drew1 | refine below_set ?_ GE214.out) | exact HB.out)⟩
  · replace c3 := Bool.eq_false_iff.mpr c3
    subst c3
    have H1 : (some false) = some r := by rw [if_neg (show ¬ (false = true) by decide)] at H; exact H
    clear H
    have H := H1
    clear H1
    exact absurd ((Option.some.inj H).trans hr_) (by decide)

end Go.Proofs.YtcamdfjjdigaeaaDoor.P
