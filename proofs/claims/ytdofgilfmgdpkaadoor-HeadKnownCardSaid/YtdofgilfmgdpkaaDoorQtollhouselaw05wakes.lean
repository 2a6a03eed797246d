/- The walk of the Go function tollhouselaw05 wakes, and what it computes. By program. Conditions: none but those that each theorem names. -/
import Derived.Test.YtdofgilfmgdpkaaDoorQ0
import Derived.Test.YtdofgilfmgdpkaaDoorQConv
import Derived.Test.YtdofgilfmgdpkaaDoorQEq1
import Derived.Test.YtdofgilfmgdpkaaDoorQheadPut
import Derived.Test.YtdofgilfmgdpkaaDoorQheadGet
import Derived.Test.YtdofgilfmgdpkaaDoorQheadWith
import Derived.Test.YtdofgilfmgdpkaaDoorFheadParse
import Derived.Test.YtdofgilfmgdpkaaDoorFheadMay
import Derived.Test.YtdofgilfmgdpkaaDoorFheadDrop
import Derived.Test.YtdofgilfmgdpkaaDoorFconv
namespace Go.Proofs.YtdofgilfmgdpkaaDoor.P
open Go.RowKit Go.Proofs.YtdofgilfmgdpkaaDoorW.PrintWords Go.Proofs.YtdofgilfmgdpkaaDoorW.PrintLast Go.Proofs.YtdofgilfmgdpkaaDoorW.PrintMore
attribute [local go_sem] max2_int min2_int max_two min_two max_three min_three max_four min_four
set_option linter.unusedVariables false
set_option linter.unusedSimpArgs false

attribute [local go_sem high] eqA45
/-! ### tollhouselaw05_wakes: function 12 -/
def tollhouselaw05_wakes.j0 : Nat → List (S45) → Bool → Option (Bool)
  | 0, _, _ => none
  | k + 1, x1, x79 => if x79 = true then (some false) else ((head_Get.f k x1 (⟨#[104, 111, 115, 116]⟩ : ByteArray)).bind fun t175 => ((head_Drop.f x1 (([(⟨#[72, 79, 83, 84]⟩ : ByteArray)] : List ByteArray))).bind fun t181 => ((head_With.f x1 (⟨#[104, 111, 115, 116]⟩ : ByteArray) (⟨#[98]⟩ : ByteArray)).bind fun t184 => ((head_Put.f k t181).bind fun bt187 => (if (t175.length : Int) = 1 then (if 0 < (t175.length : Int) then (if (rdOf ByteArray.empty t175 0).toList = ([97] : List UInt8) then (if (t181.length : Int) = 1 then (if (t184.length : Int) = 2 then (if 1 < (t184.length : Int) then (if ((rd_T45 t184 1).f1).toList = ([98] : List UInt8) then ((head_May.f x1).bind fun t193 => (if t193 = true then (if bt187.2 = 0 then (some ((strOfNums bt187.1).toList == ([88, 45, 89, 58, 32, 98, 32, 99, 13, 10, 13, 10] : List UInt8))) else (some false)) else (some false))) else (some false)) else (none)) else (some false)) else (some false)) else (some false)) else (none)) else (some false))))))
def tollhouselaw05_wakes.f (k : Nat)  : Option (Bool) := (conv.f (⟨#[72, 111, 115, 116, 58, 97, 13, 10, 88, 45, 89, 58, 9, 32, 98, 32, 99, 32, 13, 10, 13, 10]⟩ : ByteArray)).bind fun t142 => ((head_Parse.f t142).bind fun bt145 => ((conv.f (⟨#[13, 10]⟩ : ByteArray)).bind fun t150 => ((head_Parse.f t150).bind fun bt153 => ((conv.f (⟨#[72, 111, 115, 116, 58, 32, 97, 13]⟩ : ByteArray)).bind fun t158 => ((head_Parse.f t158).bind fun bt161 => ((conv.f (⟨#[72, 111, 115, 116, 32, 58, 32, 97]⟩ : ByteArray)).bind fun t166 => ((head_Parse.f t166).bind fun bt169 => (if bt145.2.2 = 0 then (if bt145.2.1 = 22 then (if (bt145.1.length : Int) = 2 then (if 1 < (bt145.1.length : Int) then (if (!((((rd_T45 bt145.1 1).f0).toList) == ([88, 45, 89] : List UInt8)) || (!((((rd_T45 bt145.1 1).f1).toList) == ([98, 32, 99] : List UInt8)))) = true then (tollhouselaw05_wakes.j0 k bt145.1 true) else (if bt153.2.1 = 2 then (if bt153.2.2 = 0 then (if bt161.2.2 = 8 then (tollhouselaw05_wakes.j0 k bt145.1 (bt169.2.2 != 20)) else (tollhouselaw05_wakes.j0 k bt145.1 true)) else (tollhouselaw05_wakes.j0 k bt145.1 true)) else (tollhouselaw05_wakes.j0 k bt145.1 true))) else (none)) else (tollhouselaw05_wakes.j0 k bt145.1 true)) else (tollhouselaw05_wakes.j0 k bt145.1 true)) else (tollhouselaw05_wakes.j0 k bt145.1 true)))))))))
theorem tollhouselaw05_wakes.mono_l : ∀ k, (∀ y0 y1, LeO (tollhouselaw05_wakes.j0 k y0 y1) (tollhouselaw05_wakes.j0 (k + 1) y0 y1))
  | 0 => fun _ _ r h => by simp [tollhouselaw05_wakes.j0] at h
  | k + 1 => by
    have ih0 := tollhouselaw05_wakes.mono_l k
    · intro y0 y1
      unfold tollhouselaw05_wakes.j0
      repeat' first
      | (with_reducible exact ih0 _ _)
      | (with_reducible exact head_Get.mono _ _ _)
      | (with_reducible exact head_Put.mono _ _)
      | (with_reducible exact LeO.refl _)
      | (with_reducible exact LeO.none _)
      | (with_reducible refine LeO.ite ?_ ?_)
      | (with_reducible refine LeO.bind ?_ (fun _ => ?_))
      | exact ih0 _ _
      | exact head_Get.mono _ _ _
      | exact head_Put.mono _ _
      | exact LeO.none _
      | refine LeO.ite ?_ ?_
      | refine LeO.bind ?_ (fun _ => ?_)
theorem tollhouselaw05_wakes.mono : ∀ k, LeO (tollhouselaw05_wakes.f k ) (tollhouselaw05_wakes.f (k + 1) ) := by
  intro  k
  have ih0 := tollhouselaw05_wakes.mono_l k
  unfold tollhouselaw05_wakes.f
  repeat' first
      | (with_reducible exact ih0 _ _)
      | (with_reducible exact head_Get.mono _ _ _)
      | (with_reducible exact head_Put.mono _ _)
      | (with_reducible exact LeO.refl _)
      | (with_reducible exact LeO.none _)
      | (with_reducible refine LeO.ite ?_ ?_)
      | (with_reducible refine LeO.bind ?_ (fun _ => ?_))
      | exact ih0 _ _
      | exact head_Get.mono _ _ _
      | exact head_Put.mono _ _
      | exact LeO.none _
      | refine LeO.ite ?_ ?_
      | refine LeO.bind ?_ (fun _ => ?_)
set_option maxRecDepth 100000 in
theorem tollhouselaw05_wakes.told : tollhouselaw05_wakes.f 60 = some true := by decide +kernel
theorem tollhouselaw05_wakes.only (k : Nat) (r : Bool) (h : tollhouselaw05_wakes.f k = some r) : r = true := by
  have up : ∀ (d i : Nat) (x : Bool), tollhouselaw05_wakes.f i = some x → tollhouselaw05_wakes.f (i + d) = some x := fun d => by
    induction d with
    | zero => exact fun i x hx => hx
    | succ d ih => exact fun i x hx => tollhouselaw05_wakes.mono _ x (ih i x hx)
  have h1 := up 60 k r h
  have h2 := up k 60 true tollhouselaw05_wakes.told
  rw [Nat.add_comm 60 k, h1] at h2
  exact Option.some.inj h2
set_option maxHeartbeats 8000000 in
set_option maxRecDepth 100000 in
theorem tollhouselaw05_wakes.calls (k : Nat)  (r : Bool) (w : World) (h : tollhouselaw05_wakes.f k  = some r) :
    Calls Tryd.prog 12 #[] w fun e w' => e = .returned (.bool r) ∧ Below w.heap.size w w' := by
  have hr_ : r = true := tollhouselaw05_wakes.only k r h
  have hu45 := Tryd.underlying45
  have HB := Aside0.mk (Below.refl w.heap.size w)
  have H : ((conv.f (⟨#[72, 111, 115, 116, 58, 97, 13, 10, 88, 45, 89, 58, 9, 32, 98, 32, 99, 32, 13, 10, 13, 10]⟩ : ByteArray)).bind fun t142 => ((head_Parse.f t142).bind fun bt145 => ((conv.f (⟨#[13, 10]⟩ : ByteArray)).bind fun t150 => ((head_Parse.f t150).bind fun bt153 => ((conv.f (⟨#[72, 111, 115, 116, 58, 32, 97, 13]⟩ : ByteArray)).bind fun t158 => ((head_Parse.f t158).bind fun bt161 => ((conv.f (⟨#[72, 111, 115, 116, 32, 58, 32, 97]⟩ : ByteArray)).bind fun t166 => ((head_Parse.f t166).bind fun bt169 => (if bt145.2.2 = 0 then (if bt145.2.1 = 22 then (if (bt145.1.length : Int) = 2 then (if 1 < (bt145.1.length : Int) then (if (!((((rd_T45 bt145.1 1).f0).toList) == ([88, 45, 89] : List UInt8)) || (!((((rd_T45 bt145.1 1).f1).toList) == ([98, 32, 99] : List UInt8)))) = true then (tollhouselaw05_wakes.j0 k bt145.1 true) else (if bt153.2.1 = 2 then (if bt153.2.2 = 0 then (if bt161.2.2 = 8 then (tollhouselaw05_wakes.j0 k bt145.1 (bt169.2.2 != 20)) else (tollhouselaw05_wakes.j0 k bt145.1 true)) else (tollhouselaw05_wakes.j0 k bt145.1 true)) else (tollhouselaw05_wakes.j0 k bt145.1 true))) else (none)) else (tollhouselaw05_wakes.j0 k bt145.1 true)) else (tollhouselaw05_wakes.j0 k bt145.1 true)) else (tollhouselaw05_wakes.j0 k bt145.1 true)))))))))) = some r := h
  clear h
  replace H := Option.bind_eq_some_iff.mp H
  obtain ⟨t142, A10, H⟩ := H
  replace H : ((head_Parse.f t142).bind fun bt145 => ((conv.f (⟨#[13, 10]⟩ : ByteArray)).bind fun t150 => ((head_Parse.f t150).bind fun bt153 => ((conv.f (⟨#[72, 111, 115, 116, 58, 32, 97, 13]⟩ : ByteArray)).bind fun t158 => ((head_Parse.f t158).bind fun bt161 => ((conv.f (⟨#[72, 111, 115, 116, 32, 58, 32, 97]⟩ : ByteArray)).bind fun t166 => ((head_Parse.f t166).bind fun bt169 => (if bt145.2.2 = 0 then (if bt145.2.1 = 22 then (if (bt145.1.length : Int) = 2 then (if 1 < (bt145.1.length : Int) then (if (!((((rd_T45 bt145.1 1).f0).toList) == ([88, 45, 89] : List UInt8)) || (!((((rd_T45 bt145.1 1).f1).toList) == ([98, 32, 99] : List UInt8)))) = true then (tollhouselaw05_wakes.j0 k bt145.1 true) else (if bt153.2.1 = 2 then (if bt153.2.2 = 0 then (if bt161.2.2 = 8 then (tollhouselaw05_wakes.j0 k bt145.1 (bt169.2.2 != 20)) else (tollhouselaw05_wakes.j0 k bt145.1 true)) else (tollhouselaw05_wakes.j0 k bt145.1 true)) else (tollhouselaw05_wakes.j0 k bt145.1 true))) else (none)) else (tollhouselaw05_wakes.j0 k bt145.1 true)) else (tollhouselaw05_wakes.j0 k bt145.1 true)) else (tollhouselaw05_wakes.j0 k bt145.1 true))))))))) = some r := H
  have A1 := Aside0.mk A10
  clear A10
  replace H := Option.bind_eq_some_iff.mp H
  obtain ⟨⟨t145, t146, t147⟩, A20, H⟩ := H
  replace H : ((conv.f (⟨#[13, 10]⟩ : ByteArray)).bind fun t150 => ((head_Parse.f t150).bind fun bt153 => ((conv.f (⟨#[72, 111, 115, 116, 58, 32, 97, 13]⟩ : ByteArray)).bind fun t158 => ((head_Parse.f t158).bind fun bt161 => ((conv.f (⟨#[72, 111, 115, 116, 32, 58, 32, 97]⟩ : ByteArray)).bind fun t166 => ((head_Parse.f t166).bind fun bt169 => (if t147 = 0 then (if t146 = 22 then (if (t145.length : Int) = 2 then (if 1 < (t145.length : Int) then (if (!((((rd_T45 t145 1).f0).toList) == ([88, 45, 89] : List UInt8)) || (!((((rd_T45 t145 1).f1).toList) == ([98, 32, 99] : List UInt8)))) = true then (tollhouselaw05_wakes.j0 k t145 true) else (if bt153.2.1 = 2 then (if bt153.2.2 = 0 then (if bt161.2.2 = 8 then (tollhouselaw05_wakes.j0 k t145 (bt169.2.2 != 20)) else (tollhouselaw05_wakes.j0 k t145 true)) else (tollhouselaw05_wakes.j0 k t145 true)) else (tollhouselaw05_wakes.j0 k t145 true))) else (none)) else (tollhouselaw05_wakes.j0 k t145 true)) else (tollhouselaw05_wakes.j0 k t145 true)) else (tollhouselaw05_wakes.j0 k t145 true)))))))) = some r := H
  have A2 := Aside0.mk A20
  clear A20
  replace H := Option.bind_eq_some_iff.mp H
  obtain ⟨t150, A30, H⟩ := H
  replace H : ((head_Parse.f t150).bind fun bt153 => ((conv.f (⟨#[72, 111, 115, 116, 58, 32, 97, 13]⟩ : ByteArray)).bind fun t158 => ((head_Parse.f t158).bind fun bt161 => ((conv.f (⟨#[72, 111, 115, 116, 32, 58, 32, 97]⟩ : ByteArray)).bind fun t166 => ((head_Parse.f t166).bind fun bt169 => (if t147 = 0 then (if t146 = 22 then (if (t145.length : Int) = 2 then (if 1 < (t145.length : Int) then (if (!((((rd_T45 t145 1).f0).toList) == ([88, 45, 89] : List UInt8)) || (!((((rd_T45 t145 1).f1).toList) == ([98, 32, 99] : List UInt8)))) = true then (tollhouselaw05_wakes.j0 k t145 true) else (if bt153.2.1 = 2 then (if bt153.2.2 = 0 then (if bt161.2.2 = 8 then (tollhouselaw05_wakes.j0 k t145 (bt169.2.2 != 20)) else (tollhouselaw05_wakes.j0 k t145 true)) else (tollhouselaw05_wakes.j0 k t145 true)) else (tollhouselaw05_wakes.j0 k t145 true))) else (none)) else (tollhouselaw05_wakes.j0 k t145 true)) else (tollhouselaw05_wakes.j0 k t145 true)) else (tollhouselaw05_wakes.j0 k t145 true))))))) = some r := H
  have A3 := Aside0.mk A30
  clear A30
  replace H := Option.bind_eq_some_iff.mp H
  obtain ⟨⟨t153, t154, t155⟩, A40, H⟩ := H
  replace H : ((conv.f (⟨#[72, 111, 115, 116, 58, 32, 97, 13]⟩ : ByteArray)).bind fun t158 => ((head_Parse.f t158).bind fun bt161 => ((conv.f (⟨#[72, 111, 115, 116, 32, 58, 32, 97]⟩ : ByteArray)).bind fun t166 => ((head_Parse.f t166).bind fun bt169 => (if t147 = 0 then (if t146 = 22 then (if (t145.length : Int) = 2 then (if 1 < (t145.length : Int) then (if (!((((rd_T45 t145 1).f0).toList) == ([88, 45, 89] : List UInt8)) || (!((((rd_T45 t145 1).f1).toList) == ([98, 32, 99] : List UInt8)))) = true then (tollhouselaw05_wakes.j0 k t145 true) else (if t154 = 2 then (if t155 = 0 then (if bt161.2.2 = 8 then (tollhouselaw05_wakes.j0 k t145 (bt169.2.2 != 20)) else (tollhouselaw05_wakes.j0 k t145 true)) else (tollhouselaw05_wakes.j0 k t145 true)) else (tollhouselaw05_wakes.j0 k t145 true))) else (none)) else (tollhouselaw05_wakes.j0 k t145 true)) else (tollhouselaw05_wakes.j0 k t145 true)) else (tollhouselaw05_wakes.j0 k t145 true)))))) = some r := H
  have A4 := Aside0.mk A40
  clear A40
  replace H := Option.bind_eq_some_iff.mp H
  obtain ⟨t158, A50, H⟩ := H
  replace H : ((head_Parse.f t158).bind fun bt161 => ((conv.f (⟨#[72, 111, 115, 116, 32, 58, 32, 97]⟩ : ByteArray)).bind fun t166 => ((head_Parse.f t166).bind fun bt169 => (if t147 = 0 then (if t146 = 22 then (if (t145.length : Int) = 2 then (if 1 < (t145.length : Int) then (if (!((((rd_T45 t145 1).f0).toList) == ([88, 45, 89] : List UInt8)) || (!((((rd_T45 t145 1).f1).toList) == ([98, 32, 99] : List UInt8)))) = true then (tollhouselaw05_wakes.j0 k t145 true) else (if t154 = 2 then (if t155 = 0 then (if bt161.2.2 = 8 then (tollhouselaw05_wakes.j0 k t145 (bt169.2.2 != 20)) else (tollhouselaw05_wakes.j0 k t145 true)) else (tollhouselaw05_wakes.j0 k t145 true)) else (tollhouselaw05_wakes.j0 k t145 true))) else (none)) else (tollhouselaw05_wakes.j0 k t145 true)) else (tollhouselaw05_wakes.j0 k t145 true)) else (tollhouselaw05_wakes.j0 k t145 true))))) = some r := H
  have A5 := Aside0.mk A50
  clear A50
  replace H := Option.bind_eq_some_iff.mp H
  obtain ⟨⟨t161, t162, t163⟩, A60, H⟩ := H
  replace H : ((conv.f (⟨#[72, 111, 115, 116, 32, 58, 32, 97]⟩ : ByteArray)).bind fun t166 => ((head_Parse.f t166).bind fun bt169 => (if t147 = 0 then (if t146 = 22 then (if (t145.length : Int) = 2 then (if 1 < (t145.length : Int) then (if (!((((rd_T45 t145 1).f0).toList) == ([88, 45, 89] : List UInt8)) || (!((((rd_T45 t145 1).f1).toList) == ([98, 32, 99] : List UInt8)))) = true then (tollhouselaw05_wakes.j0 k t145 true) else (if t154 = 2 then (if t155 = 0 then (if t163 = 8 then (tollhouselaw05_wakes.j0 k t145 (bt169.2.2 != 20)) else (tollhouselaw05_wakes.j0 k t145 true)) else (tollhouselaw05_wakes.j0 k t145 true)) else (tollhouselaw05_wakes.j0 k t145 true))) else (none)) else (tollhouselaw05_wakes.j0 k t145 true)) else (tollhouselaw05_wakes.j0 k t145 true)) else (tollhouselaw05_wakes.j0 k t145 true)))) = some r := H
  have A6 := Aside0.mk A60
  clear A60
  replace H := Option.bind_eq_some_iff.mp H
  obtain ⟨t166, A70, H⟩ := H
  replace H : ((head_Parse.f t166).bind fun bt169 => (if t147 = 0 then (if t146 = 22 then (if (t145.length : Int) = 2 then (if 1 < (t145.length : Int) then (if (!((((rd_T45 t145 1).f0).toList) == ([88, 45, 89] : List UInt8)) || (!((((rd_T45 t145 1).f1).toList) == ([98, 32, 99] : List UInt8)))) = true then (tollhouselaw05_wakes.j0 k t145 true) else (if t154 = 2 then (if t155 = 0 then (if t163 = 8 then (tollhouselaw05_wakes.j0 k t145 (bt169.2.2 != 20)) else (tollhouselaw05_wakes.j0 k t145 true)) else (tollhouselaw05_wakes.j0 k t145 true)) else (tollhouselaw05_wakes.j0 k t145 true))) else (none)) else (tollhouselaw05_wakes.j0 k t145 true)) else (tollhouselaw05_wakes.j0 k t145 true)) else (tollhouselaw05_wakes.j0 k t145 true))) = some r := H
  have A7 := Aside0.mk A70
  clear A70
  replace H := Option.bind_eq_some_iff.mp H
  obtain ⟨⟨t169, t170, t171⟩, A80, H⟩ := H
  replace H : (if t147 = 0 then (if t146 = 22 then (if (t145.length : Int) = 2 then (if 1 < (t145.length : Int) then (if (!((((rd_T45 t145 1).f0).toList) == ([88, 45, 89] : List UInt8)) || (!((((rd_T45 t145 1).f1).toList) == ([98, 32, 99] : List UInt8)))) = true then (tollhouselaw05_wakes.j0 k t145 true) else (if t154 = 2 then (if t155 = 0 then (if t163 = 8 then (tollhouselaw05_wakes.j0 k t145 (t171 != 20)) else (tollhouselaw05_wakes.j0 k t145 true)) else (tollhouselaw05_wakes.j0 k t145 true)) else (tollhouselaw05_wakes.j0 k t145 true))) else (none)) else (tollhouselaw05_wakes.j0 k t145 true)) else (tollhouselaw05_wakes.j0 k t145 true)) else (tollhouselaw05_wakes.j0 k t145 true)) = some r := H
  have A8 := Aside0.mk A80
  clear A80
  have HC9 := Aside0.mk H
  clear H
  go_enter Tryd.func12, Tryd.ntmps12
  go_upto_region 5 with (first | ((with_reducible refine gate_dst (N := 19) rfl ?_); refine conv_lit_event 19 20 rfl rfl rfl rfl ([72, 111, 115, 116, 58, 97, 13, 10, 88, 45, 89, 58, 9, 32, 98, 32, 99, 32, 13, 10, 13, 10] : List Int) _ (by first | (go_simp; done) | (go_simp; rfl)) rfl (fun _ => rfl) (⟨#[72, 111, 115, 116, 58, 97, 13, 10, 88, 45, 89, 58, 9, 32, 98, 32, 99, 32, 13, 10, 13, 10]⟩ : ByteArray) (by decide +kernel) _ A1.out ?_; rintro e w10 ⟨v143, rfl, ho0, hb⟩; refine ⟨_, rfl, ?_⟩; have n0_ := Aside0.mk (Kd.V_lower (Kd.V_mono (ok' := fun k_ => True) ho0 (fun k_ hk_ => trivial)) (below_size (by repeat (first | (with_reducible first | exact HB.out | apply below_alloc | apply pw_below_drewN | apply below_drew1) | exact HB.out)))); have n1_ := Aside0.mk (below_step (by repeat (first | (with_reducible first | exact HB.out | apply below_alloc | apply pw_below_drewN | apply below_drew1) | exact HB.out)) hb); clear HB; have HO144 := n0_; have HB := n1_; clear n0_ n1_; (try clear hb); (try clear hb2); (try clear hk); (try clear hi); (try clear ho0); obtain ⟨Ao11, co11, eo11⟩ := Kd.V_slice HO144.out; subst eo11) | ((with_reducible refine gate_callee (f := 9) rfl ?_); refine goesL_ (some 21) rfl rfl Tryd.func9 (by kernel_rfl) rfl #[.slice Ao11 t142.length co11] rfl (by (try simp only [List.map_toArray, List.map_cons, List.map_nil]); first | done | rfl | (simp only [List.length_drop, List.length_take]; rfl)) ?_; (with_reducible refine (head_Parse.calls _ _ t142 t145 t146 t147 _ ?side1 ?side2 A2.out).mono ?_); (case side1 => repeat (first | exact (Kd.V_reads' HO144.out).2.2 | (with_reducible refine Kd.C_alloc ?_ _) | (with_reducible refine Kd.C_drewN ?_ _) | (with_reducible refine Kd.C_drew ?_))); (case side2 => exact (Kd.V_reads' HO144.out).2.1); rintro e w12 ⟨v148, rfl, ho0, hb⟩; refine ⟨_, rfl, ?_⟩; have n0_ := Aside0.mk (Kd.V_elder' (by (with_reducible repeat (first | apply Kd.V_alloc | apply Kd.V_drewN | apply Kd.V_drew)); exact HO144.out) (Kd.R_base ho0) hb); have n1_ := Aside0.mk (Kd.R_lower ho0 (below_size (by repeat (first | (with_reducible first | exact HB.out | apply below_alloc | apply pw_below_drewN | apply below_drew1) | exact HB.out)))); have n2_ := Aside0.mk (below_step (by repeat (first | (with_reducible first | exact HB.out | apply below_alloc | apply pw_below_drewN | apply below_drew1) | exact HB.out)) hb); clear HO144; clear HB; have HO144 := n0_; have HO149 := n1_; have HB := n2_; clear n0_ n1_ n2_; (try clear hb); (try clear hb2); (try clear hk); (try clear hi); (try clear ho0)) | ((with_reducible refine gate_dst (N := 26) rfl ?_); refine conv_lit_event 26 27 rfl rfl rfl rfl ([13, 10] : List Int) _ (by first | (go_simp; done) | (go_simp; rfl)) rfl (fun _ => rfl) (⟨#[13, 10]⟩ : ByteArray) (by decide +kernel) _ A3.out ?_; rintro e w13 ⟨v151, rfl, ho0, hb⟩; refine ⟨_, rfl, ?_⟩; have n0_ := Aside0.mk (Kd.V_below (by (with_reducible repeat (first | apply Kd.V_alloc | apply Kd.V_drewN | apply Kd.V_drew)); exact HO144.out) hb); have n1_ := Aside0.mk (Kd.R_below (by (with_reducible repeat (first | apply Kd.R_alloc | apply Kd.R_drewN | apply Kd.R_drew)); exact HO149.out) hb); have n2_ := Aside0.mk (Kd.V_lower (Kd.V_mono (ok' := fun k_ => some k_ ≠ (v148 : Value).ownBlock) ho0 (fun k_ hk_ => (Kd.fresh' (Kd.R_lt (by (with_reducible repeat (first | apply Kd.R_alloc | apply Kd.R_drewN | apply Kd.R_drew)); exact HO149.out)) k_ hk_))) (below_size (by repeat (first | (with_reducible first | exact HB.out | apply below_alloc | apply pw_below_drewN | apply below_drew1) | exact HB.out)))); have n3_ := Aside0.mk (below_step (by repeat (first | (with_reducible first | exact HB.out | apply below_alloc | apply pw_below_drewN | apply below_drew1) | exact HB.out)) hb); clear HO144; clear HO149; clear HB; have HO144 := n0_; have HO149 := n1_; have HO152 := n2_; have HB := n3_; clear n0_ n1_ n2_ n3_; (try clear hb); (try clear hb2); (try clear hk); (try clear hi); (try clear ho0); obtain ⟨Ao14, co14, eo14⟩ := Kd.V_slice HO152.out; subst eo14) | ((with_reducible refine gate_callee (f := 9) rfl ?_); refine goesL_ (some 28) rfl rfl Tryd.func9 (by kernel_rfl) rfl #[.slice Ao14 t150.length co14] rfl (by (try simp only [List.map_toArray, List.map_cons, List.map_nil]); first | done | rfl | (simp only [List.length_drop, List.length_take]; rfl)) ?_; (with_reducible refine (head_Parse.calls _ _ t150 t153 t154 t155 _ ?side1 ?side2 A4.out).mono ?_); (case side1 => repeat (first | exact (Kd.V_reads' HO152.out).2.2 | (with_reducible refine Kd.C_alloc ?_ _) | (with_reducible refine Kd.C_drewN ?_ _) | (with_reducible refine Kd.C_drew ?_))); (case side2 => exact (Kd.V_reads' HO152.out).2.1); rintro e w15 ⟨v156, rfl, ho0, hb⟩; refine ⟨_, rfl, ?_⟩; have n0_ := Aside0.mk (Kd.V_elder' (by (with_reducible repeat (first | apply Kd.V_alloc | apply Kd.V_drewN | apply Kd.V_drew)); exact HO144.out) (Kd.R_base ho0) hb); have n1_ := Aside0.mk (Kd.R_elder' (by (with_reducible repeat (first | apply Kd.R_alloc | apply Kd.R_drewN | apply Kd.R_drew)); exact HO149.out) (Kd.R_base ho0) hb); have n2_ := Aside0.mk (Kd.V_elder' (by (with_reducible repeat (first | apply Kd.V_alloc | apply Kd.V_drewN | apply Kd.V_drew)); exact HO152.out) (Kd.R_base ho0) hb); have n3_ := Aside0.mk (Kd.R_lower (Kd.R_new' ho0 (Kd.R_lt (by (with_reducible repeat (first | apply Kd.R_alloc | apply Kd.R_drewN | apply Kd.R_drew)); exact HO149.out))) (below_size (by repeat (first | (with_reducible first | exact HB.out | apply below_alloc | apply pw_below_drewN | apply below_drew1) | exact HB.out)))); have n4_ := Aside0.mk (below_step (by repeat (first | (with_reducible first | exact HB.out | apply below_alloc | apply pw_below_drewN | apply below_drew1) | exact HB.out)) hb); clear HO144; clear HO149; clear HO152; clear HB; have HO144 := n0_; have HO149 := n1_; have HO152 := n2_; have HO157 := n3_; have HB := n4_; clear n0_ n1_ n2_ n3_ n4_; (try clear hb); (try clear hb2); (try clear hk); (try clear hi); (try clear ho0)) | ((with_reducible refine gate_dst (N := 33) rfl ?_); refine conv_lit_event 33 34 rfl rfl rfl rfl ([72, 111, 115, 116, 58, 32, 97, 13] : List Int) _ (by first | (go_simp; done) | (go_simp; rfl)) rfl (fun _ => rfl) (⟨#[72, 111, 115, 116, 58, 32, 97, 13]⟩ : ByteArray) (by decide +kernel) _ A5.out ?_; rintro e w16 ⟨v159, rfl, ho0, hb⟩; refine ⟨_, rfl, ?_⟩; have n0_ := Aside0.mk (Kd.V_below (by (with_reducible repeat (first | apply Kd.V_alloc | apply Kd.V_drewN | apply Kd.V_drew)); exact HO144.out) hb); have n1_ := Aside0.mk (Kd.R_below (by (with_reducible repeat (first | apply Kd.R_alloc | apply Kd.R_drewN | apply Kd.R_drew)); exact HO149.out) hb); have n2_ := Aside0.mk (Kd.V_below (by (with_reducible repeat (first | apply Kd.V_alloc | apply Kd.V_drewN | apply Kd.V_drew)); exact HO152.out) hb); have n3_ := Aside0.mk (Kd.R_below (by (with_reducible repeat (first | apply Kd.R_alloc | apply Kd.R_drewN | apply Kd.R_drew)); exact HO157.out) hb); have n4_ := Aside0.mk (Kd.V_lower (Kd.V_mono (ok' := fun k_ => some k_ ≠ (v148 : Value).ownBlock ∧ some k_ ≠ (v156 : Value).ownBlock) ho0 (fun k_ hk_ => ⟨(Kd.fresh' (Kd.R_lt (by (with_reducible repeat (first | apply Kd.R_alloc | apply Kd.R_drewN | apply Kd.R_drew)); exact HO149.out)) k_ hk_), (Kd.fresh' (Kd.R_lt (by (with_reducible repeat (first | apply Kd.R_alloc | apply Kd.R_drewN | apply Kd.R_drew)); exact HO157.out)) k_ hk_)⟩)) (below_size (by repeat (first | (with_reducible first | exact HB.out | apply below_alloc | apply pw_below_drewN | apply below_drew1) | exact HB.out)))); have n5_ := Aside0.mk (below_step (by repeat (first | (with_reducible first | exact HB.out | apply below_alloc | apply pw_below_drewN | apply below_drew1) | exact HB.out)) hb); clear HO144; clear HO149; clear HO152; clear HO157; clear HB; have HO144 := n0_; have HO149 := n1_; have HO152 := n2_; have HO157 := n3_; have HO160 := n4_; have HB := n5_; clear n0_ n1_ n2_ n3_ n4_ n5_; (try clear hb); (try clear hb2); (try clear hk); (try clear hi); (try clear ho0); obtain ⟨Ao17, co17, eo17⟩ := Kd.V_slice HO160.out; subst eo17) | ((with_reducible refine gate_callee (f := 9) rfl ?_); refine goesL_ (some 35) rfl rfl Tryd.func9 (by kernel_rfl) rfl #[.slice Ao17 t158.length co17] rfl (by (try simp only [List.map_toArray, List.map_cons, List.map_nil]); first | done | rfl | (simp only [List.length_drop, List.length_take]; rfl)) ?_; (with_reducible refine (head_Parse.calls _ _ t158 t161 t162 t163 _ ?side1 ?side2 A6.out).mono ?_); (case side1 => repeat (first | exact (Kd.V_reads' HO160.out).2.2 | (with_reducible refine Kd.C_alloc ?_ _) | (with_reducible refine Kd.C_drewN ?_ _) | (with_reducible refine Kd.C_drew ?_))); (case side2 => exact (Kd.V_reads' HO160.out).2.1); rintro e w18 ⟨v164, rfl, ho0, hb⟩; refine ⟨_, rfl, ?_⟩; have n0_ := Aside0.mk (Kd.V_elder' (by (with_reducible repeat (first | apply Kd.V_alloc | apply Kd.V_drewN | apply Kd.V_drew)); exact HO144.out) (Kd.R_base ho0) hb); have n1_ := Aside0.mk (Kd.R_elder' (by (with_reducible repeat (first | apply Kd.R_alloc | apply Kd.R_drewN | apply Kd.R_drew)); exact HO149.out) (Kd.R_base ho0) hb); have n2_ := Aside0.mk (Kd.V_elder' (by (with_reducible repeat (first | apply Kd.V_alloc | apply Kd.V_drewN | apply Kd.V_drew)); exact HO152.out) (Kd.R_base ho0) hb); have n3_ := Aside0.mk (Kd.R_elder' (by (with_reducible repeat (first | apply Kd.R_alloc | apply Kd.R_drewN | apply Kd.R_drew)); exact HO157.out) (Kd.R_base ho0) hb); have n4_ := Aside0.mk (Kd.V_elder' (by (with_reducible repeat (first | apply Kd.V_alloc | apply Kd.V_drewN | apply Kd.V_drew)); exact HO160.out) (Kd.R_base ho0) hb); have n5_ := Aside0.mk (Kd.R_lower (Kd.R_new' (Kd.R_new' ho0 (Kd.R_lt (by (with_reducible repeat (first | apply Kd.R_alloc | apply Kd.R_drewN | apply Kd.R_drew)); exact HO149.out))) (Kd.R_lt (by (with_reducible repeat (first | apply Kd.R_alloc | apply Kd.R_drewN | apply Kd.R_drew)); exact HO157.out))) (below_size (by repeat (first | (with_reducible first | exact HB.out | apply below_alloc | apply pw_below_drewN | apply below_drew1) | exact HB.out)))); have n6_ := Aside0.mk (below_step (by repeat (first | (with_reducible first | exact HB.out | apply below_alloc | apply pw_below_drewN | apply below_drew1) | exact HB.out)) hb); clear HO144; clear HO149; clear HO152; clear HO157; clear HO160; clear HB; have HO144 := n0_; have HO149 := n1_; have HO152 := n2_; have HO157 := n3_; have HO160 := n4_; have HO165 := n5_; have HB := n6_; clear n0_ n1_ n2_ n3_ n4_ n5_ n6_; (try clear hb); (try clear hb2); (try clear hk); (try clear hi); (try clear ho0)) | ((with_reducible refine gate_dst (N := 40) rfl ?_); refine conv_lit_event 40 41 rfl rfl rfl rfl ([72, 111, 115, 116, 32, 58, 32, 97] : List Int) _ (by first | (go_simp; done) | (go_simp; rfl)) rfl (fun _ => rfl) (⟨#[72, 111, 115, 116, 32, 58, 32, 97]⟩ : ByteArray) (by decide +kernel) _ A7.out ?_; rintro e w19 ⟨v167, rfl, ho0, hb⟩; refine ⟨_, rfl, ?_⟩; have n0_ := Aside0.mk (Kd.V_below (by (with_reducible repeat (first | apply Kd.V_alloc | apply Kd.V_drewN | apply Kd.V_drew)); exact HO144.out) hb); have n1_ := Aside0.mk (Kd.R_below (by (with_reducible repeat (first | apply Kd.R_alloc | apply Kd.R_drewN | apply Kd.R_drew)); exact HO149.out) hb); have n2_ := Aside0.mk (Kd.V_below (by (with_reducible repeat (first | apply Kd.V_alloc | apply Kd.V_drewN | apply Kd.V_drew)); exact HO152.out) hb); have n3_ := Aside0.mk (Kd.R_below (by (with_reducible repeat (first | apply Kd.R_alloc | apply Kd.R_drewN | apply Kd.R_drew)); exact HO157.out) hb); have n4_ := Aside0.mk (Kd.V_below (by (with_reducible repeat (first | apply Kd.V_alloc | apply Kd.V_drewN | apply Kd.V_drew)); exact HO160.out) hb); have n5_ := Aside0.mk (Kd.R_below (by (with_reducible repeat (first | apply Kd.R_alloc | apply Kd.R_drewN | apply Kd.R_drew)); exact HO165.out) hb); have n6_ := Aside0.mk (Kd.V_lower (Kd.V_mono (ok' := fun k_ => some k_ ≠ (v148 : Value).ownBlock ∧ some k_ ≠ (v156 : Value).ownBlock ∧ some k_ ≠ (v164 : Value).ownBlock) ho0 (fun k_ hk_ => ⟨(Kd.fresh' (Kd.R_lt (by (with_reducible repeat (first | apply Kd.R_alloc | apply Kd.R_drewN | apply Kd.R_drew)); exact HO149.out)) k_ hk_), (Kd.fresh' (Kd.R_lt (by (with_reducible repeat (first | apply Kd.R_alloc | apply Kd.R_drewN | apply Kd.R_drew)); exact HO157.out)) k_ hk_), (Kd.fresh' (Kd.R_lt (by (with_reducible repeat (first | apply Kd.R_alloc | apply Kd.R_drewN | apply Kd.R_drew)); exact HO165.out)) k_ hk_)⟩)) (below_size (by repeat (first | (with_reducible first | exact HB.out | apply below_alloc | apply pw_below_drewN | apply below_drew1) | exact HB.out)))); have n7_ := Aside0.mk (below_step (by repeat (first | (with_reducible first | exact HB.out | apply below_alloc | apply pw_below_drewN | apply below_drew1) | exact HB.out)) hb); clear HO144; clear HO149; clear HO152; clear HO157; clear HO160; clear HO165; clear HB; have HO144 := n0_; have HO149 := n1_; have HO152 := n2_; have HO157 := n3_; have HO160 := n4_; have HO165 := n5_; have HO168 := n6_; have HB := n7_; clear n0_ n1_ n2_ n3_ n4_ n5_ n6_ n7_; (try clear hb); (try clear hb2); (try clear hk); (try clear hi); (try clear ho0); obtain ⟨Ao20, co20, eo20⟩ := Kd.V_slice HO168.out; subst eo20) | ((with_reducible refine gate_callee (f := 9) rfl ?_); refine goesL_ (some 42) rfl rfl Tryd.func9 (by kernel_rfl) rfl #[.slice Ao20 t166.length co20] rfl (by (try simp only [List.map_toArray, List.map_cons, List.map_nil]); first | done | rfl | (simp only [List.length_drop, List.length_take]; rfl)) ?_; (with_reducible refine (head_Parse.calls _ _ t166 t169 t170 t171 _ ?side1 ?side2 A8.out).mono ?_); (case side1 => repeat (first | exact (Kd.V_reads' HO168.out).2.2 | (with_reducible refine Kd.C_alloc ?_ _) | (with_reducible refine Kd.C_drewN ?_ _) | (with_reducible refine Kd.C_drew ?_))); (case side2 => exact (Kd.V_reads' HO168.out).2.1); rintro e w21 ⟨v172, rfl, ho0, hb⟩; refine ⟨_, rfl, ?_⟩; have n0_ := Aside0.mk (Kd.V_elder' (by (with_reducible repeat (first | apply Kd.V_alloc | apply Kd.V_drewN | apply Kd.V_drew)); exact HO144.out) (Kd.R_base ho0) hb); have n1_ := Aside0.mk (Kd.R_elder' (by (with_reducible repeat (first | apply Kd.R_alloc | apply Kd.R_drewN | apply Kd.R_drew)); exact HO149.out) (Kd.R_base ho0) hb); have n2_ := Aside0.mk (Kd.V_elder' (by (with_reducible repeat (first | apply Kd.V_alloc | apply Kd.V_drewN | apply Kd.V_drew)); exact HO152.out) (Kd.R_base ho0) hb); have n3_ := Aside0.mk (Kd.R_elder' (by (with_reducible repeat (first | apply Kd.R_alloc | apply Kd.R_drewN | apply Kd.R_drew)); exact HO157.out) (Kd.R_base ho0) hb); have n4_ := Aside0.mk (Kd.V_elder' (by (with_reducible repeat (first | apply Kd.V_alloc | apply Kd.V_drewN | apply Kd.V_drew)); exact HO160.out) (Kd.R_base ho0) hb); have n5_ := Aside0.mk (Kd.R_elder' (by (with_reducible repeat (first | apply Kd.R_alloc | apply Kd.R_drewN | apply Kd.R_drew)); exact HO165.out) (Kd.R_base ho0) hb); have n6_ := Aside0.mk (Kd.V_elder' (by (with_reducible repeat (first | apply Kd.V_alloc | apply Kd.V_drewN | apply Kd.V_drew)); exact HO168.out) (Kd.R_base ho0) hb); have n7_ := Aside0.mk (Kd.R_lower (Kd.R_new' (Kd.R_new' (Kd.R_new' ho0 (Kd.R_lt (by (with_reducible repeat (first | apply Kd.R_alloc | apply Kd.R_drewN | apply Kd.R_drew)); exact HO149.out))) (Kd.R_lt (by (with_reducible repeat (first | apply Kd.R_alloc | apply Kd.R_drewN | apply Kd.R_drew)); exact HO157.out))) (Kd.R_lt (by (with_reducible repeat (first | apply Kd.R_alloc | apply Kd.R_drewN | apply Kd.R_drew)); exact HO165.out))) (below_size (by repeat (first | (with_reducible first | exact HB.out | apply below_alloc | apply pw_below_drewN | apply below_drew1) | exact HB.out)))); have n8_ := Aside0.mk (below_step (by repeat (first | (with_reducible first | exact HB.out | apply below_alloc | apply pw_below_drewN | apply below_drew1) | exact HB.out)) hb); clear HO144; clear HO149; clear HO152; clear HO157; clear HO160; clear HO165; clear HO168; clear HB; have HO144 := n0_; have HO149 := n1_; have HO152 := n2_; have HO157 := n3_; have HO160 := n4_; have HO165 := n5_; have HO168 := n6_; have HO173 := n7_; have HB := n8_; clear n0_ n1_ n2_ n3_ n4_ n5_ n6_ n7_ n8_; (try clear hb); (try clear hb2); (try clear hk); (try clear hi); (try clear ho0)))
  (try simp only [Act.put, List.setIfInBounds_toArray, List.set_cons_zero, List.set_cons_succ])
  go_cut [79] (fun v79 wc => ∃ (kq : Nat) (x79_8 : Bool), v79 = .bool x79_8 ∧ Aside0 (tollhouselaw05_wakes.j0 kq t145 x79_8 = some r) ∧ Aside0 (kq ≤ k) ∧ Aside0 (Kd.R k45 45 wc w.heap.size (fun _ => True) v148 t145) ∧ Aside0 (Below w.heap.size w wc))
  case first =>
    have H := HC9.out
    clear HC9
    by_cases c22 : t147 = 0
    · rw [if_pos c22] at H
      have c22b0 : (t147 == 0) = true := beq_iff_eq.mpr c22
      have c22b1 : (t147 != 0) = false := bne_eq_false_iff_eq.mpr c22
      clear c22
      (first | rw [c22b0] | (simp only [i64_w, i32_w]; rw [c22b0]) | skip)
      by_cases c23 : t146 = 22
      · rw [if_pos c23] at H
        have c23b0 : (t146 == 22) = true := beq_iff_eq.mpr c23
        have c23b1 : (t146 != 22) = false := bne_eq_false_iff_eq.mpr c23
        clear c23
        by_cases c24 : (t145.length : Int) = 2
        · rw [if_pos c24] at H
          have c24b0 : ((t145.length : Int) == 2) = true := beq_iff_eq.mpr c24
          have c24b1 : ((t145.length : Int) != 2) = false := bne_eq_false_iff_eq.mpr c24
          clear c24
          by_cases c25 : 1 < (t145.length : Int)
          · rw [if_pos c25] at H
            have c25b0 : decide (1 < (t145.length : Int)) = true := decide_eq_true c25
            have c25b1 : decide (1 < t145.length) = true := decide_eq_true (by omega)
            clear c25
            by_cases c26 : (!((((rd_T45 t145 1).f0).toList) == ([88, 45, 89] : List UInt8)) || (!((((rd_T45 t145 1).f1).toList) == ([98, 32, 99] : List UInt8)))) = true
            · rw [if_pos c26] at H
              have c26b0 : (!((((rd_T45 t145 1).f0).toList) == ([88, 45, 89] : List UInt8)) || (!((((rd_T45 t145 1).f1).toList) == ([98, 32, 99] : List UInt8)))) = true := c26
              clear c26
              have H' := Aside0.mk H
              clear H
              obtain ⟨Ao27, co27, eo27⟩ := Kd.R_slice HO149.out
              subst eo27
              have p174 : 0 ≤ (1 : Int) := (by omega)
              have q174 : 1 < (t145.length : Int) := of_decide_eq_true (by first | (with_reducible assumption) | assumption)
              obtain ⟨ad174, e174, hx174_0, hx174_1⟩ := at_T45 (Kd.R_reads' HO149.out).2.2 1 p174 q174
              cases e174
              (try simp only [show (1 : Int).toNat = 1 from rfl, Nat.reduceMul, Nat.reduceEqDiff, Go.Addr.add, ↓reduceIte] at hx174_0)
              (try simp only [show (1 : Int).toNat = 1 from rfl, Nat.reduceMul, Nat.reduceEqDiff, Go.Addr.add, ↓reduceIte] at hx174_1)
              have qi174 : (1 < t145.length) = True := eq_true (by omega)
              (try rw [show ((1 : Int)).toNat = 1 from rfl] at hx174_0)
              (try rw [show 1 * 2 = 2 from rfl] at hx174_0)
              (try rw [show ((1 : Int)).toNat = 1 from rfl] at hx174_1)
              (try rw [show 1 * 2 = 2 from rfl] at hx174_1)
              replace p174 := eq_true p174
              replace q174 := eq_true q174
              go_wp2
              go_meet
              case rel => exact ⟨_, (true), (by first | rfl | (simp; done) | (simp [*]; done)), H', ⟨by first | omega | exact Nat.le_refl _⟩, ⟨by (with_reducible repeat (first | apply Kd.R_alloc | apply Kd.R_drewN | apply Kd.R_drew)); exact Kd.R_mono HO149.out (fun _ hk => trivial)⟩, ⟨by repeat (first | (with_reducible first | exact HB.out | apply below_alloc | apply pw_below_drewN | apply below_drew1) | exact HB.out)⟩⟩
            · rw [if_neg c26] at H
              have c26b0 : (!((((rd_T45 t145 1).f0).toList) == ([88, 45, 89] : List UInt8)) || (!((((rd_T45 t145 1).f1).toList) == ([98, 32, 99] : List UInt8)))) = false := by simpa using c26
              clear c26
              by_cases c28 : t154 = 2
              · rw [if_pos c28] at H
                have c28b0 : (t154 == 2) = true := beq_iff_eq.mpr c28
                have c28b1 : (t154 != 2) = false := bne_eq_false_iff_eq.mpr c28
                clear c28
                by_cases c29 : t155 = 0
                · rw [if_pos c29] at H
                  have c29b0 : (t155 == 0) = true := beq_iff_eq.mpr c29
                  have c29b1 : (t155 != 0) = false := bne_eq_false_iff_eq.mpr c29
                  clear c29
                  by_cases c30 : t163 = 8
                  · rw [if_pos c30] at H
                    have c30b0 : (t163 == 8) = true := beq_iff_eq.mpr c30
                    have c30b1 : (t163 != 8) = false := bne_eq_false_iff_eq.mpr c30
                    clear c30
                    have H' := Aside0.mk H
                    clear H
                    obtain ⟨Ao31, co31, eo31⟩ := Kd.R_slice HO149.out
                    subst eo31
                    have p174 : 0 ≤ (1 : Int) := (by omega)
                    have q174 : 1 < (t145.length : Int) := of_decide_eq_true (by first | (with_reducible assumption) | assumption)
                    obtain ⟨ad174, e174, hx174_0, hx174_1⟩ := at_T45 (Kd.R_reads' HO149.out).2.2 1 p174 q174
                    cases e174
                    (try simp only [show (1 : Int).toNat = 1 from rfl, Nat.reduceMul, Nat.reduceEqDiff, Go.Addr.add, ↓reduceIte] at hx174_0)
                    (try simp only [show (1 : Int).toNat = 1 from rfl, Nat.reduceMul, Nat.reduceEqDiff, Go.Addr.add, ↓reduceIte] at hx174_1)
                    have qi174 : (1 < t145.length) = True := eq_true (by omega)
                    (try rw [show ((1 : Int)).toNat = 1 from rfl] at hx174_0)
                    (try rw [show 1 * 2 = 2 from rfl] at hx174_0)
                    (try rw [show ((1 : Int)).toNat = 1 from rfl] at hx174_1)
                    (try rw [show 1 * 2 = 2 from rfl] at hx174_1)
                    replace p174 := eq_true p174
                    replace q174 := eq_true q174
                    go_wp2
                    go_meet
                    case rel => exact ⟨_, ((t171 != 20)), (by first | rfl | (simp; done) | (simp [*]; done)), H', ⟨by first | omega | exact Nat.le_refl _⟩, ⟨by (with_reducible repeat (first | apply Kd.R_alloc | apply Kd.R_drewN | apply Kd.R_drew)); exact Kd.R_mono HO149.out (fun _ hk => trivial)⟩, ⟨by repeat (first | (with_reducible first | exact HB.out | apply below_alloc | apply pw_below_drewN | apply below_drew1) | exact HB.out)⟩⟩
                  · rw [if_neg c30] at H
                    have c30b0 : (t163 == 8) = false := beq_eq_false_iff_ne.mpr c30
                    have c30b1 : (t163 != 8) = true := bne_iff_ne.mpr c30
                    have H' := Aside0.mk H
                    clear H
                    obtain ⟨Ao32, co32, eo32⟩ := Kd.R_slice HO149.out
                    subst eo32
                    have p174 : 0 ≤ (1 : Int) := (by omega)
                    have q174 : 1 < (t145.length : Int) := of_decide_eq_true (by first | (with_reducible assumption) | assumption)
                    obtain ⟨ad174, e174, hx174_0, hx174_1⟩ := at_T45 (Kd.R_reads' HO149.out).2.2 1 p174 q174
                    cases e174
                    (try simp only [show (1 : Int).toNat = 1 from rfl, Nat.reduceMul, Nat.reduceEqDiff, Go.Addr.add, ↓reduceIte] at hx174_0)
                    (try simp only [show (1 : Int).toNat = 1 from rfl, Nat.reduceMul, Nat.reduceEqDiff, Go.Addr.add, ↓reduceIte] at hx174_1)
                    have qi174 : (1 < t145.length) = True := eq_true (by omega)
                    (try rw [show ((1 : Int)).toNat = 1 from rfl] at hx174_0)
                    (try rw [show 1 * 2 = 2 from rfl] at hx174_0)
                    (try rw [show ((1 : Int)).toNat = 1 from rfl] at hx174_1)
                    (try rw [show 1 * 2 = 2 from rfl] at hx174_1)
                    replace p174 := eq_true p174
                    replace q174 := eq_true q174
                    go_wp2
                    go_meet
                    case rel => exact ⟨_, (true), (by first | rfl | (simp; done) | (simp [*]; done)), H', ⟨by first | omega | exact Nat.le_refl _⟩, ⟨by (with_reducible repeat (first | apply Kd.R_alloc | apply Kd.R_drewN | apply Kd.R_drew)); exact Kd.R_mono HO149.out (fun _ hk => trivial)⟩, ⟨by repeat (first | (with_reducible first | exact HB.out | apply below_alloc | apply pw_below_drewN | apply below_drew1) | exact HB.out)⟩⟩
                · rw [if_neg c29] at H
                  have c29b0 : (t155 == 0) = false := beq_eq_false_iff_ne.mpr c29
                  have c29b1 : (t155 != 0) = true := bne_iff_ne.mpr c29
                  have H' := Aside0.mk H
                  clear H
                  obtain ⟨Ao33, co33, eo33⟩ := Kd.R_slice HO149.out
                  subst eo33
                  have p174 : 0 ≤ (1 : Int) := (by omega)
                  have q174 : 1 < (t145.length : Int) := of_decide_eq_true (by first | (with_reducible assumption) | assumption)
                  obtain ⟨ad174, e174, hx174_0, hx174_1⟩ := at_T45 (Kd.R_reads' HO149.out).2.2 1 p174 q174
                  cases e174
                  (try simp only [show (1 : Int).toNat = 1 from rfl, Nat.reduceMul, Nat.reduceEqDiff, Go.Addr.add, ↓reduceIte] at hx174_0)
                  (try simp only [show (1 : Int).toNat = 1 from rfl, Nat.reduceMul, Nat.reduceEqDiff, Go.Addr.add, ↓reduceIte] at hx174_1)
                  have qi174 : (1 < t145.length) = True := eq_true (by omega)
                  (try rw [show ((1 : Int)).toNat = 1 from rfl] at hx174_0)
                  (try rw [show 1 * 2 = 2 from rfl] at hx174_0)
                  (try rw [show ((1 : Int)).toNat = 1 from rfl] at hx174_1)
                  (try rw [show 1 * 2 = 2 from rfl] at hx174_1)
                  replace p174 := eq_true p174
                  replace q174 := eq_true q174
                  go_wp2
                  go_meet
                  case rel => exact ⟨_, (true), (by first | rfl | (simp; done) | (simp [*]; done)), H', ⟨by first | omega | exact Nat.le_refl _⟩, ⟨by (with_reducible repeat (first | apply Kd.R_alloc | apply Kd.R_drewN | apply Kd.R_drew)); exact Kd.R_mono HO149.out (fun _ hk => trivial)⟩, ⟨by repeat (first | (with_reducible first | exact HB.out | apply below_alloc | apply pw_below_drewN | apply below_drew1) | exact HB.out)⟩⟩
              · rw [if_neg c28] at H
                have c28b0 : (t154 == 2) = false := beq_eq_false_iff_ne.mpr c28
                have c28b1 : (t154 != 2) = true := bne_iff_ne.mpr c28
                have H' := Aside0.mk H
                clear H
                obtain ⟨Ao34, co34, eo34⟩ := Kd.R_slice HO149.out
                subst eo34
                have p174 : 0 ≤ (1 : Int) := (by omega)
                have q174 : 1 < (t145.length : Int) := of_decide_eq_true (by first | (with_reducible assumption) | assumption)
                obtain ⟨ad174, e174, hx174_0, hx174_1⟩ := at_T45 (Kd.R_reads' HO149.out).2.2 1 p174 q174
                cases e174
                (try simp only [show (1 : Int).toNat = 1 from rfl, Nat.reduceMul, Nat.reduceEqDiff, Go.Addr.add, ↓reduceIte] at hx174_0)
                (try simp only [show (1 : Int).toNat = 1 from rfl, Nat.reduceMul, Nat.reduceEqDiff, Go.Addr.add, ↓reduceIte] at hx174_1)
                have qi174 : (1 < t145.length) = True := eq_true (by omega)
                (try rw [show ((1 : Int)).toNat = 1 from rfl] at hx174_0)
                (try rw [show 1 * 2 = 2 from rfl] at hx174_0)
                (try rw [show ((1 : Int)).toNat = 1 from rfl] at hx174_1)
                (try rw [show 1 * 2 = 2 from rfl] at hx174_1)
                replace p174 := eq_true p174
                replace q174 := eq_true q174
                go_wp2
                go_meet
                case rel => exact ⟨_, (true), (by first | rfl | (simp; done) | (simp [*]; done)), H', ⟨by first | omega | exact Nat.le_refl _⟩, ⟨by (with_reducible repeat (first | apply Kd.R_alloc | apply Kd.R_drewN | apply Kd.R_drew)); exact Kd.R_mono HO149.out (fun _ hk => trivial)⟩, ⟨by repeat (first | (with_reducible first | exact HB.out | apply below_alloc | apply pw_below_drewN | apply below_drew1) | exact HB.out)⟩⟩
          · rw [if_neg c25] at H
            exact absurd H (by simp)
        · rw [if_neg c24] at H
          have c24b0 : ((t145.length : Int) == 2) = false := beq_eq_false_iff_ne.mpr c24
          have c24b1 : ((t145.length : Int) != 2) = true := bne_iff_ne.mpr c24
          have H' := Aside0.mk H
          clear H
          obtain ⟨Ao35, co35, eo35⟩ := Kd.R_slice HO149.out
          subst eo35
          go_wp2
          go_meet
          case rel => exact ⟨_, (true), (by first | rfl | (simp; done) | (simp [*]; done)), H', ⟨by first | omega | exact Nat.le_refl _⟩, ⟨by (with_reducible repeat (first | apply Kd.R_alloc | apply Kd.R_drewN | apply Kd.R_drew)); exact Kd.R_mono HO149.out (fun _ hk => trivial)⟩, ⟨by repeat (first | (with_reducible first | exact HB.out | apply below_alloc | apply pw_below_drewN | apply below_drew1) | exact HB.out)⟩⟩
      · rw [if_neg c23] at H
        have c23b0 : (t146 == 22) = false := beq_eq_false_iff_ne.mpr c23
        have c23b1 : (t146 != 22) = true := bne_iff_ne.mpr c23
        have H' := Aside0.mk H
        clear H
        go_wp2
        go_meet
        case rel => exact ⟨_, (true), (by first | rfl | (simp; done) | (simp [*]; done)), H', ⟨by first | omega | exact Nat.le_refl _⟩, ⟨by (with_reducible repeat (first | apply Kd.R_alloc | apply Kd.R_drewN | apply Kd.R_drew)); exact Kd.R_mono HO149.out (fun _ hk => trivial)⟩, ⟨by repeat (first | (with_reducible first | exact HB.out | apply below_alloc | apply pw_below_drewN | apply below_drew1) | exact HB.out)⟩⟩
    · rw [if_neg c22] at H
      have c22b0 : (t147 == 0) = false := beq_eq_false_iff_ne.mpr c22
      have c22b1 : (t147 != 0) = true := bne_iff_ne.mpr c22
      (first | rw [c22b0] | (simp only [i64_w, i32_w]; rw [c22b0]) | skip)
      have H' := Aside0.mk H
      clear H
      go_wp2
      go_meet
      case rel => exact ⟨_, (true), (by first | rfl | (simp; done) | (simp [*]; done)), H', ⟨by first | omega | exact Nat.le_refl _⟩, ⟨by (with_reducible repeat (first | apply Kd.R_alloc | apply Kd.R_drewN | apply Kd.R_drew)); exact Kd.R_mono HO149.out (fun _ hk => trivial)⟩, ⟨by repeat (first | (with_reducible first | exact HB.out | apply below_alloc | apply pw_below_drewN | apply below_drew1) | exact HB.out)⟩⟩
  case rest =>
    clear HC9
    try clear c1
    try clear p1
    try clear q1
    try clear hx1
    try clear qi1
    try clear c2
    try clear p2
    try clear c3
    try clear c9
    try clear c12
    try clear p17
    try clear q17
    try clear hx17
    try clear qi17
    try clear c22
    try clear c22b0
    try clear c22b1
    try clear c23
    try clear c23b0
    try clear c23b1
    try clear c24
    try clear c24b0
    try clear c24b1
    try clear c25
    try clear c25b0
    try clear c25b1
    try clear c26
    try clear c26b0
    try clear c28
    try clear c28b0
    try clear c28b1
    try clear c29
    try clear c29b0
    try clear c29b1
    try clear c30
    try clear c30b0
    try clear c30b1
    try clear hx174_0
    try clear hx174_1
    try clear p174
    try clear q174
    obtain ⟨kq, x79_8, rfl, HA, HJ8, HO_1, HB⟩ := hcut
    cases kq with
    | zero => exact absurd HA.out (by simp [tollhouselaw05_wakes.j0])
    | succ kj8 =>
      have H := HA.out
      clear HA
      simp only [tollhouselaw05_wakes.j0] at H
      by_cases c36 : x79_8 = true
      · subst c36
        have H1 : (some false) = some r := by rw [if_pos rfl] at H; exact H
        clear H
        have H := H1
        clear H1
        exact absurd ((Option.some.inj H).trans hr_) (by decide)
      · replace c36 := Bool.eq_false_iff.mpr c36
        subst c36
        have H1 : ((head_Get.f kj8 t145 (⟨#[104, 111, 115, 116]⟩ : ByteArray)).bind fun t175 => ((head_Drop.f t145 (([(⟨#[72, 79, 83, 84]⟩ : ByteArray)] : List ByteArray))).bind fun t181 => ((head_With.f t145 (⟨#[104, 111, 115, 116]⟩ : ByteArray) (⟨#[98]⟩ : ByteArray)).bind fun t184 => ((head_Put.f kj8 t181).bind fun bt187 => (if (t175.length : Int) = 1 then (if 0 < (t175.length : Int) then (if (rdOf ByteArray.empty t175 0).toList = ([97] : List UInt8) then (if (t181.length : Int) = 1 then (if (t184.length : Int) = 2 then (if 1 < (t184.length : Int) then (if ((rd_T45 t184 1).f1).toList = ([98] : List UInt8) then ((head_May.f t145).bind fun t193 => (if t193 = true then (if bt187.2 = 0 then (some ((strOfNums bt187.1).toList == ([88, 45, 89, 58, 32, 98, 32, 99, 13, 10, 13, 10] : List UInt8))) else (some false)) else (some false))) else (some false)) else (none)) else (some false)) else (some false)) else (some false)) else (none)) else (some false)))))) = some r := by rw [if_neg (show ¬ (false = true) by decide)] at H; exact H
        clear H
        have H := H1
        clear H1
        replace H := Option.bind_eq_some_iff.mp H
        obtain ⟨t175, A370, H⟩ := H
        replace H : ((head_Drop.f t145 (([(⟨#[72, 79, 83, 84]⟩ : ByteArray)] : List ByteArray))).bind fun t181 => ((head_With.f t145 (⟨#[104, 111, 115, 116]⟩ : ByteArray) (⟨#[98]⟩ : ByteArray)).bind fun t184 => ((head_Put.f kj8 t181).bind fun bt187 => (if (t175.length : Int) = 1 then (if 0 < (t175.length : Int) then (if (rdOf ByteArray.empty t175 0).toList = ([97] : List UInt8) then (if (t181.length : Int) = 1 then (if (t184.length : Int) = 2 then (if 1 < (t184.length : Int) then (if ((rd_T45 t184 1).f1).toList = ([98] : List UInt8) then ((head_May.f t145).bind fun t193 => (if t193 = true then (if bt187.2 = 0 then (some ((strOfNums bt187.1).toList == ([88, 45, 89, 58, 32, 98, 32, 99, 13, 10, 13, 10] : List UInt8))) else (some false)) else (some false))) else (some false)) else (none)) else (some false)) else (some false)) else (some false)) else (none)) else (some false))))) = some r := H
        have A37 := Aside0.mk A370
        clear A370
        obtain ⟨y178, hy178⟩ : ∃ y_ : List ByteArray, y_ = (([(⟨#[72, 79, 83, 84]⟩ : ByteArray)] : List ByteArray)) := ⟨_, rfl⟩
        replace H : ((head_Drop.f t145 y178).bind fun t181 => ((head_With.f t145 (⟨#[104, 111, 115, 116]⟩ : ByteArray) (⟨#[98]⟩ : ByteArray)).bind fun t184 => ((head_Put.f kj8 t181).bind fun bt187 => (if (t175.length : Int) = 1 then (if 0 < (t175.length : Int) then (if (rdOf ByteArray.empty t175 0).toList = ([97] : List UInt8) then (if (t181.length : Int) = 1 then (if (t184.length : Int) = 2 then (if 1 < (t184.length : Int) then (if ((rd_T45 t184 1).f1).toList = ([98] : List UInt8) then ((head_May.f t145).bind fun t193 => (if t193 = true then (if bt187.2 = 0 then (some ((strOfNums bt187.1).toList == ([88, 45, 89, 58, 32, 98, 32, 99, 13, 10, 13, 10] : List UInt8))) else (some false)) else (some false))) else (some false)) else (none)) else (some false)) else (some false)) else (some false)) else (none)) else (some false))))) = some r := by first | (rw [hy178]; with_reducible exact H) | (have H2_ := (Option.bind_some _ _).symm.trans H; rw [hy178]; with_reducible exact H2_) | (have H2_ := (Option.bind_some _ _).symm.trans H; with_reducible exact H2_) | with_reducible exact H | (rw [hy178]; exact H) | exact H
        have Ny178 := Aside0.mk hy178
        clear hy178
        replace H := Option.bind_eq_some_iff.mp H
        obtain ⟨t181, A380, H⟩ := H
        replace H : ((head_With.f t145 (⟨#[104, 111, 115, 116]⟩ : ByteArray) (⟨#[98]⟩ : ByteArray)).bind fun t184 => ((head_Put.f kj8 t181).bind fun bt187 => (if (t175.length : Int) = 1 then (if 0 < (t175.length : Int) then (if (rdOf ByteArray.empty t175 0).toList = ([97] : List UInt8) then (if (t181.length : Int) = 1 then (if (t184.length : Int) = 2 then (if 1 < (t184.length : Int) then (if ((rd_T45 t184 1).f1).toList = ([98] : List UInt8) then ((head_May.f t145).bind fun t193 => (if t193 = true then (if bt187.2 = 0 then (some ((strOfNums bt187.1).toList == ([88, 45, 89, 58, 32, 98, 32, 99, 13, 10, 13, 10] : List UInt8))) else (some false)) else (some false))) else (some false)) else (none)) else (some false)) else (some false)) else (some false)) else (none)) else (some false)))) = some r := H
        have A38 := Aside0.mk A380
        clear A380
        replace H := Option.bind_eq_some_iff.mp H
        obtain ⟨t184, A390, H⟩ := H
        replace H : ((head_Put.f kj8 t181).bind fun bt187 => (if (t175.length : Int) = 1 then (if 0 < (t175.length : Int) then (if (rdOf ByteArray.empty t175 0).toList = ([97] : List UInt8) then (if (t181.length : Int) = 1 then (if (t184.length : Int) = 2 then (if 1 < (t184.length : Int) then (if ((rd_T45 t184 1).f1).toList = ([98] : List UInt8) then ((head_May.f t145).bind fun t193 => (if t193 = true then (if bt187.2 = 0 then (some ((strOfNums bt187.1).toList == ([88, 45, 89, 58, 32, 98, 32, 99, 13, 10, 13, 10] : List UInt8))) else (some false)) else (some false))) else (some false)) else (none)) else (some false)) else (some false)) else (some false)) else (none)) else (some false))) = some r := H
        have A39 := Aside0.mk A390
        clear A390
        replace H := Option.bind_eq_some_iff.mp H
        obtain ⟨⟨t187, t188⟩, A400, H⟩ := H
        replace H : (if (t175.length : Int) = 1 then (if 0 < (t175.length : Int) then (if (rdOf ByteArray.empty t175 0).toList = ([97] : List UInt8) then (if (t181.length : Int) = 1 then (if (t184.length : Int) = 2 then (if 1 < (t184.length : Int) then (if ((rd_T45 t184 1).f1).toList = ([98] : List UInt8) then ((head_May.f t145).bind fun t193 => (if t193 = true then (if t188 = 0 then (some ((strOfNums t187).toList == ([88, 45, 89, 58, 32, 98, 32, 99, 13, 10, 13, 10] : List UInt8))) else (some false)) else (some false))) else (some false)) else (none)) else (some false)) else (some false)) else (some false)) else (none)) else (some false)) = some r := H
        have A40 := Aside0.mk A400
        clear A400
        by_cases c41 : (t175.length : Int) = 1
        · rw [if_pos c41] at H
          have c41b0 : ((t175.length : Int) == 1) = true := beq_iff_eq.mpr c41
          have c41b1 : ((t175.length : Int) != 1) = false := bne_eq_false_iff_eq.mpr c41
          clear c41
          by_cases c42 : 0 < (t175.length : Int)
          · rw [if_pos c42] at H
            have c42b0 : decide (0 < (t175.length : Int)) = true := decide_eq_true c42
            have c42b1 : decide (0 < t175.length) = true := decide_eq_true (by omega)
            clear c42
            by_cases c43 : (rdOf ByteArray.empty t175 0).toList = ([97] : List UInt8)
            · rw [if_pos c43] at H
              have c43b0 : ((rdOf ByteArray.empty t175 0).toList == ([97] : List UInt8)) = true := beq_iff_eq.mpr c43
              have c43b1 : ((rdOf ByteArray.empty t175 0).toList != ([97] : List UInt8)) = false := bne_eq_false_iff_eq.mpr c43
              clear c43
              by_cases c44 : (t181.length : Int) = 1
              · rw [if_pos c44] at H
                have c44b0 : ((t181.length : Int) == 1) = true := beq_iff_eq.mpr c44
                have c44b1 : ((t181.length : Int) != 1) = false := bne_eq_false_iff_eq.mpr c44
                clear c44
                by_cases c45 : (t184.length : Int) = 2
                · rw [if_pos c45] at H
                  have c45b0 : ((t184.length : Int) == 2) = true := beq_iff_eq.mpr c45
                  have c45b1 : ((t184.length : Int) != 2) = false := bne_eq_false_iff_eq.mpr c45
                  clear c45
                  by_cases c46 : 1 < (t184.length : Int)
                  · rw [if_pos c46] at H
                    have c46b0 : decide (1 < (t184.length : Int)) = true := decide_eq_true c46
                    have c46b1 : decide (1 < t184.length) = true := decide_eq_true (by omega)
                    clear c46
                    by_cases c47 : ((rd_T45 t184 1).f1).toList = ([98] : List UInt8)
                    · rw [if_pos c47] at H
                      have c47b0 : (((rd_T45 t184 1).f1).toList == ([98] : List UInt8)) = true := beq_iff_eq.mpr c47
                      have c47b1 : (((rd_T45 t184 1).f1).toList != ([98] : List UInt8)) = false := bne_eq_false_iff_eq.mpr c47
                      clear c47
                      replace H := Option.bind_eq_some_iff.mp H
                      obtain ⟨t193, A480, H⟩ := H
                      replace H : (if t193 = true then (if t188 = 0 then (some ((strOfNums t187).toList == ([88, 45, 89, 58, 32, 98, 32, 99, 13, 10, 13, 10] : List UInt8))) else (some false)) else (some false)) = some r := H
                      have A48 := Aside0.mk A480
                      clear A480
                      by_cases c49 : t193 = true
                      · subst c49
                        have H1 : (if t188 = 0 then (some ((strOfNums t187).toList == ([88, 45, 89, 58, 32, 98, 32, 99, 13, 10, 13, 10] : List UInt8))) else (some false)) = some r := by rw [if_pos rfl] at H; exact H
                        clear H
                        have H := H1
                        clear H1
                        by_cases c50 : t188 = 0
                        · rw [if_pos c50] at H
                          have c50b0 : (t188 == 0) = true := beq_iff_eq.mpr c50
                          have c50b1 : (t188 != 0) = false := bne_eq_false_iff_eq.mpr c50
                          clear c50
                          obtain rfl := Option.some.inj H
                          obtain ⟨Ao51, co51, eo51⟩ := Kd.R_slice HO_1.out
                          subst eo51
                          go_wp2_with (first | ((with_reducible refine gate_callee (f := 19) rfl ?_); refine goesL_ (some 81) rfl rfl Tryd.func19 (by kernel_rfl) rfl #[.slice Ao51 t145.length co51, .string (⟨#[104, 111, 115, 116]⟩ : ByteArray)] rfl (by (try simp only [List.map_toArray, List.map_cons, List.map_nil]); first | done | rfl | (simp only [List.length_drop, List.length_take]; rfl)) ?_; (with_reducible refine (head_Get.calls kj8 _ _ t145 (⟨#[104, 111, 115, 116]⟩ : ByteArray) t175 _ ?side1 ?side2 A37.out).mono ?_); (case side1 => repeat (first | exact (Kd.R_reads' HO_1.out).2.2 | (with_reducible refine Kd.C_alloc ?_ _) | (with_reducible refine Kd.C_drewN ?_ _) | (with_reducible refine Kd.C_drew ?_))); (case side2 => exact (Kd.R_reads' HO_1.out).2.1); rintro e w52 ⟨v176, rfl, ho0, hb⟩; refine ⟨_, rfl, ?_⟩; have n0_ := Aside0.mk (Kd.R_below (by (with_reducible repeat (first | apply Kd.R_alloc | apply Kd.R_drewN | apply Kd.R_drew)); exact HO_1.out) hb); have n1_ := Aside0.mk (Kd.R_lower ho0 (below_size (by repeat (first | (with_reducible first | exact HB.out | apply below_alloc | apply pw_below_drewN | apply below_drew1) | exact HB.out)))); have n2_ := Aside0.mk (below_step (by repeat (first | (with_reducible first | exact HB.out | apply below_alloc | apply pw_below_drewN | apply below_drew1) | exact HB.out)) hb); clear HO_1; clear HB; have HO_1 := n0_; have HO177 := n1_; have HB := n2_; clear n0_ n1_ n2_; (try clear hb); (try clear hb2); (try clear hk); (try clear hi); (try clear ho0)) | ((with_reducible refine gate_dst (N := 83) rfl ?_); (try (refine gate_guard (by rfl) ?_; dsimp only)); refine Kd.R_lit Kd.string _ 9 ?hg (N := 83) ?hd (xs := ([(⟨#[72, 79, 83, 84]⟩ : ByteArray)] : List ByteArray)) (inner := [.string (⟨#[72, 79, 83, 84]⟩ : ByteArray)]) (ok := fun _ => True) (okp := fun _ => True) ?hr ?hp (fun _ hk => hk) trivial (Below.refl _ _) (Nat.le_refl _) (by simp) ?_; (case hd => rfl); (case hg => rfl); (case hr => first | (go_simp; done) | (go_simp; rfl)); (case hp => exact (Reps.one (show Kd.M Kd.string _ _ _ (⟨#[72, 79, 83, 84]⟩ : ByteArray) [.string (⟨#[72, 79, 83, 84]⟩ : ByteArray)] from rfl) (Reps.none _ _))); intro v179 w53 ho54 hb hg_ hnew_; clear hg_ hnew_; (first | rw [← Ny178.out] at ho54 | (simp only [Int.reduceToNat] at ho54; rw [← Ny178.out] at ho54)); have n0_ := Aside0.mk (Kd.R_below (by (with_reducible repeat (first | apply Kd.R_alloc | apply Kd.R_drewN | apply Kd.R_drew)); exact HO_1.out) hb); have n1_ := Aside0.mk (Kd.R_elder' (by (with_reducible repeat (first | apply Kd.R_alloc | apply Kd.R_drewN | apply Kd.R_drew)); exact HO177.out) (Kd.R_base ho54) hb); have n2_ := Aside0.mk (Kd.R_lower (Kd.R_new' ho54 (Kd.R_lt (by (with_reducible repeat (first | apply Kd.R_alloc | apply Kd.R_drewN | apply Kd.R_drew)); exact HO177.out))) (below_size (by repeat (first | (with_reducible first | exact HB.out | apply below_alloc | apply pw_below_drewN | apply below_drew1) | exact HB.out)))); have n3_ := Aside0.mk (below_step (by repeat (first | (with_reducible first | exact HB.out | apply below_alloc | apply pw_below_drewN | apply below_drew1) | exact HB.out)) hb); clear HO_1; clear HO177; clear HB; have HO_1 := n0_; have HO177 := n1_; have HO180 := n2_; have HB := n3_; clear n0_ n1_ n2_ n3_; clear hb ho54; obtain ⟨Ao55, co55, eo55⟩ := Kd.R_slice HO180.out; subst eo55) | ((with_reducible refine gate_callee (f := 21) rfl ?_); refine goesL_ (some 84) rfl rfl Tryd.func21 (by kernel_rfl) rfl #[.slice Ao51 t145.length co51, .slice Ao55 y178.length co55] rfl (by (try simp only [List.map_toArray, List.map_cons, List.map_nil]); first | done | rfl | (simp only [List.length_drop, List.length_take]; rfl)) ?_; (with_reducible refine (head_Drop.calls _ _ t145 _ _ y178 t181 _ ?side1 ?side2 ?side3 ?side4 A38.out).mono ?_); (case side1 => repeat (first | exact (Kd.R_reads' HO_1.out).2.2 | (with_reducible refine Kd.C_alloc ?_ _) | (with_reducible refine Kd.C_drewN ?_ _) | (with_reducible refine Kd.C_drew ?_))); (case side2 => exact (Kd.R_reads' HO_1.out).2.1); (case side3 => repeat (first | exact (Kd.R_reads' HO180.out).2.2 | (with_reducible refine Kd.C_alloc ?_ _) | (with_reducible refine Kd.C_drewN ?_ _) | (with_reducible refine Kd.C_drew ?_))); (case side4 => exact (Kd.R_reads' HO180.out).2.1); rintro e w56 ⟨v182, rfl, ho0, hb⟩; refine ⟨_, rfl, ?_⟩; have n0_ := Aside0.mk (Kd.R_elder' (by (with_reducible repeat (first | apply Kd.R_alloc | apply Kd.R_drewN | apply Kd.R_drew)); exact HO_1.out) (Kd.R_base ho0) hb); have n1_ := Aside0.mk (Kd.R_below (by (with_reducible repeat (first | apply Kd.R_alloc | apply Kd.R_drewN | apply Kd.R_drew)); exact HO177.out) hb); have n2_ := Aside0.mk (Kd.R_below (by (with_reducible repeat (first | apply Kd.R_alloc | apply Kd.R_drewN | apply Kd.R_drew)); exact HO180.out) hb); have n3_ := Aside0.mk (Kd.R_lower (Kd.R_new' ho0 (Kd.R_lt (by (with_reducible repeat (first | apply Kd.R_alloc | apply Kd.R_drewN | apply Kd.R_drew)); exact HO_1.out))) (below_size (by repeat (first | (with_reducible first | exact HB.out | apply below_alloc | apply pw_below_drewN | apply below_drew1) | exact HB.out)))); have n4_ := Aside0.mk (below_step (by repeat (first | (with_reducible first | exact HB.out | apply below_alloc | apply pw_below_drewN | apply below_drew1) | exact HB.out)) hb); clear HO_1; clear HO177; clear HO180; clear HB; have HO_1 := n0_; have HO177 := n1_; have HO180 := n2_; have HO183 := n3_; have HB := n4_; clear n0_ n1_ n2_ n3_ n4_; (try clear hb); (try clear hb2); (try clear hk); (try clear hi); (try clear ho0)) | ((with_reducible refine gate_callee (f := 22) rfl ?_); refine goesL_ (some 86) rfl rfl Tryd.func22 (by kernel_rfl) rfl #[.slice Ao51 t145.length co51, .string (⟨#[104, 111, 115, 116]⟩ : ByteArray), .string (⟨#[98]⟩ : ByteArray)] rfl (by (try simp only [List.map_toArray, List.map_cons, List.map_nil]); first | done | rfl | (simp only [List.length_drop, List.length_take]; rfl)) ?_; (with_reducible refine (head_With.calls _ _ t145 (⟨#[104, 111, 115, 116]⟩ : ByteArray) (⟨#[98]⟩ : ByteArray) t184 _ ?side1 ?side2 A39.out).mono ?_); (case side1 => repeat (first | exact (Kd.R_reads' HO_1.out).2.2 | (with_reducible refine Kd.C_alloc ?_ _) | (with_reducible refine Kd.C_drewN ?_ _) | (with_reducible refine Kd.C_drew ?_))); (case side2 => exact (Kd.R_reads' HO_1.out).2.1); rintro e w57 ⟨v185, rfl, ho0, hb⟩; refine ⟨_, rfl, ?_⟩; have n0_ := Aside0.mk (Kd.R_elder' (by (with_reducible repeat (first | apply Kd.R_alloc | apply Kd.R_drewN | apply Kd.R_drew)); exact HO_1.out) (Kd.R_base ho0) hb); have n1_ := Aside0.mk (Kd.R_below (by (with_reducible repeat (first | apply Kd.R_alloc | apply Kd.R_drewN | apply Kd.R_drew)); exact HO177.out) hb); have n2_ := Aside0.mk (Kd.R_below (by (with_reducible repeat (first | apply Kd.R_alloc | apply Kd.R_drewN | apply Kd.R_drew)); exact HO180.out) hb); have n3_ := Aside0.mk (Kd.R_elder' (by (with_reducible repeat (first | apply Kd.R_alloc | apply Kd.R_drewN | apply Kd.R_drew)); exact HO183.out) (Kd.R_base ho0) hb); have n4_ := Aside0.mk (Kd.R_lower (Kd.R_new' (Kd.R_new' ho0 (Kd.R_lt (by (with_reducible repeat (first | apply Kd.R_alloc | apply Kd.R_drewN | apply Kd.R_drew)); exact HO_1.out))) (Kd.R_lt (by (with_reducible repeat (first | apply Kd.R_alloc | apply Kd.R_drewN | apply Kd.R_drew)); exact HO183.out))) (below_size (by repeat (first | (with_reducible first | exact HB.out | apply below_alloc | apply pw_below_drewN | apply below_drew1) | exact HB.out)))); have n5_ := Aside0.mk (below_step (by repeat (first | (with_reducible first | exact HB.out | apply below_alloc | apply pw_below_drewN | apply below_drew1) | exact HB.out)) hb); clear HO_1; clear HO177; clear HO180; clear HO183; clear HB; have HO_1 := n0_; have HO177 := n1_; have HO180 := n2_; have HO183 := n3_; have HO186 := n4_; have HB := n5_; clear n0_ n1_ n2_ n3_ n4_ n5_; (try clear hb); (try clear hb2); (try clear hk); (try clear hi); (try clear ho0); obtain ⟨Ao58, co58, eo58⟩ := Kd.R_slice HO183.out; subst eo58) | ((with_reducible refine gate_callee (f := 14) rfl ?_); refine goesL_ (some 89) rfl rfl Tryd.func14 (by kernel_rfl) rfl #[.slice Ao58 t181.length co58] rfl (by (try simp only [List.map_toArray, List.map_cons, List.map_nil]); first | done | rfl | (simp only [List.length_drop, List.length_take]; rfl)) ?_; (with_reducible refine (head_Put.calls kj8 _ _ t181 t187 t188 _ ?side1 ?side2 A40.out).mono ?_); (case side1 => repeat (first | exact (Kd.R_reads' HO183.out).2.2 | (with_reducible refine Kd.C_alloc ?_ _) | (with_reducible refine Kd.C_drewN ?_ _) | (with_reducible refine Kd.C_drew ?_))); (case side2 => exact (Kd.R_reads' HO183.out).2.1); rintro e w59 ⟨v189, rfl, ho0, hb⟩; refine ⟨_, rfl, ?_⟩; have n0_ := Aside0.mk (Kd.R_below (by (with_reducible repeat (first | apply Kd.R_alloc | apply Kd.R_drewN | apply Kd.R_drew)); exact HO_1.out) hb); have n1_ := Aside0.mk (Kd.R_below (by (with_reducible repeat (first | apply Kd.R_alloc | apply Kd.R_drewN | apply Kd.R_drew)); exact HO177.out) hb); have n2_ := Aside0.mk (Kd.R_below (by (with_reducible repeat (first | apply Kd.R_alloc | apply Kd.R_drewN | apply Kd.R_drew)); exact HO180.out) hb); have n3_ := Aside0.mk (Kd.R_below (by (with_reducible repeat (first | apply Kd.R_alloc | apply Kd.R_drewN | apply Kd.R_drew)); exact HO183.out) hb); have n4_ := Aside0.mk (Kd.R_below (by (with_reducible repeat (first | apply Kd.R_alloc | apply Kd.R_drewN | apply Kd.R_drew)); exact HO186.out) hb); have n5_ := Aside0.mk (Kd.R_lower ho0 (below_size (by repeat (first | (with_reducible first | exact HB.out | apply below_alloc | apply pw_below_drewN | apply below_drew1) | exact HB.out)))); have n6_ := Aside0.mk (below_step (by repeat (first | (with_reducible first | exact HB.out | apply below_alloc | apply pw_below_drewN | apply below_drew1) | exact HB.out)) hb); clear HO_1; clear HO177; clear HO180; clear HO183; clear HO186; clear HB; have HO_1 := n0_; have HO177 := n1_; have HO180 := n2_; have HO183 := n3_; have HO186 := n4_; have HO190 := n5_; have HB := n6_; clear n0_ n1_ n2_ n3_ n4_ n5_ n6_; (try clear hb); (try clear hb2); (try clear hk); (try clear hi); (try clear ho0); obtain ⟨Ao60, co60, eo60⟩ := Kd.R_slice HO177.out; subst eo60; have p191 : 0 ≤ (0 : Int) := (by omega); have q191 : 0 < (t175.length : Int) := of_decide_eq_true (by first | (with_reducible assumption) | assumption); obtain ⟨ad191, e191, hx191_0⟩ := Kd.at_string (Kd.R_reads' HO177.out).2.2 0 p191 q191; cases e191; have qi191 : (0 < t175.length) = True := eq_true (by omega); (try rw [show ((0 : Int)).toNat = 0 from rfl] at hx191_0); (try rw [Addr.add_zero'] at hx191_0); replace p191 := eq_true p191; replace q191 := eq_true q191; obtain ⟨Ao61, co61, eo61⟩ := Kd.R_slice HO186.out; subst eo61; have p192 : 0 ≤ (1 : Int) := (by omega); have q192 : 1 < (t184.length : Int) := of_decide_eq_true (by first | (with_reducible assumption) | assumption); obtain ⟨ad192, e192, hx192_0, hx192_1⟩ := at_T45 (Kd.R_reads' HO186.out).2.2 1 p192 q192; cases e192; (try simp only [show (1 : Int).toNat = 1 from rfl, Nat.reduceMul, Nat.reduceEqDiff, Go.Addr.add, ↓reduceIte] at hx192_0); (try simp only [show (1 : Int).toNat = 1 from rfl, Nat.reduceMul, Nat.reduceEqDiff, Go.Addr.add, ↓reduceIte] at hx192_1); have qi192 : (1 < t184.length) = True := eq_true (by omega); (try rw [show ((1 : Int)).toNat = 1 from rfl] at hx192_0); (try rw [show 1 * 2 = 2 from rfl] at hx192_0); (try rw [show ((1 : Int)).toNat = 1 from rfl] at hx192_1); (try rw [show 1 * 2 = 2 from rfl] at hx192_1); replace p192 := eq_true p192; replace q192 := eq_true q192) | (go_at_call 16; (with_reducible refine (head_May.calls _ _ t145 true _ ?side1 ?side2 A48.out).mono ?_); (case side1 => repeat (first | exact (Kd.R_reads' HO_1.out).2.2 | (with_reducible refine Kd.C_alloc ?_ _) | (with_reducible refine Kd.C_drewN ?_ _) | (with_reducible refine Kd.C_drew ?_))); (case side2 => exact (Kd.R_reads' HO_1.out).2.1); rintro e w62 ⟨rfl, hb⟩; have n0_ := Aside0.mk (Kd.R_below (by (with_reducible repeat (first | apply Kd.R_alloc | apply Kd.R_drewN | apply Kd.R_drew)); exact HO_1.out) hb); have n1_ := Aside0.mk (Kd.R_below (by (with_reducible repeat (first | apply Kd.R_alloc | apply Kd.R_drewN | apply Kd.R_drew)); exact HO177.out) hb); have n2_ := Aside0.mk (Kd.R_below (by (with_reducible repeat (first | apply Kd.R_alloc | apply Kd.R_drewN | apply Kd.R_drew)); exact HO180.out) hb); have n3_ := Aside0.mk (Kd.R_below (by (with_reducible repeat (first | apply Kd.R_alloc | apply Kd.R_drewN | apply Kd.R_drew)); exact HO183.out) hb); have n4_ := Aside0.mk (Kd.R_below (by (with_reducible repeat (first | apply Kd.R_alloc | apply Kd.R_drewN | apply Kd.R_drew)); exact HO186.out) hb); have n5_ := Aside0.mk (Kd.R_below (by (with_reducible repeat (first | apply Kd.R_alloc | apply Kd.R_drewN | apply Kd.R_drew)); exact HO190.out) hb); have n6_ := Aside0.mk (below_step (by repeat (first | (with_reducible first | exact HB.out | apply below_alloc | apply pw_below_drewN | apply below_drew1) | exact HB.out)) hb); clear HO_1; clear HO177; clear HO180; clear HO183; clear HO186; clear HO190; clear HB; have HO_1 := n0_; have HO177 := n1_; have HO180 := n2_; have HO183 := n3_; have HO186 := n4_; have HO190 := n5_; have HB := n6_; clear n0_ n1_ n2_ n3_ n4_ n5_ n6_; (try clear hb); (try clear hb2); (try clear hk); (try clear hi); have hcv63 := (HO190.out).conv (P := Tryd.prog) Tryd.underlying22 Tryd.underlying5 Tryd.underlying9; have hcv63n := (HO190.out).convN (P := Tryd.prog) Tryd.underlying22 Tryd.underlying5 Tryd.underlying9))
                          go_ret
                          exact ⟨by first | rfl | (simp [errW_none, errW_some] <;> rfl) | (simp [*, errW_none, errW_some] <;> rfl), by repeat (first | (with_reducible first | exact HB.out | apply below_alloc | apply pw_below_drewN | apply below_drew1) | exact HB.out)⟩
                        · rw [if_neg c50] at H
                          have c50b0 : (t188 == 0) = false := beq_eq_false_iff_ne.mpr c50
                          have c50b1 : (t188 != 0) = true := bne_iff_ne.mpr c50
                          exact absurd ((Option.some.inj H).trans hr_) (by decide)
                      · replace c49 := Bool.eq_false_iff.mpr c49
                        subst c49
                        have H1 : (some false) = some r := by rw [if_neg (show ¬ (false = true) by decide)] at H; exact H
                        clear H
                        have H := H1
                        clear H1
                        exact absurd ((Option.some.inj H).trans hr_) (by decide)
                    · rw [if_neg c47] at H
                      have c47b0 : (((rd_T45 t184 1).f1).toList == ([98] : List UInt8)) = false := beq_eq_false_iff_ne.mpr c47
                      have c47b1 : (((rd_T45 t184 1).f1).toList != ([98] : List UInt8)) = true := bne_iff_ne.mpr c47
                      exact absurd ((Option.some.inj H).trans hr_) (by decide)
                  · rw [if_neg c46] at H
                    exact absurd H (by simp)
                · rw [if_neg c45] at H
                  have c45b0 : ((t184.length : Int) == 2) = false := beq_eq_false_iff_ne.mpr c45
                  have c45b1 : ((t184.length : Int) != 2) = true := bne_iff_ne.mpr c45
                  exact absurd ((Option.some.inj H).trans hr_) (by decide)
              · rw [if_neg c44] at H
                have c44b0 : ((t181.length : Int) == 1) = false := beq_eq_false_iff_ne.mpr c44
                have c44b1 : ((t181.length : Int) != 1) = true := bne_iff_ne.mpr c44
                exact absurd ((Option.some.inj H).trans hr_) (by decide)
            · rw [if_neg c43] at H
              have c43b0 : ((rdOf ByteArray.empty t175 0).toList == ([97] : List UInt8)) = false := beq_eq_false_iff_ne.mpr c43
              have c43b1 : ((rdOf ByteArray.empty t175 0).toList != ([97] : List UInt8)) = true := bne_iff_ne.mpr c43
              exact absurd ((Option.some.inj H).trans hr_) (by decide)
          · rw [if_neg c42] at H
            exact absurd H (by simp)
        · rw [if_neg c41] at H
          have c41b0 : ((t175.length : Int) == 1) = false := beq_eq_false_iff_ne.mpr c41
          have c41b1 : ((t175.length : Int) != 1) = true := bne_iff_ne.mpr c41
          exact absurd ((Option.some.inj H).trans hr_) (by decide)

end Go.Proofs.YtdofgilfmgdpkaaDoor.P
