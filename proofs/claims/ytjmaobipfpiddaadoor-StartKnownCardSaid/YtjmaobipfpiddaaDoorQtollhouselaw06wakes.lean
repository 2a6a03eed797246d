/- The walk of the Go function tollhouselaw06 wakes, and what it computes. By program. Conditions: none but those that each theorem names. -/
import Derived.Test.YtjmaobipfpiddaaDoorQ0
import Derived.Test.YtjmaobipfpiddaaDoorQstartRequest
import Derived.Test.YtjmaobipfpiddaaDoorQstartPutStatus
import Derived.Test.YtjmaobipfpiddaaDoorFstartStatus
import Derived.Test.YtjmaobipfpiddaaDoorFstartReason
namespace Go.Proofs.YtjmaobipfpiddaaDoor.P
open Go.RowKit Go.Proofs.YtjmaobipfpiddaaDoorW.PrintWords Go.Proofs.YtjmaobipfpiddaaDoorW.PrintLast Go.Proofs.YtjmaobipfpiddaaDoorW.PrintMore
attribute [local go_sem] max2_int min2_int max_two min_two max_three min_three max_four min_four
set_option linter.unusedVariables false
set_option linter.unusedSimpArgs false

/-! ### tollhouselaw06_wakes: function 11 -/
def tollhouselaw06_wakes.f (k : Nat)  : Option (Bool) := (start_Request.f k (⟨#[71, 69, 84, 32, 104, 116, 116, 112, 58, 47, 47, 97, 47, 32, 72, 84, 84, 80, 47, 49, 46, 49]⟩ : ByteArray)).bind fun bt171 => ((start_Request.f k (⟨#[71, 69, 84, 32, 32, 47, 32, 72, 84, 84, 80, 47, 49, 46, 49]⟩ : ByteArray)).bind fun bt175 => ((start_Status.f (⟨#[72, 84, 84, 80, 47, 49, 46, 48, 32, 50, 48, 48, 32, 79, 75]⟩ : ByteArray)).bind fun bt179 => ((start_Status.f (⟨#[72, 84, 84, 80, 47, 49, 46, 49, 32, 50, 48, 52]⟩ : ByteArray)).bind fun bt183 => ((start_PutStatus.f 1 99 (⟨#[]⟩ : ByteArray)).bind fun bt187 => (if bt171.1.toList = ([71, 69, 84] : List UInt8) then (if bt171.2.1.toList = ([104, 116, 116, 112, 58, 47, 47, 97, 47] : List UInt8) then (if bt171.2.2.1 = 1 then (if bt171.2.2.2 = 0 then (if bt175.2.2.2 = 5 then (if bt179.1 = 0 then (if bt179.2.1 = 200 then (if bt179.2.2.1.toList = ([79, 75] : List UInt8) then (if bt179.2.2.2 = 0 then (if bt183.2.2.2 = 5 then (if bt187.2 = 1 then ((start_Reason.f 502).bind fun t189 => (some (t189.toList == ([66, 97, 100, 32, 71, 97, 116, 101, 119, 97, 121] : List UInt8)))) else (some false)) else (some false)) else (some false)) else (some false)) else (some false)) else (some false)) else (some false)) else (some false)) else (some false)) else (some false)) else (some false))))))
theorem tollhouselaw06_wakes.mono : ∀ k, LeO (tollhouselaw06_wakes.f k ) (tollhouselaw06_wakes.f (k + 1) ) := by
  intro  k
  unfold tollhouselaw06_wakes.f
  repeat' first
      | (with_reducible exact start_Request.mono _ _)
      | (with_reducible exact LeO.refl _)
      | (with_reducible exact LeO.none _)
      | (with_reducible refine LeO.ite ?_ ?_)
      | (with_reducible refine LeO.bind ?_ (fun _ => ?_))
      | exact start_Request.mono _ _
      | exact LeO.none _
      | refine LeO.ite ?_ ?_
      | refine LeO.bind ?_ (fun _ => ?_)
set_option maxRecDepth 100000 in
theorem tollhouselaw06_wakes.told : tollhouselaw06_wakes.f 60 = some true := by decide +kernel
theorem tollhouselaw06_wakes.only (k : Nat) (r : Bool) (h : tollhouselaw06_wakes.f k = some r) : r = true := by
  have up : ∀ (d i : Nat) (x : Bool), tollhouselaw06_wakes.f i = some x → tollhouselaw06_wakes.f (i + d) = some x := fun d => by
    induction d with
    | zero => exact fun i x hx => hx
    | succ d ih => exact fun i x hx => tollhouselaw06_wakes.mono _ x (ih i x hx)
  have h1 := up 60 k r h
  have h2 := up k 60 true tollhouselaw06_wakes.told
  rw [Nat.add_comm 60 k, h1] at h2
  exact Option.some.inj h2
set_option maxHeartbeats 8000000 in
set_option maxRecDepth 100000 in
theorem tollhouselaw06_wakes.calls (k : Nat)  (r : Bool) (w : World) (hT : Tab w) (h : tollhouselaw06_wakes.f k  = some r) :
    Calls Tryd.prog 11 #[] w fun e w' => e = .returned (.bool r) ∧ Below w.heap.size w w' := by
  have HT := Aside0.mk hT
  clear hT
  have hr_ : r = true := tollhouselaw06_wakes.only k r h
  have HB := Aside0.mk (Below.refl w.heap.size w)
  have H : ((start_Request.f k (⟨#[71, 69, 84, 32, 104, 116, 116, 112, 58, 47, 47, 97, 47, 32, 72, 84, 84, 80, 47, 49, 46, 49]⟩ : ByteArray)).bind fun bt171 => ((start_Request.f k (⟨#[71, 69, 84, 32, 32, 47, 32, 72, 84, 84, 80, 47, 49, 46, 49]⟩ : ByteArray)).bind fun bt175 => ((start_Status.f (⟨#[72, 84, 84, 80, 47, 49, 46, 48, 32, 50, 48, 48, 32, 79, 75]⟩ : ByteArray)).bind fun bt179 => ((start_Status.f (⟨#[72, 84, 84, 80, 47, 49, 46, 49, 32, 50, 48, 52]⟩ : ByteArray)).bind fun bt183 => ((start_PutStatus.f 1 99 (⟨#[]⟩ : ByteArray)).bind fun bt187 => (if bt171.1.toList = ([71, 69, 84] : List UInt8) then (if bt171.2.1.toList = ([104, 116, 116, 112, 58, 47, 47, 97, 47] : List UInt8) then (if bt171.2.2.1 = 1 then (if bt171.2.2.2 = 0 then (if bt175.2.2.2 = 5 then (if bt179.1 = 0 then (if bt179.2.1 = 200 then (if bt179.2.2.1.toList = ([79, 75] : List UInt8) then (if bt179.2.2.2 = 0 then (if bt183.2.2.2 = 5 then (if bt187.2 = 1 then ((start_Reason.f 502).bind fun t189 => (some (t189.toList == ([66, 97, 100, 32, 71, 97, 116, 101, 119, 97, 121] : List UInt8)))) else (some false)) else (some false)) else (some false)) else (some false)) else (some false)) else (some false)) else (some false)) else (some false)) else (some false)) else (some false)) else (some false))))))) = some r := h
  clear h
  replace H := Option.bind_eq_some_iff.mp H
  obtain ⟨⟨t171, t172, t173, t174⟩, A10, H⟩ := H
  replace H : ((start_Request.f k (⟨#[71, 69, 84, 32, 32, 47, 32, 72, 84, 84, 80, 47, 49, 46, 49]⟩ : ByteArray)).bind fun bt175 => ((start_Status.f (⟨#[72, 84, 84, 80, 47, 49, 46, 48, 32, 50, 48, 48, 32, 79, 75]⟩ : ByteArray)).bind fun bt179 => ((start_Status.f (⟨#[72, 84, 84, 80, 47, 49, 46, 49, 32, 50, 48, 52]⟩ : ByteArray)).bind fun bt183 => ((start_PutStatus.f 1 99 (⟨#[]⟩ : ByteArray)).bind fun bt187 => (if t171.toList = ([71, 69, 84] : List UInt8) then (if t172.toList = ([104, 116, 116, 112, 58, 47, 47, 97, 47] : List UInt8) then (if t173 = 1 then (if t174 = 0 then (if bt175.2.2.2 = 5 then (if bt179.1 = 0 then (if bt179.2.1 = 200 then (if bt179.2.2.1.toList = ([79, 75] : List UInt8) then (if bt179.2.2.2 = 0 then (if bt183.2.2.2 = 5 then (if bt187.2 = 1 then ((start_Reason.f 502).bind fun t189 => (some (t189.toList == ([66, 97, 100, 32, 71, 97, 116, 101, 119, 97, 121] : List UInt8)))) else (some false)) else (some false)) else (some false)) else (some false)) else (some false)) else (some false)) else (some false)) else (some false)) else (some false)) else (some false)) else (some false)))))) = some r := H
  have A1 := Aside0.mk A10
  clear A10
  replace H := Option.bind_eq_some_iff.mp H
  obtain ⟨⟨t175, t176, t177, t178⟩, A20, H⟩ := H
  replace H : ((start_Status.f (⟨#[72, 84, 84, 80, 47, 49, 46, 48, 32, 50, 48, 48, 32, 79, 75]⟩ : ByteArray)).bind fun bt179 => ((start_Status.f (⟨#[72, 84, 84, 80, 47, 49, 46, 49, 32, 50, 48, 52]⟩ : ByteArray)).bind fun bt183 => ((start_PutStatus.f 1 99 (⟨#[]⟩ : ByteArray)).bind fun bt187 => (if t171.toList = ([71, 69, 84] : List UInt8) then (if t172.toList = ([104, 116, 116, 112, 58, 47, 47, 97, 47] : List UInt8) then (if t173 = 1 then (if t174 = 0 then (if t178 = 5 then (if bt179.1 = 0 then (if bt179.2.1 = 200 then (if bt179.2.2.1.toList = ([79, 75] : List UInt8) then (if bt179.2.2.2 = 0 then (if bt183.2.2.2 = 5 then (if bt187.2 = 1 then ((start_Reason.f 502).bind fun t189 => (some (t189.toList == ([66, 97, 100, 32, 71, 97, 116, 101, 119, 97, 121] : List UInt8)))) else (some false)) else (some false)) else (some false)) else (some false)) else (some false)) else (some false)) else (some false)) else (some false)) else (some false)) else (some false)) else (some false))))) = some r := H
  have A2 := Aside0.mk A20
  clear A20
  replace H := Option.bind_eq_some_iff.mp H
  obtain ⟨⟨t179, t180, t181, t182⟩, A30, H⟩ := H
  replace H : ((start_Status.f (⟨#[72, 84, 84, 80, 47, 49, 46, 49, 32, 50, 48, 52]⟩ : ByteArray)).bind fun bt183 => ((start_PutStatus.f 1 99 (⟨#[]⟩ : ByteArray)).bind fun bt187 => (if t171.toList = ([71, 69, 84] : List UInt8) then (if t172.toList = ([104, 116, 116, 112, 58, 47, 47, 97, 47] : List UInt8) then (if t173 = 1 then (if t174 = 0 then (if t178 = 5 then (if t179 = 0 then (if t180 = 200 then (if t181.toList = ([79, 75] : List UInt8) then (if t182 = 0 then (if bt183.2.2.2 = 5 then (if bt187.2 = 1 then ((start_Reason.f 502).bind fun t189 => (some (t189.toList == ([66, 97, 100, 32, 71, 97, 116, 101, 119, 97, 121] : List UInt8)))) else (some false)) else (some false)) else (some false)) else (some false)) else (some false)) else (some false)) else (some false)) else (some false)) else (some false)) else (some false)) else (some false)))) = some r := H
  have A3 := Aside0.mk A30
  clear A30
  replace H := Option.bind_eq_some_iff.mp H
  obtain ⟨⟨t183, t184, t185, t186⟩, A40, H⟩ := H
  replace H : ((start_PutStatus.f 1 99 (⟨#[]⟩ : ByteArray)).bind fun bt187 => (if t171.toList = ([71, 69, 84] : List UInt8) then (if t172.toList = ([104, 116, 116, 112, 58, 47, 47, 97, 47] : List UInt8) then (if t173 = 1 then (if t174 = 0 then (if t178 = 5 then (if t179 = 0 then (if t180 = 200 then (if t181.toList = ([79, 75] : List UInt8) then (if t182 = 0 then (if t186 = 5 then (if bt187.2 = 1 then ((start_Reason.f 502).bind fun t189 => (some (t189.toList == ([66, 97, 100, 32, 71, 97, 116, 101, 119, 97, 121] : List UInt8)))) else (some false)) else (some false)) else (some false)) else (some false)) else (some false)) else (some false)) else (some false)) else (some false)) else (some false)) else (some false)) else (some false))) = some r := H
  have A4 := Aside0.mk A40
  clear A40
  replace H := Option.bind_eq_some_iff.mp H
  obtain ⟨⟨t187, t188⟩, A50, H⟩ := H
  replace H : (if t171.toList = ([71, 69, 84] : List UInt8) then (if t172.toList = ([104, 116, 116, 112, 58, 47, 47, 97, 47] : List UInt8) then (if t173 = 1 then (if t174 = 0 then (if t178 = 5 then (if t179 = 0 then (if t180 = 200 then (if t181.toList = ([79, 75] : List UInt8) then (if t182 = 0 then (if t186 = 5 then (if t188 = 1 then ((start_Reason.f 502).bind fun t189 => (some (t189.toList == ([66, 97, 100, 32, 71, 97, 116, 101, 119, 97, 121] : List UInt8)))) else (some false)) else (some false)) else (some false)) else (some false)) else (some false)) else (some false)) else (some false)) else (some false)) else (some false)) else (some false)) else (some false)) = some r := H
  have A5 := Aside0.mk A50
  clear A50
  by_cases c6 : t171.toList = ([71, 69, 84] : List UInt8)
  · rw [if_pos c6] at H
    have c6b0 : (t171.toList == ([71, 69, 84] : List UInt8)) = true := beq_iff_eq.mpr c6
    have c6b1 : (t171.toList != ([71, 69, 84] : List UInt8)) = false := bne_eq_false_iff_eq.mpr c6
    clear c6
    by_cases c7 : t172.toList = ([104, 116, 116, 112, 58, 47, 47, 97, 47] : List UInt8)
    · rw [if_pos c7] at H
      have c7b0 : (t172.toList == ([104, 116, 116, 112, 58, 47, 47, 97, 47] : List UInt8)) = true := beq_iff_eq.mpr c7
      have c7b1 : (t172.toList != ([104, 116, 116, 112, 58, 47, 47, 97, 47] : List UInt8)) = false := bne_eq_false_iff_eq.mpr c7
      clear c7
      by_cases c8 : t173 = 1
      · rw [if_pos c8] at H
        have c8b0 : (t173 == 1) = true := beq_iff_eq.mpr c8
        have c8b1 : (t173 != 1) = false := bne_eq_false_iff_eq.mpr c8
        clear c8
        by_cases c9 : t174 = 0
        · rw [if_pos c9] at H
          have c9b0 : (t174 == 0) = true := beq_iff_eq.mpr c9
          have c9b1 : (t174 != 0) = false := bne_eq_false_iff_eq.mpr c9
          clear c9
          by_cases c10 : t178 = 5
          · rw [if_pos c10] at H
            have c10b0 : (t178 == 5) = true := beq_iff_eq.mpr c10
            have c10b1 : (t178 != 5) = false := bne_eq_false_iff_eq.mpr c10
            clear c10
            by_cases c11 : t179 = 0
            · rw [if_pos c11] at H
              have c11b0 : (t179 == 0) = true := beq_iff_eq.mpr c11
              have c11b1 : (t179 != 0) = false := bne_eq_false_iff_eq.mpr c11
              clear c11
              by_cases c12 : t180 = 200
              · rw [if_pos c12] at H
                have c12b0 : (t180 == 200) = true := beq_iff_eq.mpr c12
                have c12b1 : (t180 != 200) = false := bne_eq_false_iff_eq.mpr c12
                clear c12
                by_cases c13 : t181.toList = ([79, 75] : List UInt8)
                · rw [if_pos c13] at H
                  have c13b0 : (t181.toList == ([79, 75] : List UInt8)) = true := beq_iff_eq.mpr c13
                  have c13b1 : (t181.toList != ([79, 75] : List UInt8)) = false := bne_eq_false_iff_eq.mpr c13
                  clear c13
                  by_cases c14 : t182 = 0
                  · rw [if_pos c14] at H
                    have c14b0 : (t182 == 0) = true := beq_iff_eq.mpr c14
                    have c14b1 : (t182 != 0) = false := bne_eq_false_iff_eq.mpr c14
                    clear c14
                    by_cases c15 : t186 = 5
                    · rw [if_pos c15] at H
                      have c15b0 : (t186 == 5) = true := beq_iff_eq.mpr c15
                      have c15b1 : (t186 != 5) = false := bne_eq_false_iff_eq.mpr c15
                      clear c15
                      by_cases c16 : t188 = 1
                      · rw [if_pos c16] at H
                        have c16b0 : (t188 == 1) = true := beq_iff_eq.mpr c16
                        have c16b1 : (t188 != 1) = false := bne_eq_false_iff_eq.mpr c16
                        clear c16
                        replace H := Option.bind_eq_some_iff.mp H
                        obtain ⟨t189, A170, H⟩ := H
                        replace H : (some (t189.toList == ([66, 97, 100, 32, 71, 97, 116, 101, 119, 97, 121] : List UInt8))) = some r := H
                        have A17 := Aside0.mk A170
                        clear A170
                        obtain rfl := Option.some.inj H
                        go_enter Tryd.func11, Tryd.ntmps11
                        go_wp2_with (first | ((with_reducible refine gate_callee (f := 7) rfl ?_); refine goesL_ (some 20) rfl rfl Tryd.func7 (by kernel_rfl) rfl #[.string (⟨#[71, 69, 84, 32, 104, 116, 116, 112, 58, 47, 47, 97, 47, 32, 72, 84, 84, 80, 47, 49, 46, 49]⟩ : ByteArray)] rfl (by (try simp only [List.map_toArray, List.map_cons, List.map_nil]); first | done | rfl | (simp only [List.length_drop, List.length_take]; rfl)) ?_; (with_reducible refine (start_Request.calls k (⟨#[71, 69, 84, 32, 104, 116, 116, 112, 58, 47, 47, 97, 47, 32, 72, 84, 84, 80, 47, 49, 46, 49]⟩ : ByteArray) t171 t172 t173 t174 _ ?sideT A1.out).mono ?_); (case sideT => repeat (first | exact HT.out | exact (Tab.below HT.out HB.out) | (with_reducible first | refine Tab.alloc ?_ _ | refine Tab.drewN ?_ _ | refine Tab.drew ?_))); rintro e w18 ⟨rfl, hb⟩; refine ⟨_, rfl, ?_⟩; have n0_ := Aside0.mk (below_step (by repeat (first | (with_reducible first | exact HB.out | apply below_alloc | apply pw_below_drewN | apply below_drew1) | exact HB.out)) hb); clear HB; have HB := n0_; clear n0_; (try clear hb); (try clear hb2); (try clear hk); (try clear hi)) | ((with_reducible refine gate_callee (f := 7) rfl ?_); refine goesL_ (some 26) rfl rfl Tryd.func7 (by kernel_rfl) rfl #[.string (⟨#[71, 69, 84, 32, 32, 47, 32, 72, 84, 84, 80, 47, 49, 46, 49]⟩ : ByteArray)] rfl (by (try simp only [List.map_toArray, List.map_cons, List.map_nil]); first | done | rfl | (simp only [List.length_drop, List.length_take]; rfl)) ?_; (with_reducible refine (start_Request.calls k (⟨#[71, 69, 84, 32, 32, 47, 32, 72, 84, 84, 80, 47, 49, 46, 49]⟩ : ByteArray) t175 t176 t177 t178 _ ?sideT A2.out).mono ?_); (case sideT => repeat (first | exact HT.out | exact (Tab.below HT.out HB.out) | (with_reducible first | refine Tab.alloc ?_ _ | refine Tab.drewN ?_ _ | refine Tab.drew ?_))); rintro e w19 ⟨rfl, hb⟩; refine ⟨_, rfl, ?_⟩; have n0_ := Aside0.mk (below_step (by repeat (first | (with_reducible first | exact HB.out | apply below_alloc | apply pw_below_drewN | apply below_drew1) | exact HB.out)) hb); clear HB; have HB := n0_; clear n0_; (try clear hb); (try clear hb2); (try clear hk); (try clear hi)) | ((with_reducible refine gate_callee (f := 12) rfl ?_); refine goesL_ (some 32) rfl rfl Tryd.func12 (by kernel_rfl) rfl #[.string (⟨#[72, 84, 84, 80, 47, 49, 46, 48, 32, 50, 48, 48, 32, 79, 75]⟩ : ByteArray)] rfl (by (try simp only [List.map_toArray, List.map_cons, List.map_nil]); first | done | rfl | (simp only [List.length_drop, List.length_take]; rfl)) ?_; (with_reducible refine (start_Status.calls (⟨#[72, 84, 84, 80, 47, 49, 46, 48, 32, 50, 48, 48, 32, 79, 75]⟩ : ByteArray) t179 t180 t181 t182 _ ?sideT A3.out).mono ?_); (case sideT => repeat (first | exact HT.out | exact (Tab.below HT.out HB.out) | (with_reducible first | refine Tab.alloc ?_ _ | refine Tab.drewN ?_ _ | refine Tab.drew ?_))); rintro e w20 ⟨rfl, hb⟩; refine ⟨_, rfl, ?_⟩; have n0_ := Aside0.mk (below_step (by repeat (first | (with_reducible first | exact HB.out | apply below_alloc | apply pw_below_drewN | apply below_drew1) | exact HB.out)) hb); clear HB; have HB := n0_; clear n0_; (try clear hb); (try clear hb2); (try clear hk); (try clear hi)) | ((with_reducible refine gate_callee (f := 12) rfl ?_); refine goesL_ (some 38) rfl rfl Tryd.func12 (by kernel_rfl) rfl #[.string (⟨#[72, 84, 84, 80, 47, 49, 46, 49, 32, 50, 48, 52]⟩ : ByteArray)] rfl (by (try simp only [List.map_toArray, List.map_cons, List.map_nil]); first | done | rfl | (simp only [List.length_drop, List.length_take]; rfl)) ?_; (with_reducible refine (start_Status.calls (⟨#[72, 84, 84, 80, 47, 49, 46, 49, 32, 50, 48, 52]⟩ : ByteArray) t183 t184 t185 t186 _ ?sideT A4.out).mono ?_); (case sideT => repeat (first | exact HT.out | exact (Tab.below HT.out HB.out) | (with_reducible first | refine Tab.alloc ?_ _ | refine Tab.drewN ?_ _ | refine Tab.drew ?_))); rintro e w21 ⟨rfl, hb⟩; refine ⟨_, rfl, ?_⟩; have n0_ := Aside0.mk (below_step (by repeat (first | (with_reducible first | exact HB.out | apply below_alloc | apply pw_below_drewN | apply below_drew1) | exact HB.out)) hb); clear HB; have HB := n0_; clear n0_; (try clear hb); (try clear hb2); (try clear hk); (try clear hi)) | ((with_reducible refine gate_callee (f := 14) rfl ?_); refine goesL_ (some 44) rfl rfl Tryd.func14 (by kernel_rfl) rfl #[.int .i64 1, .int .i64 99, .string (⟨#[]⟩ : ByteArray)] rfl (by (try simp only [List.map_toArray, List.map_cons, List.map_nil]); first | done | rfl | (simp only [List.length_drop, List.length_take]; rfl)) ?_; (with_reducible refine (start_PutStatus.calls 1 99 (⟨#[]⟩ : ByteArray) t187 t188 _ ?sideT A5.out).mono ?_); (case sideT => repeat (first | exact HT.out | exact (Tab.below HT.out HB.out) | (with_reducible first | refine Tab.alloc ?_ _ | refine Tab.drewN ?_ _ | refine Tab.drew ?_))); rintro e w22 ⟨rfl, hb⟩; refine ⟨_, rfl, ?_⟩; have n0_ := Aside0.mk (below_step (by repeat (first | (with_reducible first | exact HB.out | apply below_alloc | apply pw_below_drewN | apply below_drew1) | exact HB.out)) hb); clear HB; have HB := n0_; clear n0_; (try clear hb); (try clear hb2); (try clear hk); (try clear hi)) | (go_at_call 16; (with_reducible refine (start_Reason.calls 502 t189 _ A17.out).mono ?_); rintro e w23 ⟨rfl, hb⟩; have n0_ := Aside0.mk (below_step (by repeat (first | (with_reducible first | exact HB.out | apply below_alloc | apply pw_below_drewN | apply below_drew1) | exact HB.out)) hb); clear HB; have HB := n0_; clear n0_; (try clear hb); (try clear hb2); (try clear hk); (try clear hi)))
                        go_ret
                        exact ⟨by first | rfl | (simp [errW_none, errW_some] <;> rfl) | (simp [*, errW_none, errW_some] <;> rfl), by repeat (first | (with_reducible first | exact HB.out | apply below_alloc | apply pw_below_drewN | apply below_drew1) | exact HB.out)⟩
                      · rw [if_neg c16] at H
                        have c16b0 : (t188 == 1) = false := beq_eq_false_iff_ne.mpr c16
                        have c16b1 : (t188 != 1) = true := bne_iff_ne.mpr c16
                        exact absurd ((Option.some.inj H).trans hr_) (by decide)
                    · rw [if_neg c15] at H
                      have c15b0 : (t186 == 5) = false := beq_eq_false_iff_ne.mpr c15
                      have c15b1 : (t186 != 5) = true := bne_iff_ne.mpr c15
                      exact absurd ((Option.some.inj H).trans hr_) (by decide)
                  · rw [if_neg c14] at H
                    have c14b0 : (t182 == 0) = false := beq_eq_false_iff_ne.mpr c14
                    have c14b1 : (t182 != 0) = true := bne_iff_ne.mpr c14
                    exact absurd ((Option.some.inj H).trans hr_) (by decide)
                · rw [if_neg c13] at H
                  have c13b0 : (t181.toList == ([79, 75] : List UInt8)) = false := beq_eq_false_iff_ne.mpr c13
                  have c13b1 : (t181.toList != ([79, 75] : List UInt8)) = true := bne_iff_ne.mpr c13
                  exact absurd ((Option.some.inj H).trans hr_) (by decide)
              · rw [if_neg c12] at H
                have c12b0 : (t180 == 200) = false := beq_eq_false_iff_ne.mpr c12
                have c12b1 : (t180 != 200) = true := bne_iff_ne.mpr c12
                exact absurd ((Option.some.inj H).trans hr_) (by decide)
            · rw [if_neg c11] at H
              have c11b0 : (t179 == 0) = false := beq_eq_false_iff_ne.mpr c11
              have c11b1 : (t179 != 0) = true := bne_iff_ne.mpr c11
              exact absurd ((Option.some.inj H).trans hr_) (by decide)
          · rw [if_neg c10] at H
            have c10b0 : (t178 == 5) = false := beq_eq_false_iff_ne.mpr c10
            have c10b1 : (t178 != 5) = true := bne_iff_ne.mpr c10
            exact absurd ((Option.some.inj H).trans hr_) (by decide)
        · rw [if_neg c9] at H
          have c9b0 : (t174 == 0) = false := beq_eq_false_iff_ne.mpr c9
          have c9b1 : (t174 != 0) = true := bne_iff_ne.mpr c9
          exact absurd ((Option.some.inj H).trans hr_) (by decide)
      · rw [if_neg c8] at H
        have c8b0 : (t173 == 1) = false := beq_eq_false_iff_ne.mpr c8
        have c8b1 : (t173 != 1) = true := bne_iff_ne.mpr c8
        exact absurd ((Option.some.inj H).trans hr_) (by decide)
    · rw [if_neg c7] at H
      have c7b0 : (t172.toList == ([104, 116, 116, 112, 58, 47, 47, 97, 47] : List UInt8)) = false := beq_eq_false_iff_ne.mpr c7
      have c7b1 : (t172.toList != ([104, 116, 116, 112, 58, 47, 47, 97, 47] : List UInt8)) = true := bne_iff_ne.mpr c7
      exact absurd ((Option.some.inj H).trans hr_) (by decide)
  · rw [if_neg c6] at H
    have c6b0 : (t171.toList == ([71, 69, 84] : List UInt8)) = false := beq_eq_false_iff_ne.mpr c6
    have c6b1 : (t171.toList != ([71, 69, 84] : List UInt8)) = true := bne_iff_ne.mpr c6
    exact absurd ((Option.some.inj H).trans hr_) (by decide)

end Go.Proofs.YtjmaobipfpiddaaDoor.P
