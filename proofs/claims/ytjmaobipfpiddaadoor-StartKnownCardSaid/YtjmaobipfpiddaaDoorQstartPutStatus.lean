/- The walk of the Go function start PutStatus, and what it computes. By program. Conditions: none but those that each theorem names. -/
import Derived.Test.YtjmaobipfpiddaaDoorQ0
import Derived.Test.YtjmaobipfpiddaaDoorQstartput
import Derived.Test.YtjmaobipfpiddaaDoorFitoaS
import Derived.Test.YtjmaobipfpiddaaDoorFtextVisible
namespace Go.Proofs.YtjmaobipfpiddaaDoor.P
open Go.RowKit Go.Proofs.YtjmaobipfpiddaaDoorW.PrintWords Go.Proofs.YtjmaobipfpiddaaDoorW.PrintLast Go.Proofs.YtjmaobipfpiddaaDoorW.PrintMore
attribute [local go_sem] max2_int min2_int max_two min_two max_three min_three max_four min_four
set_option linter.unusedVariables false
set_option linter.unusedSimpArgs false

/-! ### start_PutStatus: function 14 -/
def start_PutStatus.f (a0 : Int) (a1 : Int) (a2 : ByteArray) : Option (ByteArray × Int) := (start_put.f a0).bind fun t138 => (if t138.size + 1 ≤ 9223372036854775807 then ((itoaS.f a1).bind fun t139 => (if (t138 ++ (⟨#[32]⟩ : ByteArray)).size + t139.size ≤ 9223372036854775807 then (if ((t138 ++ (⟨#[32]⟩ : ByteArray)) ++ t139).size + 1 ≤ 9223372036854775807 then (if (((t138 ++ (⟨#[32]⟩ : ByteArray)) ++ t139) ++ (⟨#[32]⟩ : ByteArray)).size + a2.size ≤ 9223372036854775807 then (if a0 < 0 then (some ((⟨#[]⟩ : ByteArray), 1)) else (if a0 > 1 then (some ((⟨#[]⟩ : ByteArray), 1)) else (if a1 < 100 then (some ((⟨#[]⟩ : ByteArray), 1)) else (if a1 > 599 then (some ((⟨#[]⟩ : ByteArray), 1)) else ((text_Visible.f a2).bind fun t140 => (if t140 = true then (if (((((t138 ++ (⟨#[32]⟩ : ByteArray)) ++ t139) ++ (⟨#[32]⟩ : ByteArray)) ++ a2).size : Int) > 512 then (some ((⟨#[]⟩ : ByteArray), 1)) else (some ((((t138 ++ (⟨#[32]⟩ : ByteArray)) ++ t139) ++ (⟨#[32]⟩ : ByteArray)) ++ a2, 0))) else (some ((⟨#[]⟩ : ByteArray), 1)))))))) else (none)) else (none)) else (none))) else (none))
set_option maxHeartbeats 8000000 in
set_option maxRecDepth 100000 in
theorem start_PutStatus.calls (a0 : Int) (a1 : Int) (a2 : ByteArray) (r1 : ByteArray) (r2 : Int) (w : World) (hT : Tab w) (h : start_PutStatus.f a0 a1 a2 = some (r1, r2)) :
    Calls Tryd.prog 14 #[.int .i64 a0, .int .i64 a1, .string a2] w fun e w' => e = .returned (.tuple #[.string r1, .int .i64 r2]) ∧ Below w.heap.size w w' := by
  have HT := Aside0.mk hT
  clear hT
  have HB := Aside0.mk (Below.refl w.heap.size w)
  have H : ((start_put.f a0).bind fun t138 => (if t138.size + 1 ≤ 9223372036854775807 then ((itoaS.f a1).bind fun t139 => (if (t138 ++ (⟨#[32]⟩ : ByteArray)).size + t139.size ≤ 9223372036854775807 then (if ((t138 ++ (⟨#[32]⟩ : ByteArray)) ++ t139).size + 1 ≤ 9223372036854775807 then (if (((t138 ++ (⟨#[32]⟩ : ByteArray)) ++ t139) ++ (⟨#[32]⟩ : ByteArray)).size + a2.size ≤ 9223372036854775807 then (if a0 < 0 then (some ((⟨#[]⟩ : ByteArray), 1)) else (if a0 > 1 then (some ((⟨#[]⟩ : ByteArray), 1)) else (if a1 < 100 then (some ((⟨#[]⟩ : ByteArray), 1)) else (if a1 > 599 then (some ((⟨#[]⟩ : ByteArray), 1)) else ((text_Visible.f a2).bind fun t140 => (if t140 = true then (if (((((t138 ++ (⟨#[32]⟩ : ByteArray)) ++ t139) ++ (⟨#[32]⟩ : ByteArray)) ++ a2).size : Int) > 512 then (some ((⟨#[]⟩ : ByteArray), 1)) else (some ((((t138 ++ (⟨#[32]⟩ : ByteArray)) ++ t139) ++ (⟨#[32]⟩ : ByteArray)) ++ a2, 0))) else (some ((⟨#[]⟩ : ByteArray), 1)))))))) else (none)) else (none)) else (none))) else (none))) = some (r1, r2) := h
  clear h
  replace H := Option.bind_eq_some_iff.mp H
  obtain ⟨t138, A40, H⟩ := H
  replace H : (if t138.size + 1 ≤ 9223372036854775807 then ((itoaS.f a1).bind fun t139 => (if (t138 ++ (⟨#[32]⟩ : ByteArray)).size + t139.size ≤ 9223372036854775807 then (if ((t138 ++ (⟨#[32]⟩ : ByteArray)) ++ t139).size + 1 ≤ 9223372036854775807 then (if (((t138 ++ (⟨#[32]⟩ : ByteArray)) ++ t139) ++ (⟨#[32]⟩ : ByteArray)).size + a2.size ≤ 9223372036854775807 then (if a0 < 0 then (some ((⟨#[]⟩ : ByteArray), 1)) else (if a0 > 1 then (some ((⟨#[]⟩ : ByteArray), 1)) else (if a1 < 100 then (some ((⟨#[]⟩ : ByteArray), 1)) else (if a1 > 599 then (some ((⟨#[]⟩ : ByteArray), 1)) else ((text_Visible.f a2).bind fun t140 => (if t140 = true then (if (((((t138 ++ (⟨#[32]⟩ : ByteArray)) ++ t139) ++ (⟨#[32]⟩ : ByteArray)) ++ a2).size : Int) > 512 then (some ((⟨#[]⟩ : ByteArray), 1)) else (some ((((t138 ++ (⟨#[32]⟩ : ByteArray)) ++ t139) ++ (⟨#[32]⟩ : ByteArray)) ++ a2, 0))) else (some ((⟨#[]⟩ : ByteArray), 1)))))))) else (none)) else (none)) else (none))) else (none)) = some (r1, r2) := H
  have A4 := Aside0.mk A40
  clear A40
  by_cases c5 : t138.size + 1 ≤ 9223372036854775807
  · rw [if_pos c5] at H
    have c5b0 := eq_true c5
    have c5b1 : decide (t138.size + 1 ≤ 9223372036854775807) = true := decide_eq_true c5
    try have c5b2 : (9223372036854775807 < t138.size + 1) = False := eq_false (Nat.not_lt.2 c5)
    replace H := Option.bind_eq_some_iff.mp H
    obtain ⟨t139, A60, H⟩ := H
    replace H : (if (t138 ++ (⟨#[32]⟩ : ByteArray)).size + t139.size ≤ 9223372036854775807 then (if ((t138 ++ (⟨#[32]⟩ : ByteArray)) ++ t139).size + 1 ≤ 9223372036854775807 then (if (((t138 ++ (⟨#[32]⟩ : ByteArray)) ++ t139) ++ (⟨#[32]⟩ : ByteArray)).size + a2.size ≤ 9223372036854775807 then (if a0 < 0 then (some ((⟨#[]⟩ : ByteArray), 1)) else (if a0 > 1 then (some ((⟨#[]⟩ : ByteArray), 1)) else (if a1 < 100 then (some ((⟨#[]⟩ : ByteArray), 1)) else (if a1 > 599 then (some ((⟨#[]⟩ : ByteArray), 1)) else ((text_Visible.f a2).bind fun t140 => (if t140 = true then (if (((((t138 ++ (⟨#[32]⟩ : ByteArray)) ++ t139) ++ (⟨#[32]⟩ : ByteArray)) ++ a2).size : Int) > 512 then (some ((⟨#[]⟩ : ByteArray), 1)) else (some ((((t138 ++ (⟨#[32]⟩ : ByteArray)) ++ t139) ++ (⟨#[32]⟩ : ByteArray)) ++ a2, 0))) else (some ((⟨#[]⟩ : ByteArray), 1)))))))) else (none)) else (none)) else (none)) = some (r1, r2) := H
    have A6 := Aside0.mk A60
    clear A60
    by_cases c7 : (t138 ++ (⟨#[32]⟩ : ByteArray)).size + t139.size ≤ 9223372036854775807
    · rw [if_pos c7] at H
      have c7b0 := eq_true c7
      have c7b1 : decide ((t138 ++ (⟨#[32]⟩ : ByteArray)).size + t139.size ≤ 9223372036854775807) = true := decide_eq_true c7
      try have c7b2 : (9223372036854775807 < (t138 ++ (⟨#[32]⟩ : ByteArray)).size + t139.size) = False := eq_false (Nat.not_lt.2 c7)
      (try (have c7b3 : (9223372036854775807 < t138.size + 1 + t139.size) = False := eq_false (by have h_ := c7; simp only [ByteArray.size_append] at h_; exact Nat.not_lt.2 h_)))
      (try (have c7b4 : (t138.size + 1 + t139.size ≤ 9223372036854775807) = True := eq_true (by have h_ := c7; simp only [ByteArray.size_append] at h_; exact h_)))
      by_cases c8 : ((t138 ++ (⟨#[32]⟩ : ByteArray)) ++ t139).size + 1 ≤ 9223372036854775807
      · rw [if_pos c8] at H
        have c8b0 := eq_true c8
        have c8b1 : decide (((t138 ++ (⟨#[32]⟩ : ByteArray)) ++ t139).size + 1 ≤ 9223372036854775807) = true := decide_eq_true c8
        try have c8b2 : (9223372036854775807 < ((t138 ++ (⟨#[32]⟩ : ByteArray)) ++ t139).size + 1) = False := eq_false (Nat.not_lt.2 c8)
        (try (have c8b3 : (9223372036854775807 < t138.size + 1 + t139.size + 1) = False := eq_false (by have h_ := c8; simp only [ByteArray.size_append] at h_; exact Nat.not_lt.2 h_)))
        (try (have c8b4 : (t138.size + 1 + t139.size + 1 ≤ 9223372036854775807) = True := eq_true (by have h_ := c8; simp only [ByteArray.size_append] at h_; exact h_)))
        by_cases c9 : (((t138 ++ (⟨#[32]⟩ : ByteArray)) ++ t139) ++ (⟨#[32]⟩ : ByteArray)).size + a2.size ≤ 9223372036854775807
        · rw [if_pos c9] at H
          have c9b0 := eq_true c9
          have c9b1 : decide ((((t138 ++ (⟨#[32]⟩ : ByteArray)) ++ t139) ++ (⟨#[32]⟩ : ByteArray)).size + a2.size ≤ 9223372036854775807) = true := decide_eq_true c9
          try have c9b2 : (9223372036854775807 < (((t138 ++ (⟨#[32]⟩ : ByteArray)) ++ t139) ++ (⟨#[32]⟩ : ByteArray)).size + a2.size) = False := eq_false (Nat.not_lt.2 c9)
          (try (have c9b3 : (9223372036854775807 < t138.size + 1 + t139.size + 1 + a2.size) = False := eq_false (by have h_ := c9; simp only [ByteArray.size_append] at h_; exact Nat.not_lt.2 h_)))
          (try (have c9b4 : (t138.size + 1 + t139.size + 1 + a2.size ≤ 9223372036854775807) = True := eq_true (by have h_ := c9; simp only [ByteArray.size_append] at h_; exact h_)))
          by_cases c10 : a0 < 0
          · rw [if_pos c10] at H
            have c10b0 : decide (a0 < 0) = true := decide_eq_true c10
            clear c10
            simp only [Option.some.injEq, Prod.mk.injEq] at H
            obtain ⟨rfl, rfl⟩ := H
            go_enter Tryd.func14, Tryd.ntmps14
            go_wp2_with (first | ((with_reducible refine gate_callee (f := 25) rfl ?_); refine goesL_ (some 10) rfl rfl Tryd.func25 (by kernel_rfl) rfl #[.int .i64 a0] rfl (by (try simp only [List.map_toArray, List.map_cons, List.map_nil]); first | done | rfl | (simp only [List.length_drop, List.length_take]; rfl)) ?_; (with_reducible refine (start_put.calls a0 t138 _ ?sideT A4.out).mono ?_); (case sideT => repeat (first | exact HT.out | exact (Tab.below HT.out HB.out) | (with_reducible first | refine Tab.alloc ?_ _ | refine Tab.drewN ?_ _ | refine Tab.drew ?_))); rintro e w11 ⟨rfl, hb⟩; refine ⟨_, rfl, ?_⟩; have n0_ := Aside0.mk (below_step (by repeat (first | (with_reducible first | exact HB.out | apply below_alloc | apply pw_below_drewN | apply below_drew1) | exact HB.out)) hb); clear HB; have HB := n0_; clear n0_; (try clear hb); (try clear hb2); (try clear hk); (try clear hi)) | ((with_reducible refine gate_callee (f := 30) rfl ?_); refine goesL_ (some 13) rfl rfl Tryd.func30 (by kernel_rfl) rfl #[.int .i64 a1] rfl (by (try simp only [List.map_toArray, List.map_cons, List.map_nil]); first | done | rfl | (simp only [List.length_drop, List.length_take]; rfl)) ?_; (with_reducible refine (itoaS.calls a1 t139 _ ?sideT A6.out).mono ?_); (case sideT => repeat (first | exact HT.out | exact (Tab.below HT.out HB.out) | (with_reducible first | refine Tab.alloc ?_ _ | refine Tab.drewN ?_ _ | refine Tab.drew ?_))); rintro e w12 ⟨rfl, hb⟩; refine ⟨_, rfl, ?_⟩; have n0_ := Aside0.mk (below_step (by repeat (first | (with_reducible first | exact HB.out | apply below_alloc | apply pw_below_drewN | apply below_drew1) | exact HB.out)) hb); clear HB; have HB := n0_; clear n0_; (try clear hb); (try clear hb2); (try clear hk); (try clear hi)))
            go_ret2
            exact ⟨by first | rfl | (simp [errW_none, errW_some] <;> rfl) | (simp [*, errW_none, errW_some] <;> rfl), by repeat (first | (with_reducible first | exact HB.out | apply below_alloc | apply pw_below_drewN | apply below_drew1) | exact HB.out)⟩
          · rw [if_neg c10] at H
            have c10b0 : decide (a0 < 0) = false := decide_eq_false c10
            clear c10
            by_cases c13 : a0 > 1
            · rw [if_pos c13] at H
              have c13b0 : decide (1 < a0) = true := decide_eq_true c13
              clear c13
              simp only [Option.some.injEq, Prod.mk.injEq] at H
              obtain ⟨rfl, rfl⟩ := H
              go_enter Tryd.func14, Tryd.ntmps14
              go_wp2_with (first | ((with_reducible refine gate_callee (f := 25) rfl ?_); refine goesL_ (some 10) rfl rfl Tryd.func25 (by kernel_rfl) rfl #[.int .i64 a0] rfl (by (try simp only [List.map_toArray, List.map_cons, List.map_nil]); first | done | rfl | (simp only [List.length_drop, List.length_take]; rfl)) ?_; (with_reducible refine (start_put.calls a0 t138 _ ?sideT A4.out).mono ?_); (case sideT => repeat (first | exact HT.out | exact (Tab.below HT.out HB.out) | (with_reducible first | refine Tab.alloc ?_ _ | refine Tab.drewN ?_ _ | refine Tab.drew ?_))); rintro e w14 ⟨rfl, hb⟩; refine ⟨_, rfl, ?_⟩; have n0_ := Aside0.mk (below_step (by repeat (first | (with_reducible first | exact HB.out | apply below_alloc | apply pw_below_drewN | apply below_drew1) | exact HB.out)) hb); clear HB; have HB := n0_; clear n0_; (try clear hb); (try clear hb2); (try clear hk); (try clear hi)) | ((with_reducible refine gate_callee (f := 30) rfl ?_); refine goesL_ (some 13) rfl rfl Tryd.func30 (by kernel_rfl) rfl #[.int .i64 a1] rfl (by (try simp only [List.map_toArray, List.map_cons, List.map_nil]); first | done | rfl | (simp only [List.length_drop, List.length_take]; rfl)) ?_; (with_reducible refine (itoaS.calls a1 t139 _ ?sideT A6.out).mono ?_); (case sideT => repeat (first | exact HT.out | exact (Tab.below HT.out HB.out) | (with_reducible first | refine Tab.alloc ?_ _ | refine Tab.drewN ?_ _ | refine Tab.drew ?_))); rintro e w15 ⟨rfl, hb⟩; refine ⟨_, rfl, ?_⟩; have n0_ := Aside0.mk (below_step (by repeat (first | (with_reducible first | exact HB.out | apply below_alloc | apply pw_below_drewN | apply below_drew1) | exact HB.out)) hb); clear HB; have HB := n0_; clear n0_; (try clear hb); (try clear hb2); (try clear hk); (try clear hi)))
              go_ret2
              exact ⟨by first | rfl | (simp [errW_none, errW_some] <;> rfl) | (simp [*, errW_none, errW_some] <;> rfl), by repeat (first | (with_reducible first | exact HB.out | apply below_alloc | apply pw_below_drewN | apply below_drew1) | exact HB.out)⟩
            · rw [if_neg c13] at H
              have c13b0 : decide (1 < a0) = false := decide_eq_false c13
              clear c13
              by_cases c16 : a1 < 100
              · rw [if_pos c16] at H
                have c16b0 : decide (a1 < 100) = true := decide_eq_true c16
                clear c16
                simp only [Option.some.injEq, Prod.mk.injEq] at H
                obtain ⟨rfl, rfl⟩ := H
                go_enter Tryd.func14, Tryd.ntmps14
                go_wp2_with (first | ((with_reducible refine gate_callee (f := 25) rfl ?_); refine goesL_ (some 10) rfl rfl Tryd.func25 (by kernel_rfl) rfl #[.int .i64 a0] rfl (by (try simp only [List.map_toArray, List.map_cons, List.map_nil]); first | done | rfl | (simp only [List.length_drop, List.length_take]; rfl)) ?_; (with_reducible refine (start_put.calls a0 t138 _ ?sideT A4.out).mono ?_); (case sideT => repeat (first | exact HT.out | exact (Tab.below HT.out HB.out) | (with_reducible first | refine Tab.alloc ?_ _ | refine Tab.drewN ?_ _ | refine Tab.drew ?_))); rintro e w17 ⟨rfl, hb⟩; refine ⟨_, rfl, ?_⟩; have n0_ := Aside0.mk (below_step (by repeat (first | (with_reducible first | exact HB.out | apply below_alloc | apply pw_below_drewN | apply below_drew1) | exact HB.out)) hb); clear HB; have HB := n0_; clear n0_; (try clear hb); (try clear hb2); (try clear hk); (try clear hi)) | ((with_reducible refine gate_callee (f := 30) rfl ?_); refine goesL_ (some 13) rfl rfl Tryd.func30 (by kernel_rfl) rfl #[.int .i64 a1] rfl (by (try simp only [List.map_toArray, List.map_cons, List.map_nil]); first | done | rfl | (simp only [List.length_drop, List.length_take]; rfl)) ?_; (with_reducible refine (itoaS.calls a1 t139 _ ?sideT A6.out).mono ?_); (case sideT => repeat (first | exact HT.out | exact (Tab.below HT.out HB.out) | (with_reducible first | refine Tab.alloc ?_ _ | refine Tab.drewN ?_ _ | refine Tab.drew ?_))); rintro e w18 ⟨rfl, hb⟩; refine ⟨_, rfl, ?_⟩; have n0_ := Aside0.mk (below_step (by repeat (first | (with_reducible first | exact HB.out | apply below_alloc | apply pw_below_drewN | apply below_drew1) | exact HB.out)) hb); clear HB; have HB := n0_; clear n0_; (try clear hb); (try clear hb2); (try clear hk); (try clear hi)))
                go_ret2
                exact ⟨by first | rfl | (simp [errW_none, errW_some] <;> rfl) | (simp [*, errW_none, errW_some] <;> rfl), by repeat (first | (with_reducible first | exact HB.out | apply below_alloc | apply pw_below_drewN | apply below_drew1) | exact HB.out)⟩
              · rw [if_neg c16] at H
                have c16b0 : decide (a1 < 100) = false := decide_eq_false c16
                clear c16
                by_cases c19 : a1 > 599
                · rw [if_pos c19] at H
                  have c19b0 : decide (599 < a1) = true := decide_eq_true c19
                  clear c19
                  simp only [Option.some.injEq, Prod.mk.injEq] at H
                  obtain ⟨rfl, rfl⟩ := H
                  go_enter Tryd.func14, Tryd.ntmps14
                  go_wp2_with (first | ((with_reducible refine gate_callee (f := 25) rfl ?_); refine goesL_ (some 10) rfl rfl Tryd.func25 (by kernel_rfl) rfl #[.int .i64 a0] rfl (by (try simp only [List.map_toArray, List.map_cons, List.map_nil]); first | done | rfl | (simp only [List.length_drop, List.length_take]; rfl)) ?_; (with_reducible refine (start_put.calls a0 t138 _ ?sideT A4.out).mono ?_); (case sideT => repeat (first | exact HT.out | exact (Tab.below HT.out HB.out) | (with_reducible first | refine Tab.alloc ?_ _ | refine Tab.drewN ?_ _ | refine Tab.drew ?_))); rintro e w20 ⟨rfl, hb⟩; refine ⟨_, rfl, ?_⟩; have n0_ := Aside0.mk (below_step (by repeat (first | (with_reducible first | exact HB.out | apply below_alloc | apply pw_below_drewN | apply below_drew1) | exact HB.out)) hb); clear HB; have HB := n0_; clear n0_; (try clear hb); (try clear hb2); (try clear hk); (try clear hi)) | ((with_reducible refine gate_callee (f := 30) rfl ?_); refine goesL_ (some 13) rfl rfl Tryd.func30 (by kernel_rfl) rfl #[.int .i64 a1] rfl (by (try simp only [List.map_toArray, List.map_cons, List.map_nil]); first | done | rfl | (simp only [List.length_drop, List.length_take]; rfl)) ?_; (with_reducible refine (itoaS.calls a1 t139 _ ?sideT A6.out).mono ?_); (case sideT => repeat (first | exact HT.out | exact (Tab.below HT.out HB.out) | (with_reducible first | refine Tab.alloc ?_ _ | refine Tab.drewN ?_ _ | refine Tab.drew ?_))); rintro e w21 ⟨rfl, hb⟩; refine ⟨_, rfl, ?_⟩; have n0_ := Aside0.mk (below_step (by repeat (first | (with_reducible first | exact HB.out | apply below_alloc | apply pw_below_drewN | apply below_drew1) | exact HB.out)) hb); clear HB; have HB := n0_; clear n0_; (try clear hb); (try clear hb2); (try clear hk); (try clear hi)))
                  go_ret2
                  exact ⟨by first | rfl | (simp [errW_none, errW_some] <;> rfl) | (simp [*, errW_none, errW_some] <;> rfl), by repeat (first | (with_reducible first | exact HB.out | apply below_alloc | apply pw_below_drewN | apply below_drew1) | exact HB.out)⟩
                · rw [if_neg c19] at H
                  have c19b0 : decide (599 < a1) = false := decide_eq_false c19
                  clear c19
                  replace H := Option.bind_eq_some_iff.mp H
                  obtain ⟨t140, A220, H⟩ := H
                  replace H : (if t140 = true then (if (((((t138 ++ (⟨#[32]⟩ : ByteArray)) ++ t139) ++ (⟨#[32]⟩ : ByteArray)) ++ a2).size : Int) > 512 then (some ((⟨#[]⟩ : ByteArray), 1)) else (some ((((t138 ++ (⟨#[32]⟩ : ByteArray)) ++ t139) ++ (⟨#[32]⟩ : ByteArray)) ++ a2, 0))) else (some ((⟨#[]⟩ : ByteArray), 1))) = some (r1, r2) := H
                  have A22 := Aside0.mk A220
                  clear A220
                  by_cases c23 : t140 = true
                  · subst c23
                    have H1 : (if (((((t138 ++ (⟨#[32]⟩ : ByteArray)) ++ t139) ++ (⟨#[32]⟩ : ByteArray)) ++ a2).size : Int) > 512 then (some ((⟨#[]⟩ : ByteArray), 1)) else (some ((((t138 ++ (⟨#[32]⟩ : ByteArray)) ++ t139) ++ (⟨#[32]⟩ : ByteArray)) ++ a2, 0))) = some (r1, r2) := by rw [if_pos rfl] at H; exact H
                    clear H
                    have H := H1
                    clear H1
                    by_cases c24 : (((((t138 ++ (⟨#[32]⟩ : ByteArray)) ++ t139) ++ (⟨#[32]⟩ : ByteArray)) ++ a2).size : Int) > 512
                    · rw [if_pos c24] at H
                      have c24b0 : decide (512 < (((((t138 ++ (⟨#[32]⟩ : ByteArray)) ++ t139) ++ (⟨#[32]⟩ : ByteArray)) ++ a2).size : Int)) = true := decide_eq_true c24
                      (try (have c24b5 : ((512 : Int) < (t138.size : Int) + 1 + (t139.size : Int) + 1 + (a2.size : Int)) = True := eq_true (by have g_ := c24; simp only [ByteArray.size_append] at g_; have h_ : ((512 : Int) < ((t138.size + 1 + t139.size + 1 + a2.size : Nat) : Int)) := g_; omega)))
                      (try (have c24b6 : ((t138.size : Int) + 1 + (t139.size : Int) + 1 + (a2.size : Int) ≤ (512 : Int)) = False := eq_false (by have g_ := c24; simp only [ByteArray.size_append] at g_; have h_ : ((512 : Int) < ((t138.size + 1 + t139.size + 1 + a2.size : Nat) : Int)) := g_; omega)))
                      have c24b1 : decide (512 < ((((t138 ++ (⟨#[32]⟩ : ByteArray)) ++ t139) ++ (⟨#[32]⟩ : ByteArray)) ++ a2).size) = true := decide_eq_true (by omega)
                      clear c24
                      simp only [Option.some.injEq, Prod.mk.injEq] at H
                      obtain ⟨rfl, rfl⟩ := H
                      go_enter Tryd.func14, Tryd.ntmps14
                      go_wp2_with (first | ((with_reducible refine gate_callee (f := 25) rfl ?_); refine goesL_ (some 10) rfl rfl Tryd.func25 (by kernel_rfl) rfl #[.int .i64 a0] rfl (by (try simp only [List.map_toArray, List.map_cons, List.map_nil]); first | done | rfl | (simp only [List.length_drop, List.length_take]; rfl)) ?_; (with_reducible refine (start_put.calls a0 t138 _ ?sideT A4.out).mono ?_); (case sideT => repeat (first | exact HT.out | exact (Tab.below HT.out HB.out) | (with_reducible first | refine Tab.alloc ?_ _ | refine Tab.drewN ?_ _ | refine Tab.drew ?_))); rintro e w25 ⟨rfl, hb⟩; refine ⟨_, rfl, ?_⟩; have n0_ := Aside0.mk (below_step (by repeat (first | (with_reducible first | exact HB.out | apply below_alloc | apply pw_below_drewN | apply below_drew1) | exact HB.out)) hb); clear HB; have HB := n0_; clear n0_; (try clear hb); (try clear hb2); (try clear hk); (try clear hi)) | ((with_reducible refine gate_callee (f := 30) rfl ?_); refine goesL_ (some 13) rfl rfl Tryd.func30 (by kernel_rfl) rfl #[.int .i64 a1] rfl (by (try simp only [List.map_toArray, List.map_cons, List.map_nil]); first | done | rfl | (simp only [List.length_drop, List.length_take]; rfl)) ?_; (with_reducible refine (itoaS.calls a1 t139 _ ?sideT A6.out).mono ?_); (case sideT => repeat (first | exact HT.out | exact (Tab.below HT.out HB.out) | (with_reducible first | refine Tab.alloc ?_ _ | refine Tab.drewN ?_ _ | refine Tab.drew ?_))); rintro e w26 ⟨rfl, hb⟩; refine ⟨_, rfl, ?_⟩; have n0_ := Aside0.mk (below_step (by repeat (first | (with_reducible first | exact HB.out | apply below_alloc | apply pw_below_drewN | apply below_drew1) | exact HB.out)) hb); clear HB; have HB := n0_; clear n0_; (try clear hb); (try clear hb2); (try clear hk); (try clear hi)) | (go_at_call 19; (with_reducible refine (text_Visible.calls a2 true _ A22.out).mono ?_); rintro e w27 ⟨rfl, hb⟩; have n0_ := Aside0.mk (below_step (by repeat (first | (with_reducible first | exact HB.out | apply below_alloc | apply pw_below_drewN | apply below_drew1) | exact HB.out)) hb); clear HB; have HB := n0_; clear n0_; (try clear hb); (try clear hb2); (try clear hk); (try clear hi)))
                      go_ret2
                      exact ⟨by first | rfl | (simp [errW_none, errW_some] <;> rfl) | (simp [*, errW_none, errW_some] <;> rfl), by repeat (first | (with_reducible first | exact HB.out | apply below_alloc | apply pw_below_drewN | apply below_drew1) | exact HB.out)⟩
                    · rw [if_neg c24] at H
                      have c24b0 : decide (512 < (((((t138 ++ (⟨#[32]⟩ : ByteArray)) ++ t139) ++ (⟨#[32]⟩ : ByteArray)) ++ a2).size : Int)) = false := decide_eq_false c24
                      (try (have c24b5 : ((512 : Int) < (t138.size : Int) + 1 + (t139.size : Int) + 1 + (a2.size : Int)) = False := eq_false (by have g_ := c24; simp only [ByteArray.size_append] at g_; have h_ : ¬ ((512 : Int) < ((t138.size + 1 + t139.size + 1 + a2.size : Nat) : Int)) := g_; omega)))
                      (try (have c24b6 : ((t138.size : Int) + 1 + (t139.size : Int) + 1 + (a2.size : Int) ≤ (512 : Int)) = True := eq_true (by have g_ := c24; simp only [ByteArray.size_append] at g_; have h_ : ¬ ((512 : Int) < ((t138.size + 1 + t139.size + 1 + a2.size : Nat) : Int)) := g_; omega)))
                      have c24b1 : decide (512 < ((((t138 ++ (⟨#[32]⟩ : ByteArray)) ++ t139) ++ (⟨#[32]⟩ : ByteArray)) ++ a2).size) = false := decide_eq_false (by omega)
                      clear c24
                      simp only [Option.some.injEq, Prod.mk.injEq] at H
                      obtain ⟨rfl, rfl⟩ := H
                      go_enter Tryd.func14, Tryd.ntmps14
                      go_wp2_with (first | ((with_reducible refine gate_callee (f := 25) rfl ?_); refine goesL_ (some 10) rfl rfl Tryd.func25 (by kernel_rfl) rfl #[.int .i64 a0] rfl (by (try simp only [List.map_toArray, List.map_cons, List.map_nil]); first | done | rfl | (simp only [List.length_drop, List.length_take]; rfl)) ?_; (with_reducible refine (start_put.calls a0 t138 _ ?sideT A4.out).mono ?_); (case sideT => repeat (first | exact HT.out | exact (Tab.below HT.out HB.out) | (with_reducible first | refine Tab.alloc ?_ _ | refine Tab.drewN ?_ _ | refine Tab.drew ?_))); rintro e w28 ⟨rfl, hb⟩; refine ⟨_, rfl, ?_⟩; have n0_ := Aside0.mk (below_step (by repeat (first | (with_reducible first | exact HB.out | apply below_alloc | apply pw_below_drewN | apply below_drew1) | exact HB.out)) hb); clear HB; have HB := n0_; clear n0_; (try clear hb); (try clear hb2); (try clear hk); (try clear hi)) | ((with_reducible refine gate_callee (f := 30) rfl ?_); refine goesL_ (some 13) rfl rfl Tryd.func30 (by kernel_rfl) rfl #[.int .i64 a1] rfl (by (try simp only [List.map_toArray, List.map_cons, List.map_nil]); first | done | rfl | (simp only [List.length_drop, List.length_take]; rfl)) ?_; (with_reducible refine (itoaS.calls a1 t139 _ ?sideT A6.out).mono ?_); (case sideT => repeat (first | exact HT.out | exact (Tab.below HT.out HB.out) | (with_reducible first | refine Tab.alloc ?_ _ | refine Tab.drewN ?_ _ | refine Tab.drew ?_))); rintro e w29 ⟨rfl, hb⟩; refine ⟨_, rfl, ?_⟩; have n0_ := Aside0.mk (below_step (by repeat (first | (with_reducible first | exact HB.out | apply below_alloc | apply pw_below_drewN | apply below_drew1) | exact HB.out)) hb); clear HB; have HB := n0_; clear n0_; (try clear hb); (try clear hb2); (try clear hk); (try clear hi)) | (go_at_call 19; (with_reducible refine (text_Visible.calls a2 true _ A22.out).mono ?_); rintro e w30 ⟨rfl, hb⟩; have n0_ := Aside0.mk (below_step (by repeat (first | (with_reducible first | exact HB.out | apply below_alloc | apply pw_below_drewN | apply below_drew1) | exact HB.out)) hb); clear HB; have HB := n0_; clear n0_; (try clear hb); (try clear hb2); (try clear hk); (try clear hi)))
                      go_ret2
                      exact ⟨by first | rfl | (simp [errW_none, errW_some] <;> rfl) | (simp [*, errW_none, errW_some] <;> rfl), by repeat (first | (with_reducible first | exact HB.out | apply below_alloc | apply pw_below_drewN | apply below_drew1) | exact HB.out)⟩
                  · replace c23 := Bool.eq_false_iff.mpr c23
                    subst c23
                    have H1 : (some ((⟨#[]⟩ : ByteArray), 1)) = some (r1, r2) := by rw [if_neg (show ¬ (false = true) by decide)] at H; exact H
                    clear H
                    have H := H1
                    clear H1
                    simp only [Option.some.injEq, Prod.mk.injEq] at H
                    obtain ⟨rfl, rfl⟩ := H
                    go_enter Tryd.func14, Tryd.ntmps14
                    go_wp2_with (first | ((with_reducible refine gate_callee (f := 25) rfl ?_); refine goesL_ (some 10) rfl rfl Tryd.func25 (by kernel_rfl) rfl #[.int .i64 a0] rfl (by (try simp only [List.map_toArray, List.map_cons, List.map_nil]); first | done | rfl | (simp only [List.length_drop, List.length_take]; rfl)) ?_; (with_reducible refine (start_put.calls a0 t138 _ ?sideT A4.out).mono ?_); (case sideT => repeat (first | exact HT.out | exact (Tab.below HT.out HB.out) | (with_reducible first | refine Tab.alloc ?_ _ | refine Tab.drewN ?_ _ | refine Tab.drew ?_))); rintro e w31 ⟨rfl, hb⟩; refine ⟨_, rfl, ?_⟩; have n0_ := Aside0.mk (below_step (by repeat (first | (with_reducible first | exact HB.out | apply below_alloc | apply pw_below_drewN | apply below_drew1) | exact HB.out)) hb); clear HB; have HB := n0_; clear n0_; (try clear hb); (try clear hb2); (try clear hk); (try clear hi)) | ((with_reducible refine gate_callee (f := 30) rfl ?_); refine goesL_ (some 13) rfl rfl Tryd.func30 (by kernel_rfl) rfl #[.int .i64 a1] rfl (by (try simp only [List.map_toArray, List.map_cons, List.map_nil]); first | done | rfl | (simp only [List.length_drop, List.length_take]; rfl)) ?_; (with_reducible refine (itoaS.calls a1 t139 _ ?sideT A6.out).mono ?_); (case sideT => repeat (first | exact HT.out | exact (Tab.below HT.out HB.out) | (with_reducible first | refine Tab.alloc ?_ _ | refine Tab.drewN ?_ _ | refine Tab.drew ?_))); rintro e w32 ⟨rfl, hb⟩; refine ⟨_, rfl, ?_⟩; have n0_ := Aside0.mk (below_step (by repeat (first | (with_reducible first | exact HB.out | apply below_alloc | apply pw_below_drewN | apply below_drew1) | exact HB.out)) hb); clear HB; have HB := n0_; clear n0_; (try clear hb); (try clear hb2); (try clear hk); (try clear hi)) | (go_at_call 19; (with_reducible refine (text_Visible.calls a2 false _ A22.out).mono ?_); rintro e w33 ⟨rfl, hb⟩; have n0_ := Aside0.mk (below_step (by repeat (first | (with_reducible first | exact HB.out | apply below_alloc | apply pw_below_drewN | apply below_drew1) | exact HB.out)) hb); clear HB; have HB := n0_; clear n0_; (try clear hb); (try clear hb2); (try clear hk); (try clear hi)))
                    go_ret2
                    exact ⟨by first | rfl | (simp [errW_none, errW_some] <;> rfl) | (simp [*, errW_none, errW_some] <;> rfl), by repeat (first | (with_reducible first | exact HB.out | apply below_alloc | apply pw_below_drewN | apply below_drew1) | exact HB.out)⟩
        · rw [if_neg c9] at H
          exact absurd H (by simp)
      · rw [if_neg c8] at H
        exact absurd H (by simp)
    · rw [if_neg c7] at H
      exact absurd H (by simp)
  · rw [if_neg c5] at H
    exact absurd H (by simp)

end Go.Proofs.YtjmaobipfpiddaaDoor.P
