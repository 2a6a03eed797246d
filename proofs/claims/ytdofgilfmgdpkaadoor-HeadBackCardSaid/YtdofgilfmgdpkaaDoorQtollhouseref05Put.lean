/- The document's answer: a list of fields as bytes (its walk; the loop as the print lays it, turned at the end: bytes of a text). -/
import Derived.Test.YtdofgilfmgdpkaaDoorQ0
import Derived.Test.YtdofgilfmgdpkaaDoorQtollhouseref05May
import Derived.Test.YtdofgilfmgdpkaaDoorFconv
namespace Go.Proofs.YtdofgilfmgdpkaaDoor.P
open Go.RowKit Go.Proofs.YtdofgilfmgdpkaaDoorW.PrintWords Go.Proofs.YtdofgilfmgdpkaaDoorW.PrintLast Go.Proofs.YtdofgilfmgdpkaaDoorW.PrintMore
attribute [local go_sem] max2_int min2_int max_two min_two max_three min_three max_four min_four   -- for this text's walks alone
set_option linter.unusedVariables false
set_option linter.unusedSimpArgs false

/-! ### tollhouseref05_Put: function 15 -/
def tollhouseref05_Put.l0 : Nat → List (S45) → ByteArray → Int → Option (List Int × Int)
  | 0, _, _, _ => none
  | k + 1, x0, x4, x5 => if x5 < (x0.length : Int) then (if 0 ≤ x5 then (if x4.size + ((rd_T45 x0 x5).f0).size ≤ 9223372036854775807 then (if (x4 ++ ((rd_T45 x0 x5).f0)).size + 2 ≤ 9223372036854775807 then (if ((x4 ++ ((rd_T45 x0 x5).f0)) ++ (⟨#[58, 32]⟩ : ByteArray)).size + ((rd_T45 x0 x5).f1).size ≤ 9223372036854775807 then (if (((x4 ++ ((rd_T45 x0 x5).f0)) ++ (⟨#[58, 32]⟩ : ByteArray)) ++ ((rd_T45 x0 x5).f1)).size + 2 ≤ 9223372036854775807 then (tollhouseref05_Put.l0 k x0 ((((x4 ++ ((rd_T45 x0 x5).f0)) ++ (⟨#[58, 32]⟩ : ByteArray)) ++ ((rd_T45 x0 x5).f1)) ++ (⟨#[13, 10]⟩ : ByteArray)) (wrap64 (x5 + 1))) else (none)) else (none)) else (none)) else (none)) else (none)) else (if x4.size + 2 ≤ 9223372036854775807 then ((conv.f (x4 ++ (⟨#[13, 10]⟩ : ByteArray))).bind fun t248 => (some (t248, 0))) else (none))
def tollhouseref05_Put.f (k : Nat) (l0 : List (S45)) : Option (List Int × Int) := (tollhouseref05_May.f k l0).bind fun t245 => (if t245 = true then (tollhouseref05_Put.l0 k l0 (⟨#[]⟩ : ByteArray) 0) else (some (([] : List Int), 1)))
theorem tollhouseref05_Put.mono_l : ∀ k, (∀ y0 y1 y2, LeO (tollhouseref05_Put.l0 k y0 y1 y2) (tollhouseref05_Put.l0 (k + 1) y0 y1 y2))
  | 0 => fun _ _ _ r h => by simp [tollhouseref05_Put.l0] at h
  | k + 1 => by
    have ih0 := tollhouseref05_Put.mono_l k
    · intro y0 y1 y2
      unfold tollhouseref05_Put.l0
      repeat' first
      | (with_reducible exact ih0 _ _ _)
      | (with_reducible exact tollhouseref05_May.mono _ _)
      | (with_reducible exact LeO.refl _)
      | (with_reducible exact LeO.none _)
      | (with_reducible refine LeO.ite ?_ ?_)
      | (with_reducible refine LeO.bind ?_ (fun _ => ?_))
      | exact ih0 _ _ _
      | exact tollhouseref05_May.mono _ _
      | exact LeO.none _
      | refine LeO.ite ?_ ?_
      | refine LeO.bind ?_ (fun _ => ?_)
theorem tollhouseref05_Put.mono : ∀ a0 k, LeO (tollhouseref05_Put.f k a0) (tollhouseref05_Put.f (k + 1) a0) := by
  intro a0 k
  have ih0 := tollhouseref05_Put.mono_l k
  unfold tollhouseref05_Put.f
  repeat' first
      | (with_reducible exact ih0 _ _ _)
      | (with_reducible exact tollhouseref05_May.mono _ _)
      | (with_reducible exact LeO.refl _)
      | (with_reducible exact LeO.none _)
      | (with_reducible refine LeO.ite ?_ ?_)
      | (with_reducible refine LeO.bind ?_ (fun _ => ?_))
      | exact ih0 _ _ _
      | exact tollhouseref05_May.mono _ _
      | exact LeO.none _
      | refine LeO.ite ?_ ?_
      | refine LeO.bind ?_ (fun _ => ?_)
set_option maxHeartbeats 8000000 in
set_option maxRecDepth 100000 in
theorem tollhouseref05_Put.calls (k : Nat) (A0 : Option Addr) (c0 : Nat) (l0 : List (S45)) (r1 : List Int) (r2 : Int) (w : World) (hr0 : Kd.C k45 w A0 l0.length l0) (hc0 : l0.length ≤ c0) (h : tollhouseref05_Put.f k l0 = some (r1, r2)) :
    Calls Tryd.prog 15 #[.slice A0 l0.length c0] w fun e w' => ∃ v0_ : Value, e = .returned (.tuple #[v0_, .int .i64 r2]) ∧ Kd.V (Kd.int .u8) 5 w' w.heap.size (fun k_ => (w.heap.size ≤ k_)) v0_ r1 ∧ Below w.heap.size w w' := by
  have HR0 := Aside0.mk hr0
  have HC0 := Aside0.mk hc0
  clear hr0 hc0
  have HB := Aside0.mk (Below.refl w.heap.size w)
  have H : ((tollhouseref05_May.f k l0).bind fun t245 => (if t245 = true then (tollhouseref05_Put.l0 k l0 (⟨#[]⟩ : ByteArray) 0) else (some (([] : List Int), 1)))) = some (r1, r2) := h
  clear h
  replace H := Option.bind_eq_some_iff.mp H
  obtain ⟨t245, A20, H⟩ := H
  replace H : (if t245 = true then (tollhouseref05_Put.l0 k l0 (⟨#[]⟩ : ByteArray) 0) else (some (([] : List Int), 1))) = some (r1, r2) := H
  have A2 := Aside0.mk A20
  clear A20
  by_cases c3 : t245 = true
  · subst c3
    have H1 : (tollhouseref05_Put.l0 k l0 (⟨#[]⟩ : ByteArray) 0) = some (r1, r2) := by rw [if_pos rfl] at H; exact H
    clear H
    have H := H1
    clear H1
    have H' := Aside0.mk H
    clear H
    go_enter Tryd.func15, Tryd.ntmps15
    go_wp2_with (first | (go_at_call 17; (with_reducible refine (tollhouseref05_May.calls k _ _ l0 true _ ?side1 ?side2 A2.out).mono ?_); (case side1 => repeat (first | exact HR0.out | (with_reducible refine Kd.C_alloc ?_ _) | (with_reducible refine Kd.C_drewN ?_ _) | (with_reducible refine Kd.C_drew ?_))); (case side2 => exact HC0.out); rintro e w4 ⟨rfl, hb⟩; have n0_ := Aside0.mk (below_step (by repeat (first | (with_reducible first | exact HB.out | apply below_alloc | apply pw_below_drewN | apply below_drew1) | exact HB.out)) hb); clear HB; have HB := n0_; clear n0_; (try clear hb); (try clear hb2); (try clear hk); (try clear hi)))
    repeat (go_quiet (first | (go_at_call 17; (with_reducible refine (tollhouseref05_May.calls k _ _ l0 true _ ?side1 ?side2 A2.out).mono ?_); (case side1 => repeat (first | exact HR0.out | (with_reducible refine Kd.C_alloc ?_ _) | (with_reducible refine Kd.C_drewN ?_ _) | (with_reducible refine Kd.C_drew ?_))); (case side2 => exact HC0.out); rintro e w4 ⟨rfl, hb⟩; have n0_ := Aside0.mk (below_step (by repeat (first | (with_reducible first | exact HB.out | apply below_alloc | apply pw_below_drewN | apply below_drew1) | exact HB.out)) hb); clear HB; have HB := n0_; clear n0_; (try clear hb); (try clear hb2); (try clear hk); (try clear hi))); try go_wp2_with (first | (go_at_call 17; (with_reducible refine (tollhouseref05_May.calls k _ _ l0 true _ ?side1 ?side2 A2.out).mono ?_); (case side1 => repeat (first | exact HR0.out | (with_reducible refine Kd.C_alloc ?_ _) | (with_reducible refine Kd.C_drewN ?_ _) | (with_reducible refine Kd.C_drew ?_))); (case side2 => exact HC0.out); rintro e w4 ⟨rfl, hb⟩; have n0_ := Aside0.mk (below_step (by repeat (first | (with_reducible first | exact HB.out | apply below_alloc | apply pw_below_drewN | apply below_drew1) | exact HB.out)) hb); clear HB; have HB := n0_; clear n0_; (try clear hb); (try clear hb2); (try clear hk); (try clear hi))))
    go_loopg [4, 5] k (fun kq v4 v5 w' => ∃ (x4_1 : ByteArray) (x5_1 : Int), v4 = .string x4_1 ∧ v5 = .int .i64 x5_1 ∧ Aside0 (tollhouseref05_Put.l0 kq l0 x4_1 x5_1 = some (r1, r2)) ∧ Aside0 (kq ≤ k) ∧ Aside0 (Below w.heap.size w w'))
    case atStart => exact ⟨((⟨#[]⟩ : ByteArray)), (0), (by first | rfl | (simp; done) | (simp [*]; done)), (by first | rfl | (simp; done) | (simp [*]; done)), H', ⟨Nat.le_refl _⟩, ⟨by repeat (first | (with_reducible first | exact HB.out | apply below_alloc | apply pw_below_drewN | apply below_drew1) | exact HB.out)⟩⟩
    case round =>
      clear H'
      try clear c1
      try clear p2
      try clear c3
      obtain ⟨x4_1, x5_1, rfl, rfl, HA, HK1, HB⟩ := hrel
      cases gk with
      | zero => exact absurd HA.out (by simp [tollhouseref05_Put.l0])
      | succ k1 =>
        have H := HA.out
        clear HA
        simp only [tollhouseref05_Put.l0] at H
        by_cases c5 : x5_1 < (l0.length : Int)
        · rw [if_pos c5] at H
          have c5b0 : decide (x5_1 < (l0.length : Int)) = true := decide_eq_true c5
          clear c5
          by_cases c6 : 0 ≤ x5_1
          · rw [if_pos c6] at H
            have c6b0 : decide (0 ≤ x5_1) = true := decide_eq_true c6
            clear c6
            by_cases c7 : x4_1.size + ((rd_T45 l0 x5_1).f0).size ≤ 9223372036854775807
            · rw [if_pos c7] at H
              have c7b0 := eq_true c7
              have c7b1 : decide (x4_1.size + ((rd_T45 l0 x5_1).f0).size ≤ 9223372036854775807) = true := decide_eq_true c7
              try have c7b2 : (9223372036854775807 < x4_1.size + ((rd_T45 l0 x5_1).f0).size) = False := eq_false (Nat.not_lt.2 c7)
              by_cases c8 : (x4_1 ++ ((rd_T45 l0 x5_1).f0)).size + 2 ≤ 9223372036854775807
              · rw [if_pos c8] at H
                have c8b0 := eq_true c8
                have c8b1 : decide ((x4_1 ++ ((rd_T45 l0 x5_1).f0)).size + 2 ≤ 9223372036854775807) = true := decide_eq_true c8
                try have c8b2 : (9223372036854775807 < (x4_1 ++ ((rd_T45 l0 x5_1).f0)).size + 2) = False := eq_false (Nat.not_lt.2 c8)
                (try (have c8b3 : (9223372036854775807 < x4_1.size + ((rd_T45 l0 x5_1).f0).size + 2) = False := eq_false (by have h_ := c8; simp only [ByteArray.size_append] at h_; exact Nat.not_lt.2 h_)))
                (try (have c8b4 : (x4_1.size + ((rd_T45 l0 x5_1).f0).size + 2 ≤ 9223372036854775807) = True := eq_true (by have h_ := c8; simp only [ByteArray.size_append] at h_; exact h_)))
                by_cases c9 : ((x4_1 ++ ((rd_T45 l0 x5_1).f0)) ++ (⟨#[58, 32]⟩ : ByteArray)).size + ((rd_T45 l0 x5_1).f1).size ≤ 9223372036854775807
                · rw [if_pos c9] at H
                  have c9b0 := eq_true c9
                  have c9b1 : decide (((x4_1 ++ ((rd_T45 l0 x5_1).f0)) ++ (⟨#[58, 32]⟩ : ByteArray)).size + ((rd_T45 l0 x5_1).f1).size ≤ 9223372036854775807) = true := decide_eq_true c9
                  try have c9b2 : (9223372036854775807 < ((x4_1 ++ ((rd_T45 l0 x5_1).f0)) ++ (⟨#[58, 32]⟩ : ByteArray)).size + ((rd_T45 l0 x5_1).f1).size) = False := eq_false (Nat.not_lt.2 c9)
                  (try (have c9b3 : (9223372036854775807 < x4_1.size + ((rd_T45 l0 x5_1).f0).size + 2 + ((rd_T45 l0 x5_1).f1).size) = False := eq_false (by have h_ := c9; simp only [ByteArray.size_append] at h_; exact Nat.not_lt.2 h_)))
                  (try (have c9b4 : (x4_1.size + ((rd_T45 l0 x5_1).f0).size + 2 + ((rd_T45 l0 x5_1).f1).size ≤ 9223372036854775807) = True := eq_true (by have h_ := c9; simp only [ByteArray.size_append] at h_; exact h_)))
                  by_cases c10 : (((x4_1 ++ ((rd_T45 l0 x5_1).f0)) ++ (⟨#[58, 32]⟩ : ByteArray)) ++ ((rd_T45 l0 x5_1).f1)).size + 2 ≤ 9223372036854775807
                  · rw [if_pos c10] at H
                    have c10b0 := eq_true c10
                    have c10b1 : decide ((((x4_1 ++ ((rd_T45 l0 x5_1).f0)) ++ (⟨#[58, 32]⟩ : ByteArray)) ++ ((rd_T45 l0 x5_1).f1)).size + 2 ≤ 9223372036854775807) = true := decide_eq_true c10
                    try have c10b2 : (9223372036854775807 < (((x4_1 ++ ((rd_T45 l0 x5_1).f0)) ++ (⟨#[58, 32]⟩ : ByteArray)) ++ ((rd_T45 l0 x5_1).f1)).size + 2) = False := eq_false (Nat.not_lt.2 c10)
                    (try (have c10b3 : (9223372036854775807 < x4_1.size + ((rd_T45 l0 x5_1).f0).size + 2 + ((rd_T45 l0 x5_1).f1).size + 2) = False := eq_false (by have h_ := c10; simp only [ByteArray.size_append] at h_; exact Nat.not_lt.2 h_)))
                    (try (have c10b4 : (x4_1.size + ((rd_T45 l0 x5_1).f0).size + 2 + ((rd_T45 l0 x5_1).f1).size + 2 ≤ 9223372036854775807) = True := eq_true (by have h_ := c10; simp only [ByteArray.size_append] at h_; exact h_)))
                    have H' := Aside0.mk H
                    clear H
                    have p246 : 0 ≤ (x5_1 : Int) := of_decide_eq_true (by first | (with_reducible assumption) | assumption)
                    have q246 : x5_1 < (l0.length : Int) := of_decide_eq_true (by first | (with_reducible assumption) | assumption)
                    obtain ⟨ad246, e246, hx246_0, hx246_1⟩ := at_T45 HR0.out x5_1 p246 q246
                    cases e246
                    replace hx246_0 := (HB.out.cell (World.block_lt_of_cell? w _ hx246_0)).trans hx246_0
                    replace hx246_1 := (HB.out.cell (World.block_lt_of_cell? w _ hx246_1)).trans hx246_1
                    replace p246 := eq_true p246
                    replace q246 := eq_true q246
                    have p247 : 0 ≤ (x5_1 : Int) := of_decide_eq_true (by first | (with_reducible assumption) | assumption)
                    have q247 : x5_1 < (l0.length : Int) := of_decide_eq_true (by first | (with_reducible assumption) | assumption)
                    obtain ⟨ad247, e247, hx247_0, hx247_1⟩ := at_T45 HR0.out x5_1 p247 q247
                    obtain rfl : ad246 = ad247 := (by injection e247)
                    replace hx247_0 := (HB.out.cell (World.block_lt_of_cell? w _ hx247_0)).trans hx247_0
                    replace hx247_1 := (HB.out.cell (World.block_lt_of_cell? w _ hx247_1)).trans hx247_1
                    replace p247 := eq_true p247
                    replace q247 := eq_true q247
                    go_wp2
                    repeat (go_quiet (fail); try go_wp2)
                    go_roundg k1
                    case measure => have := HK1.out; omega
                    case rel => exact ⟨((((x4_1 ++ ((rd_T45 l0 x5_1).f0)) ++ (⟨#[58, 32]⟩ : ByteArray)) ++ ((rd_T45 l0 x5_1).f1)) ++ (⟨#[13, 10]⟩ : ByteArray)), (wrap64 (x5_1 + 1)), (by first | rfl | (simp; done) | (simp [*]; done)), (by first | rfl | (simp; done) | (simp [*]; done)), H', ⟨by have := HK1.out; omega⟩, ⟨by repeat (first | (with_reducible first | exact HB.out | apply below_alloc | apply pw_below_drewN | apply below_drew1) | exact HB.out)⟩⟩
                  · rw [if_neg c10] at H
                    exact absurd H (by simp)
                · rw [if_neg c9] at H
                  exact absurd H (by simp)
              · rw [if_neg c8] at H
                exact absurd H (by simp)
            · rw [if_neg c7] at H
              exact absurd H (by simp)
          · rw [if_neg c6] at H
            exact absurd H (by simp)
        · rw [if_neg c5] at H
          have c5b0 : decide (x5_1 < (l0.length : Int)) = false := decide_eq_false c5
          clear c5
          by_cases c11 : x4_1.size + 2 ≤ 9223372036854775807
          · rw [if_pos c11] at H
            have c11b0 := eq_true c11
            have c11b1 : decide (x4_1.size + 2 ≤ 9223372036854775807) = true := decide_eq_true c11
            try have c11b2 : (9223372036854775807 < x4_1.size + 2) = False := eq_false (Nat.not_lt.2 c11)
            replace H := Option.bind_eq_some_iff.mp H
            obtain ⟨t248, A120, H⟩ := H
            replace H : (some (t248, 0)) = some (r1, r2) := H
            have A12 := Aside0.mk A120
            clear A120
            simp only [Option.some.injEq, Prod.mk.injEq] at H
            obtain ⟨rfl, rfl⟩ := H
            have kcv := fun W => Lib.run_convert_string_bytes (P := Tryd.prog) W 9 22 5 (x4_1 ++ (⟨#[13, 10]⟩ : ByteArray)) Tryd.underlying9 Tryd.underlying22 Tryd.underlying5
            go_wp2
            go_ret2
            have hcv := A12.out
            unfold conv.f at hcv
            have hsz : (x4_1 ++ (⟨#[13, 10]⟩ : ByteArray)).size = x4_1.size + 2 := by rw [ByteArray.size_append]; rfl
            rw [hsz, if_pos c11] at hcv
            obtain rfl := Option.some.inj hcv
            have hV := conv_V wr (x4_1 ++ (⟨#[13, 10]⟩ : ByteArray)) (by rw [hsz]; exact c11)
            rw [hsz] at hV
            exact ⟨_, rfl, Kd.V_lower (Kd.V_mono (ok' := fun k_ => w.heap.size ≤ k_) hV (fun k_ hk_ => Nat.le_trans HB.out.size hk_)) HB.out.size, HB.out.trans ((bytes_below (Below.refl _ wr) (Nat.le_refl _) 5 (x4_1 ++ (⟨#[13, 10]⟩ : ByteArray))).mono HB.out.size)⟩
          · rw [if_neg c11] at H
            exact absurd H (by simp)
  · replace c3 := Bool.eq_false_iff.mpr c3
    subst c3
    have H1 : (some (([] : List Int), 1)) = some (r1, r2) := by rw [if_neg (show ¬ (false = true) by decide)] at H; exact H
    clear H
    have H := H1
    clear H1
    simp only [Option.some.injEq, Prod.mk.injEq] at H
    obtain ⟨rfl, rfl⟩ := H
    go_enter Tryd.func15, Tryd.ntmps15
    go_wp2_with (first | (go_at_call 17; (with_reducible refine (tollhouseref05_May.calls k _ _ l0 false _ ?side1 ?side2 A2.out).mono ?_); (case side1 => repeat (first | exact HR0.out | (with_reducible refine Kd.C_alloc ?_ _) | (with_reducible refine Kd.C_drewN ?_ _) | (with_reducible refine Kd.C_drew ?_))); (case side2 => exact HC0.out); rintro e w14 ⟨rfl, hb⟩; have n0_ := Aside0.mk (below_step (by repeat (first | (with_reducible first | exact HB.out | apply below_alloc | apply pw_below_drewN | apply below_drew1) | exact HB.out)) hb); clear HB; have HB := n0_; clear n0_; (try clear hb); (try clear hb2); (try clear hk); (try clear hi)))
    repeat (go_quiet (first | (go_at_call 17; (with_reducible refine (tollhouseref05_May.calls k _ _ l0 false _ ?side1 ?side2 A2.out).mono ?_); (case side1 => repeat (first | exact HR0.out | (with_reducible refine Kd.C_alloc ?_ _) | (with_reducible refine Kd.C_drewN ?_ _) | (with_reducible refine Kd.C_drew ?_))); (case side2 => exact HC0.out); rintro e w14 ⟨rfl, hb⟩; have n0_ := Aside0.mk (below_step (by repeat (first | (with_reducible first | exact HB.out | apply below_alloc | apply pw_below_drewN | apply below_drew1) | exact HB.out)) hb); clear HB; have HB := n0_; clear n0_; (try clear hb); (try clear hb2); (try clear hk); (try clear hi))); try go_wp2_with (first | (go_at_call 17; (with_reducible refine (tollhouseref05_May.calls k _ _ l0 false _ ?side1 ?side2 A2.out).mono ?_); (case side1 => repeat (first | exact HR0.out | (with_reducible refine Kd.C_alloc ?_ _) | (with_reducible refine Kd.C_drewN ?_ _) | (with_reducible refine Kd.C_drew ?_))); (case side2 => exact HC0.out); rintro e w14 ⟨rfl, hb⟩; have n0_ := Aside0.mk (below_step (by repeat (first | (with_reducible first | exact HB.out | apply below_alloc | apply pw_below_drewN | apply below_drew1) | exact HB.out)) hb); clear HB; have HB := n0_; clear n0_; (try clear hb); (try clear hb2); (try clear hk); (try clear hi))))
    go_ret2
    exact ⟨_, by first | rfl | (simp [errW_none, errW_some] <;> rfl) | (simp [*, errW_none, errW_some] <;> rfl), Kd.R_V (base' := w.heap.size) (base := w.heap.size) (show Kd.R (Kd.int .u8) 5 _ w.heap.size (fun k_ => w.heap.size ≤ k_) (.slice none 0 0) [] from Kd.R_nil _ _ _ _ _), by repeat (first | (with_reducible first | exact HB.out | apply below_alloc | apply pw_below_drewN | apply below_drew1) | exact HB.out)⟩

end Go.Proofs.YtdofgilfmgdpkaaDoor.P
