/- head.Parse: the walk, a part. -/
import Derived.Test.YtdofgilfmgdpkaaDoorFheadParseB
set_option linter.unusedVariables false
set_option linter.unusedSimpArgs false
namespace Go.Proofs.YtdofgilfmgdpkaaDoor.P
open Go.RowKit Go.Proofs.YtdofgilfmgdpkaaDoorW.PrintWords Go.Proofs.YtdofgilfmgdpkaaDoorW.PrintLast Go.Proofs.YtdofgilfmgdpkaaDoorW.PrintMore

set_option maxHeartbeats 4000000 in
set_option maxRecDepth 100000 in
theorem lab_name (b : List Int) (R : PR) (A : Option Addr) (c0 : Nat) (w : World) (k : Nat) (a : Act) (wr : World) (HC : Aside0 (PC b A c0 w)) (fall : FallsYtdofgilfmgdpkaaDoor Tryd.prog parseScope (PJ b R A c0 w) (PEnd R w) (fun g' => g' < k))
    (pl from' to' : Nat) (c : Int) (l : List S45) (v6 : Value) (e9 : Int) (hF : PFr A b.length c0 w.heap.size v6 from' to' e9 a) (HS : Aside0 (PS b A c0 w wr pl c v6 l)) (hp : pGo b k .name pl from' to' c l = some R) (q1 : from' < pl) (q2 : isByte c = true) (q3 : l.length < 32) :
    PPass b R A c0 w k 6 a wr := by
  have FALL := Aside0.mk fall
  clear fall
  refine ⟨_, rfl, ?_⟩
  obtain ⟨f, rfl⟩ := hF
  match k, hp, FALL with
  | 0, hp, _ => exact absurd hp (by simp [pGo])
  | k + 1, hp, FALL =>
    rw [pGo] at hp
    unfold PEnd
    have hsm := HC.out.small
    have hal := HS.out.at_le
    have e5 : wrap64 ((from' : Int) + 1) = (from' : Int) + 1 := by unfold wrap64; omega
    have HS' := HS
    obtain ⟨r0, r1, r2, _, _⟩ := HS.out.rd.cells
    by_cases h4 : c = 58 ∧ from' + 1 < pl
    · rw [if_pos h4] at hp
      have e6 : (from' : Int) + 1 < (pl : Int) := by omega
      rw [h4.1] at r2
      go_wp2
      refine wp_goto ?_; refine Exists.intro k ⟨Nat.lt_succ_self k, _, _, _, _, _, _, _, PFr.of _ _ rfl rfl, .inr (.inr (.inl ⟨rfl, hp, by omega, Nat.le_refl _, q3⟩)), HS'.out⟩
    · rw [if_neg h4] at hp
      have go6 : ∀ (K : Prop), (((c == (58 : Int)) = false) → K) → (((c == (58 : Int)) = true) → ¬ ((from' : Int) + 1 < (pl : Int)) → K) → K := by
        intro K k1 k2
        by_cases hc : c = 58
        · exact k2 (by simp [hc]) (by intro hlt; exact h4 ⟨hc, by omega⟩)
        · exact k1 (beq_eq_false_iff_ne.2 hc)
      by_cases h7 : tokI c = false
      · rw [if_pos h7] at hp
        have hp := Option.some.inj hp
        refine go6 _ (fun e6 => ?_) (fun e6 e7 => ?_)
        all_goals (go_wp2_with fail; refine (head_token.calls c (tokI c) _ (head_token_tells c q2)).mono ?_; rintro e w2 ⟨rfl, hb⟩; have HS2 := Aside0.mk (HS.out.later hb); clear hb; rw [h7]; go_wp2; refine wp_goto ?_; refine Exists.intro k ⟨Nat.lt_succ_self k, _, _, _, _, _, _, _, PFr.of _ _ rfl rfl, .inr (.inr (.inr (.inr (.inr (.inr (.inl ⟨rfl, hp.symm⟩)))))), HS2.out⟩)
      · rw [if_neg h7] at hp
        rw [Bool.not_eq_false] at h7
        refine go6 _ (fun e6 => ?_) (fun e6 e7 => ?_)
        all_goals
          go_wp2_with fail
          refine (head_token.calls c (tokI c) _ (head_token_tells c q2)).mono ?_
          rintro e w2 ⟨rfl, hb⟩
          have HS2 := Aside0.mk (HS.out.later hb)
          clear hb
          rw [h7]
          go_wp2_with fail
          refine (next_tells HC.out HS2.out).mono ?_
          rintro e w' ⟨e9', rfl, hN⟩
          rcases hN with ⟨h1, rfl, hS⟩ | ⟨h1, h2, rfl, hS⟩ | ⟨h1, h2, h3, rfl, x, hx, hby, hS⟩
          · rw [if_pos h1] at hp
            have hp := Option.some.inj hp
            go_wp2
            refine wp_goto ?_; refine Exists.intro k ⟨Nat.lt_succ_self k, _, _, _, _, _, _, _, PFr.of _ _ rfl rfl, .inr (.inr (.inr (.inr (.inr (.inr (.inr ⟨rfl, hp.symm⟩)))))), hS⟩
          · rw [if_neg h1, if_pos h2] at hp
            have hp := Option.some.inj hp
            go_wp2
            refine wp_goto ?_; refine Exists.intro k ⟨Nat.lt_succ_self k, _, _, _, _, _, _, _, PFr.of _ _ rfl rfl, .inr (.inr (.inr (.inr (.inr (.inr (.inr ⟨rfl, hp.symm⟩)))))), hS⟩
          · rw [if_neg h1, if_neg h2] at hp
            simp only [hx] at hp
            have HX := Aside0.mk hx
            have HS3 := Aside0.mk hS
            clear r0 r1 r2 HS HS' HS2
            obtain ⟨r0, r1, r2, _, _⟩ := hS.rd.cells
            clear hS hx
            have e9 : wrap64 ((pl : Int) + 1 - (from' : Int)) = (pl : Int) + 1 - (from' : Int) := by unfold wrap64; omega
            by_cases h8 : x = 13
            · rw [if_neg (show ¬ (¬ x = 13 ∧ 512 < pl + 1 - from') from fun hh => hh.1 h8)] at hp
              rw [h8] at r2
              go_wp2
              refine wp_goto ?_; refine Exists.intro k ⟨Nat.lt_succ_self k, _, _, _, _, _, _, _, PFr.of _ _ rfl rfl, .inr (.inl ⟨rfl, hp, by omega, hby, q3⟩), HS3.out⟩
            · have e10 : (x != (13 : Int)) = true := bne_iff_ne.2 h8
              by_cases h9 : 512 < pl + 1 - from'
              · rw [if_pos (show ¬ x = 13 ∧ 512 < pl + 1 - from' from ⟨h8, h9⟩)] at hp
                have hp : ([], 0, 21) = R := Option.some.inj hp
                have e11 : (512 : Int) < (pl : Int) + 1 - (from' : Int) := by omega
                first
                | (exfalso; omega)
                | (go_wp2; refine wp_goto ?_; refine Exists.intro k ⟨Nat.lt_succ_self k, _, _, _, _, _, _, _, PFr.of _ _ rfl rfl, .inr (.inr (.inr (.inr (.inr (.inl ⟨rfl, hp.symm⟩))))), HS3.out⟩)
              · rw [if_neg (show ¬ (¬ x = 13 ∧ 512 < pl + 1 - from') from fun hh => h9 hh.2)] at hp
                have e11 : ¬ (512 : Int) < (pl : Int) + 1 - (from' : Int) := by omega
                go_wp2
                refine wp_goto ?_; refine Exists.intro k ⟨Nat.lt_succ_self k, _, _, _, _, _, _, _, PFr.of _ _ rfl rfl, .inr (.inl ⟨rfl, hp, by omega, hby, q3⟩), HS3.out⟩
end Go.Proofs.YtdofgilfmgdpkaaDoor.P
