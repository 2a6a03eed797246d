/- head.Parse: the walk, a part. -/
import Derived.Test.YtdofgilfmgdpkaaDoorFheadParseB
set_option linter.unusedVariables false
set_option linter.unusedSimpArgs false
namespace Go.Proofs.YtdofgilfmgdpkaaDoor.P
open Go.RowKit Go.Proofs.YtdofgilfmgdpkaaDoorW.PrintWords Go.Proofs.YtdofgilfmgdpkaaDoorW.PrintLast Go.Proofs.YtdofgilfmgdpkaaDoorW.PrintMore

set_option maxHeartbeats 4000000 in
set_option maxRecDepth 100000 in
theorem lab_value (b : List Int) (R : PR) (A : Option Addr) (c0 : Nat) (w : World) (k : Nat) (a : Act) (wr : World) (HC : Aside0 (PC b A c0 w)) (fall : FallsYtdofgilfmgdpkaaDoor Tryd.prog parseScope (PJ b R A c0 w) (PEnd R w) (fun g' => g' < k))
    (pl from' to' : Nat) (c : Int) (l : List S45) (v6 : Value) (e9 : Int) (hF : PFr A b.length c0 w.heap.size v6 from' to' e9 a) (HS : Aside0 (PS b A c0 w wr pl c v6 l)) (hp : pGo b k .value pl from' to' c l = some R) (q1 : from' + 1 < to') (q2 : to' ≤ pl) (q3 : l.length < 32) :
    PPass b R A c0 w k 4 a wr := by
  have FALL := Aside0.mk fall
  clear fall
  refine ⟨_, rfl, ?_⟩
  obtain ⟨f, rfl⟩ := hF
  match k, hp, FALL with
  | 0, hp, _ => exact absurd hp (by simp [pGo])
  | k + 1, hp, FALL =>
    rw [pGo] at hp
    unfold PEnd
    go_wp2_with fail
    refine (next_tells HC.out HS.out).mono ?_
    rintro e w' ⟨e9', rfl, hN⟩
    rcases hN with ⟨h1, rfl, hS⟩ | ⟨h1, h2, rfl, hS⟩ | ⟨h1, h2, h3, rfl, x, hx, hby, hS⟩
    · rw [if_pos h1] at hp
      have hp := Option.some.inj hp
      go_wp2
      refine wp_goto (Exists.intro k ⟨Nat.lt_succ_self k, _, _, _, _, _, _, _, PFr.of _ _ rfl rfl, .inr (.inr (.inr (.inr (.inr (.inr (.inr ⟨rfl, hp.symm⟩)))))), hS⟩)
    · rw [if_neg h1, if_pos h2] at hp
      have hp := Option.some.inj hp
      go_wp2
      refine wp_goto (Exists.intro k ⟨Nat.lt_succ_self k, _, _, _, _, _, _, _, PFr.of _ _ rfl rfl, .inr (.inr (.inr (.inr (.inr (.inr (.inr ⟨rfl, hp.symm⟩)))))), hS⟩)
    · rw [if_neg h1, if_neg h2] at hp
      simp only [hx] at hp
      have HX := Aside0.mk hx
      have HS' := Aside0.mk hS
      clear HS
      obtain ⟨r0, r1, r2, _, _⟩ := hS.rd.cells
      clear hS hx
      by_cases h4 : x = 13
      · rw [if_pos h4] at hp
        rw [h4] at r2
        go_wp2
        refine wp_goto ?_
        refine Exists.intro k ⟨Nat.lt_succ_self k, _, _, _, _, _, _, _, PFr.of _ _ rfl rfl, .inr (.inr (.inr (.inl ⟨rfl, h4 ▸ hp, q1, by omega, q3⟩))), HS'.out⟩
      · rw [if_neg h4] at hp
        have e4 : (x == (13 : Int)) = false := beq_eq_false_iff_ne.2 h4
        have hsm := HC.out.small
        have e5 : wrap64 ((pl : Int) + 1 - (from' : Int)) = (pl : Int) + 1 - (from' : Int) := by unfold wrap64; omega
        by_cases h5 : 512 < pl + 1 - from'
        · rw [if_pos h5] at hp
          have hp := Option.some.inj hp
          have e6 : (512 : Int) < (pl : Int) + 1 - (from' : Int) := by omega
          go_wp2
          refine wp_goto ?_
          refine Exists.intro k ⟨Nat.lt_succ_self k, _, _, _, _, _, _, _, PFr.of _ _ rfl rfl, .inr (.inr (.inr (.inr (.inr (.inl ⟨rfl, hp.symm⟩))))), HS'.out⟩
        · rw [if_neg h5] at hp
          have e6 : ¬ (512 : Int) < (pl : Int) + 1 - (from' : Int) := by omega
          go_wp2_with fail
          refine (head_shown.calls x (shownI x) _ (head_shown_tells x hby)).mono ?_
          rintro e w2 ⟨rfl, hb⟩
          have HS2 := Aside0.mk (HS'.out.later hb)
          clear hb HS'
          by_cases h7 : shownI x = false
          · rw [if_pos h7] at hp
            have hp := Option.some.inj hp
            rw [h7]
            go_wp2
            refine wp_goto ?_
            refine Exists.intro k ⟨Nat.lt_succ_self k, _, _, _, _, _, _, _, PFr.of _ _ rfl rfl, .inr (.inr (.inr (.inr (.inr (.inr (.inl ⟨rfl, hp.symm⟩)))))), HS2.out⟩
          · rw [if_neg h7] at hp
            rw [Bool.not_eq_false] at h7
            rw [h7]
            go_wp2
            refine wp_goto ?_
            refine Exists.intro k ⟨Nat.lt_succ_self k, _, _, _, _, _, _, _, PFr.of _ _ rfl rfl, .inr (.inr (.inl ⟨rfl, hp, q1, by omega, q3⟩)), HS2.out⟩
end Go.Proofs.YtdofgilfmgdpkaaDoor.P
