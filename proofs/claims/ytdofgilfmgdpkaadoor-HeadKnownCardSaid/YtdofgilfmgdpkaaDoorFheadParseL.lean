/- head.Parse: the walk, a part. -/
import Derived.Test.YtdofgilfmgdpkaaDoorFheadParseB
set_option linter.unusedVariables false
set_option linter.unusedSimpArgs false
namespace Go.Proofs.YtdofgilfmgdpkaaDoor.P
open Go.RowKit Go.Proofs.YtdofgilfmgdpkaaDoorW.PrintWords Go.Proofs.YtdofgilfmgdpkaaDoorW.PrintLast Go.Proofs.YtdofgilfmgdpkaaDoorW.PrintMore

set_option maxHeartbeats 4000000 in
set_option maxRecDepth 100000 in
theorem lab_line (b : List Int) (R : PR) (A : Option Addr) (c0 : Nat) (w : World) (k : Nat) (a : Act) (wr : World) (HC : Aside0 (PC b A c0 w)) (fall : FallsYtdofgilfmgdpkaaDoor Tryd.prog parseScope (PJ b R A c0 w) (PEnd R w) (fun g' => g' < k))
    (pl from' to' : Nat) (c : Int) (l : List S45) (v6 : Value) (e9 : Int) (hF : PFr A b.length c0 w.heap.size v6 from' to' e9 a) (HS : Aside0 (PS b A c0 w wr pl c v6 l)) (hp : pGo b k .line pl from' to' c l = some R) :
    PPass b R A c0 w k 0 a wr := by
  have FALL := Aside0.mk fall
  clear fall
  refine ⟨_, rfl, ?_⟩
  obtain ⟨f, rfl⟩ := hF
  match k, hp, FALL with
  | 0, hp, _ => exact absurd hp (by simp [pGo])
  | k + 1, hp, FALL =>
    rw [pGo] at hp
    unfold PEnd
    have hsm := HC.out.small
    obtain ⟨r0, r1, r2, _, _⟩ := HS.out.rd.cells
    go_wp2_with fail
    clear r0 r1 r2
    refine (next_tells HC.out HS.out).mono ?_
    rintro e w' ⟨e9', rfl, hN⟩
    rcases hN with ⟨h1, rfl, hS⟩ | ⟨h1, h2, rfl, hS⟩ | ⟨h1, h2, h3, rfl, x, hx, hby, hS⟩
    · rw [if_pos h1] at hp
      have hp := Option.some.inj hp
      go_wp2
      refine wp_goto (Exists.intro k ⟨Nat.lt_succ_self k, _, _, _, _, _, _, _, PFr.of _ _ rfl rfl, .inr (.inr (.inr (.inr (.inr (.inr (.inr ⟨rfl, hp.symm⟩)))))), hS⟩)
    · rw [if_neg h1, if_pos h2] at hp
      have hp := Option.some.inj hp
      go_wp2
      refine wp_goto (Exists.intro k ⟨Nat.lt_succ_self k, _, _, _, _, _, _, _, PFr.of _ _ rfl rfl, .inr (.inr (.inr (.inr (.inr (.inr (.inr ⟨rfl, hp.symm⟩)))))), hS⟩)
    · rw [if_neg h1, if_neg h2] at hp
      simp only [hx] at hp
      have HX := Aside0.mk hx
      have HS' := Aside0.mk hS
      clear HS
      obtain ⟨r0, r1, r2, _, _⟩ := hS.rd.cells
      clear hS hx
      by_cases h4 : x = 13
      · rw [if_pos h4] at hp
        rw [h4] at r2
        go_wp2
        refine wp_goto ?_; refine Exists.intro k ⟨Nat.lt_succ_self k, _, _, _, _, _, _, _, PFr.of _ _ rfl rfl, .inr (.inr (.inr (.inr (.inl ⟨rfl, h4 ▸ hp⟩)))), HS'.out⟩
      · rw [if_neg h4] at hp
        have e4 : (x == (13 : Int)) = false := beq_eq_false_iff_ne.2 h4
        obtain ⟨A6, c6, rfl⟩ := own_shape HS'.out.own
        have h32 := HS'.out.num
        by_cases h5 : 32 ≤ l.length
        · rw [if_pos h5] at hp
          have hp := Option.some.inj hp
          have e6 : l.length = 32 := by omega
          have e7 : ((l.length : Int) == 32) = true := by simp [e6]
          rw [e6] at HS'
          go_wp2
          refine wp_goto ?_; refine Exists.intro k ⟨Nat.lt_succ_self k, _, _, _, _, _, _, _, PFr.of _ _ rfl rfl, .inr (.inr (.inr (.inr (.inr (.inl ⟨rfl, hp.symm⟩))))), HS'.out⟩
        · rw [if_neg h5] at hp
          have e7 : ((l.length : Int) == 32) = false := beq_eq_false_iff_ne.2 (by omega)
          go_wp2
          go_step3
          rename_i hK
          exact hK _ _ (FALL.out k (Nat.lt_succ_self k) 6 _ _ ⟨_, _, _, _, _, _, _, PFr.of _ _ rfl rfl, .inr (.inl ⟨rfl, hp, Nat.lt_succ_self _, hby, by omega⟩), HS'.out⟩ _ rfl)
end Go.Proofs.YtdofgilfmgdpkaaDoor.P
