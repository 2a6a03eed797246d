/- slices.ContainsFunc over rules, for every predicate that answers at the slice's rules. -/
import Derived.Test.YthfppglmjkjcoaaDoorQ0
set_option linter.unusedVariables false
set_option linter.unusedSimpArgs false
namespace Go.Proofs.YthfppglmjkjcoaaDoor.P
open Go.RowKit Go.Proofs.YthfppglmjkjcoaaDoorW.PrintWords Go.Proofs.YthfppglmjkjcoaaDoorW.PrintLast Go.Proofs.YthfppglmjkjcoaaDoorW.PrintMore

/-- What is asked of a predicate handed over: at each rule, in every later world, it answers and leaves what was. -/
def PredOnR (g : Nat) (lb : Array Value) (p : S25 → Bool) (l : List S25) (w : World) : Prop :=
  ∀ (W : World) (x : S25) (A : Option Addr) (c : Nat), x ∈ l → Kd.C Kd.string w A x.f4.length x.f4 → x.f4.length ≤ c → Below w.heap.size w W → Calls Tryd.prog g (#[.agg #[.bool x.f0, .string x.f1, .int .i64 x.f2, .int .i64 x.f3, .slice A x.f4.length c]] ++ lb) W fun e w' => e = .returned (.bool (p x)) ∧ Below W.heap.size W w'
/-- What the search answers: the first place at which p holds, or -1. -/
def IdxRules (p : S25 → Bool) (l : List S25) (i : Int) : Prop := (i = -1 ∧ l.any p = false) ∨ ∃ k : Nat, i = (k : Int) ∧ l.any p = true
theorem IdxRules.sign {p : S25 → Bool} {l : List S25} {i : Int} (h : IdxRules p l i) : decide (0 ≤ i) = l.any p := by
  rcases h with ⟨rfl, h⟩ | ⟨k, rfl, h⟩
  · rw [h]; rfl
  · rw [h]; simp

set_option maxHeartbeats 2000000 in
theorem indexRules (A : Option Addr) (c : Nat) (l : List S25) (g : Nat) (lb : Array Value) (eg : ∀ args w, (callFunc g args).run Tryd.prog w = .ok (.enter g args) w) (p : S25 → Bool) (w : World)
    (hr : Kd.C k25 w A l.length l) (hp : PredOnR g lb p l w) :
    Calls Tryd.prog 42 #[.slice A l.length c, .func (.func g) #[] lb] w fun e w' => ∃ i : Int, e = .returned (.int .i64 i) ∧ Aside0 (IdxRules p l i) ∧ Below w.heap.size w w' := by
  have hm : l.length ≤ 9223372036854775807 := hr.2.1
  have HR := Aside0.mk hr
  clear hr
  go_enter Tryd.func42, Tryd.ntmps42
  go_wp2
  go_loopg [5, 8] l.length (fun gg _ s8 wr => ∃ kk : Nat, kk ≤ l.length ∧ l.length - kk ≤ gg ∧ s8 = .int .i64 kk ∧ Aside0 (Below w.heap.size w wr) ∧ Aside0 ((l.take kk).any p = false))
  case atStart => exact ⟨0, Nat.zero_le _, by omega, rfl, ⟨Below.refl _ w⟩, ⟨by simp⟩⟩
  case round =>
    obtain ⟨kk, hkk, hg, rfl, BW, AN⟩ := hrel
    by_cases hlt : kk < l.length
    · have hltz : (kk : Int) < (l.length : Int) := by omega
      obtain ⟨ad, A4, c4, hA, hx0, hx1, hx2, hx3, hx4, hl4, hi4⟩ := at_T25 HR.out (kk : Int) (by omega) hltz
      subst hA
      have l0 := (BW.out.cell (World.block_lt_of_cell? w _ hx0)).trans hx0
      have l1 := (BW.out.cell (World.block_lt_of_cell? w _ hx1)).trans hx1
      have l2 := (BW.out.cell (World.block_lt_of_cell? w _ hx2)).trans hx2
      have l3 := (BW.out.cell (World.block_lt_of_cell? w _ hx3)).trans hx3
      have l4 := (BW.out.cell (World.block_lt_of_cell? w _ hx4)).trans hx4
      rw [show rd_T25 l (kk : Int) = l.getD kk z25 from rfl] at l0 l1 l2 l3 l4 hl4 hi4
      simp only [Int.toNat_natCast] at l0 l1 l2 l3 l4
      clear hx0 hx1 hx2 hx3 hx4
      have hmem : l.getD kk z25 ∈ l := by rw [List.getD_eq_getElem?_getD, List.getElem?_eq_getElem hlt]; exact List.getElem_mem hlt
      have hcall := hp wr (l.getD kk z25) A4 c4 hmem hi4 hl4 BW.out
      have hsn : l.take (kk + 1) = l.take kk ++ [l.getD kk z25] := by
        rw [List.take_succ_eq_append_getElem hlt, List.getD_eq_getElem?_getD, List.getElem?_eq_getElem hlt]; rfl
      have HSN := Aside0.mk hsn
      clear hsn hp hl4 hi4
      generalize hy : l.getD kk z25 = y at l0 l1 l2 l3 l4 hcall hmem HSN
      have HY := Aside0.mk hmem
      clear hy hmem
      cases hq : p y with
      | true =>
        rw [hq] at hcall
        have HQ := Aside0.mk hq
        clear hq
        go_wp2_with fail
        refine hcall.mono ?_
        rintro e w' ⟨rfl, hb'⟩
        go_wp2
        go_ret
        exact ⟨_, rfl, ⟨.inr ⟨kk, rfl, List.any_eq_true.2 ⟨y, HY.out, HQ.out⟩⟩⟩, BW.out.trans (hb'.mono BW.out.size)⟩
      | false =>
        rw [hq] at hcall
        have HQ := Aside0.mk hq
        clear hq
        go_wp2_with fail
        refine hcall.mono ?_
        rintro e w' ⟨rfl, hb'⟩
        go_wp2
        go_roundg (l.length - (kk + 1))
        case measure => omega
        case rel => exact ⟨kk + 1, by omega, by omega, by go_num, ⟨BW.out.trans (hb'.mono BW.out.size)⟩, ⟨by rw [HSN.out, List.any_append, AN.out]; simp [HQ.out]⟩⟩
    · have hltz : ¬ (kk : Int) < (l.length : Int) := by omega
      have hkl : kk = l.length := by omega
      have HN := Aside0.mk (show l.any p = false by have := AN.out; rwa [hkl, List.take_length] at this)
      subst hkl
      clear AN hltz
      go_wp2
      go_ret
      exact ⟨_, rfl, ⟨.inl ⟨rfl, HN.out⟩⟩, BW.out⟩
theorem containsRules (A : Option Addr) (c : Nat) (l : List S25) (g : Nat) (lb : Array Value) (eg : ∀ args w, (callFunc g args).run Tryd.prog w = .ok (.enter g args) w) (p : S25 → Bool) (w : World)
    (hr : Kd.C k25 w A l.length l) (hp : PredOnR g lb p l w) :
    Calls Tryd.prog 24 #[.slice A l.length c, .func (.func g) #[] lb] w fun e w' => e = .returned (.bool (l.any p)) ∧ Below w.heap.size w w' := by
  go_enter Tryd.func24, Tryd.ntmps24
  go_wp2_with fail
  refine (indexRules A c l g lb eg p w hr hp).mono ?_
  rintro e w' ⟨i, rfl, hi, hb⟩
  go_wp2
  go_ret
  refine ⟨?_, hb⟩
  rw [← hi.out.sign]
  rfl
end Go.Proofs.YthfppglmjkjcoaaDoor.P
