/- slices.ContainsFunc over strings, for every predicate that answers at the slice's bytes. -/
import Derived.Test.YthfppglmjkjcoaaDoorQ0
import Derived.Shelf.Abstract
set_option linter.unusedVariables false
set_option linter.unusedSimpArgs false
namespace Go.Proofs.YthfppglmjkjcoaaDoor.P
open Go.RowKit Go.Proofs.YthfppglmjkjcoaaDoorW.PrintWords Go.Proofs.YthfppglmjkjcoaaDoorW.PrintLast Go.Proofs.YthfppglmjkjcoaaDoorW.PrintMore

/-- What is asked of a predicate handed over: at each element, in every later world, it answers and leaves what was. -/
def PredOnS (g : Nat) (lb : Array Value) (enc : ByteArray → Value) (p : ByteArray → Bool) (l : List ByteArray) (w : World) : Prop :=
  ∀ (W : World) (x : ByteArray), x ∈ l → Below w.heap.size w W → Calls Tryd.prog g (#[enc x] ++ lb) W fun e w' => e = .returned (.bool (p x)) ∧ Below W.heap.size W w'

/-- What the search answers: the first place at which p holds, or -1. -/
def IdxStrs (p : ByteArray → Bool) (l : List ByteArray) (i : Int) : Prop := (i = -1 ∧ l.any p = false) ∨ ∃ k : Nat, i = (k : Int) ∧ k < l.length ∧ (l.take k).any p = false ∧ p (l.getD k ByteArray.empty) = true
theorem IdxStrs.sign {p : ByteArray → Bool} {l : List ByteArray} {i : Int} (h : IdxStrs p l i) : decide (0 ≤ i) = l.any p := by
  rcases h with ⟨rfl, h⟩ | ⟨k, rfl, hk, _, h⟩
  · rw [h]; rfl
  · have : l.any p = true := by
      rw [List.any_eq_true]
      refine ⟨l.getD k ByteArray.empty, ?_, h⟩
      rw [List.getD_eq_getElem?_getD, List.getElem?_eq_getElem hk]; exact List.getElem_mem hk
    rw [this]; simp

set_option maxHeartbeats 1000000 in
theorem indexStrs (A : Option Addr) (c : Nat) (l : List ByteArray) (g : Nat) (lb : Array Value) (eg : ∀ args w, (callFunc g args).run Tryd.prog w = .ok (.enter g args) w) (p : ByteArray → Bool) (w : World)
    (hr : Kd.C Kd.string w A l.length l) (hp : PredOnS g lb Value.string p l w) :
    Calls Tryd.prog 35 #[.slice A l.length c, .func (.func g) #[] lb] w fun e w' => ∃ i : Int, e = .returned (.int .i64 i) ∧ Aside0 (IdxStrs p l i) ∧ Below w.heap.size w w' := by
  have hm : l.length ≤ 9223372036854775807 := hr.2.1
  have HR := Aside0.mk hr
  clear hr
  go_enter Tryd.func35, Tryd.ntmps35
  go_wp2
  go_loopg [5, 8] l.length (fun gg _ s8 wr => ∃ kk : Nat, kk ≤ l.length ∧ l.length - kk ≤ gg ∧ s8 = .int .i64 kk ∧ Aside0 (Below w.heap.size w wr) ∧ Aside0 ((l.take kk).any p = false))
  case atStart => exact ⟨0, Nat.zero_le _, by omega, rfl, ⟨Below.refl _ w⟩, ⟨by simp⟩⟩
  case round =>
    obtain ⟨kk, hkk, hg, rfl, BW, AN⟩ := hrel
    by_cases hlt : kk < l.length
    · have hltz : (kk : Int) < (l.length : Int) := by omega
      obtain ⟨ad, cs, hA, hcs, hK, hcell⟩ := Kd.C_get HR.out ByteArray.empty (kk : Int) (by omega) hltz
      subst hA
      have hK' : cs = [.string (l.getD kk ByteArray.empty)] := hK
      have hx := hcell 0 (.string (l.getD kk ByteArray.empty)) (by rw [hK']; rfl)
      have hx' : w.cell? (ad.add kk) = some (.string (l.getD kk ByteArray.empty)) := by simpa [Kd.string, Kd.scalar] using hx
      have l2 := (BW.out.cell (World.block_lt_of_cell? w _ hx')).trans hx'
      clear hcell hK hK' hx hx' hcs
      have hmem : l.getD kk ByteArray.empty ∈ l := by rw [List.getD_eq_getElem?_getD, List.getElem?_eq_getElem hlt]; exact List.getElem_mem hlt
      have hcall := hp wr (l.getD kk ByteArray.empty) hmem BW.out
      have hsn : l.take (kk + 1) = l.take kk ++ [l.getD kk ByteArray.empty] := by
        rw [List.take_succ_eq_append_getElem hlt, List.getD_eq_getElem?_getD, List.getElem?_eq_getElem hlt]; rfl
      have HSN := Aside0.mk hsn
      clear hsn hp
      generalize hy : l.getD kk ByteArray.empty = y at l2 hcall hmem HSN
      have HY := Aside0.mk hy
      clear hy
      cases hq : p y with
      | true =>
        rw [hq] at hcall
        have HQ := Aside0.mk hq
        clear hq
        go_wp2_with fail
        refine hcall.mono ?_
        rintro e w' ⟨rfl, hb'⟩
        go_wp2
        go_ret
        exact ⟨_, rfl, ⟨.inr ⟨kk, rfl, hlt, AN.out, by rw [HY.out]; exact HQ.out⟩⟩, BW.out.trans (hb'.mono BW.out.size)⟩
      | false =>
        rw [hq] at hcall
        have HQ := Aside0.mk hq
        clear hq
        go_wp2_with fail
        refine hcall.mono ?_
        rintro e w' ⟨rfl, hb'⟩
        go_wp2
        go_roundg (l.length - (kk + 1))
        case measure => omega
        case rel => exact ⟨kk + 1, by omega, by omega, by go_num, ⟨BW.out.trans (hb'.mono BW.out.size)⟩, ⟨by rw [HSN.out, List.any_append, AN.out]; simp [HQ.out]⟩⟩
    · have hltz : ¬ (kk : Int) < (l.length : Int) := by omega
      have hkl : kk = l.length := by omega
      have HN := Aside0.mk (show l.any p = false by have := AN.out; rwa [hkl, List.take_length] at this)
      subst hkl
      go_wp2
      go_ret
      exact ⟨_, rfl, ⟨.inl ⟨rfl, HN.out⟩⟩, BW.out⟩
end Go.Proofs.YthfppglmjkjcoaaDoor.P
