/- frame.elements: something is called with each element of all values, until the first error. -/
import Derived.Test.YtcamdfjjdigaeaaDoorFBulkA
import Derived.Test.YtcamdfjjdigaeaaDoorFtextList
import Derived.Shelf.Abstract
set_option linter.unusedVariables false
set_option linter.unusedSimpArgs false
namespace Go.Proofs.YtcamdfjjdigaeaaDoor.P
open Go.RowKit Go.Proofs.YtcamdfjjdigaeaaDoorW.PrintWords Go.Proofs.YtcamdfjjdigaeaaDoorW.PrintLast Go.Proofs.YtcamdfjjdigaeaaDoorW.PrintMore

/-- One behind the other, until one answers no 0. -/
def foldE {σ : Type} (step : σ → ByteArray → Int × σ) : σ → List ByteArray → Int × σ
  | st, [] => (0, st)
  | st, x :: r => if (step st x).1 = 0 then foldE step (step st x).2 r else step st x
theorem foldE_append {σ : Type} (step : σ → ByteArray → Int × σ) : ∀ (a : List ByteArray) (st : σ) (b : List ByteArray), foldE step st (a ++ b) = if (foldE step st a).1 = 0 then foldE step (foldE step st a).2 b else foldE step st a
  | [], st, b => by simp [foldE]
  | x :: r, st, b => by
    rw [List.cons_append, foldE, foldE]
    by_cases h : (step st x).1 = 0
    · rw [if_pos h, if_pos h]; exact foldE_append step r _ b
    · rw [if_neg h, if_neg h, if_neg h]
/-- What is asked of what is called with each element: in a world where the state is so, it answers, and the state is the next one; of what was, only the state's own blocks change. -/
def DoOn {σ : Type} (g : Nat) (lb : Array Value) (xs : List ByteArray) (step : σ → ByteArray → Int × σ) (S : Nat → Prop) (Inv : σ → World → Prop) : Prop :=
  ∀ (st : σ) (x : ByteArray) (W : World), x ∈ xs → Inv st W → Calls Tryd.prog g (#[.string x] ++ lb) W fun e w' => e = .returned (.int .i64 (step st x).1) ∧ Inv (step st x).2 w' ∧ Kept W w' S

/-- What holds at the outer loop's head. -/
def ElRel {σ : Type} (step : σ → ByteArray → Int × σ) (Inv : σ → World → Prop) (st : σ) (vs : List ByteArray) (kk : Nat) (wr : World) : Prop := ∃ st1, foldE step st (elsB (vs.take kk)) = (0, st1) ∧ Inv st1 wr
/-- What holds at the inner loop's head. -/
def ElRel2 {σ : Type} (step : σ → ByteArray → Int × σ) (Inv : σ → World → Prop) (st1 : σ) (base hi : Nat) (vL : Value) (xs : List ByteArray) (jj : Nat) (wr : World) : Prop := ∃ st2, foldE step st1 (xs.take jj) = (0, st2) ∧ Inv st2 wr ∧ Kd.R Kd.string 9 wr base (fun k => hi ≤ k) vL xs

theorem take_snocS (l : List ByteArray) (j : Nat) (h : j < l.length) : l.take (j + 1) = l.take j ++ [l.getD j ByteArray.empty] := by
  rw [List.take_succ_eq_append_getElem h, List.getD_eq_getElem?_getD, List.getElem?_eq_getElem h]; rfl
theorem elsB_append (a b : List ByteArray) : elsB (a ++ b) = elsB a ++ elsB b := by unfold elsB; exact List.flatMap_append
theorem elsB_one (v : ByteArray) : elsB [v] = listB v := by simp [elsB]
theorem sumS_mem {l : List ByteArray} {x : ByteArray} (h : x ∈ l) : x.size + 1 ≤ sumS l := by
  induction l with
  | nil => cases h
  | cons y r ih => rw [sumS_cons]; rcases List.mem_cons.1 h with rfl | h; omega; have := ih h; omega
theorem sumS_len (l : List ByteArray) : l.length ≤ sumS l := by
  induction l with
  | nil => simp
  | cons x r ih => rw [sumS_cons, List.length_cons]; omega
theorem getD_memS {l : List ByteArray} {j : Nat} (h : j < l.length) : l.getD j ByteArray.empty ∈ l := by rw [List.getD_eq_getElem?_getD, List.getElem?_eq_getElem h]; exact List.getElem_mem h

set_option maxRecDepth 1000000 in
set_option maxHeartbeats 4000000 in
theorem frameElements {σ : Type} (w0 : World) (hi : Nat) (A : Option Addr) (c : Nat) (vs : List ByteArray) (hr : Kd.C Kd.string w0 A vs.length vs) (g : Nat) (lb : Array Value) (eg : ∀ args w, (callFunc g args).run Tryd.prog w = .ok (.enter g args) w)
    (step : σ → ByteArray → Int × σ) (S : Nat → Prop) (Inv : σ → World → Prop) (hS : ∀ k, S k → k < hi) (hlater : ∀ st W W1, Inv st W → Below W.heap.size W W1 → Inv st W1) (hbel : ∀ st W, Inv st W → Below w0.heap.size w0 W ∧ hi ≤ W.heap.size)
    (hdo : DoOn g lb (elsB vs) step S Inv) (hsum : sumS vs ≤ 1073741824) (st : σ) (w : World) (hI : Inv st w) :
    Calls Tryd.prog 52 #[.slice A vs.length c, .func (.func g) #[] lb] w fun e w' => e = .returned (.int .i64 (foldE step st (elsB vs)).1) ∧ Inv (foldE step st (elsB vs)).2 w' := by
  have HR := Aside0.mk hr
  have HS := Aside0.mk hS
  have HLAT := Aside0.mk hlater
  have HBEL := Aside0.mk hbel
  have HDO := Aside0.mk hdo
  have HSUM := Aside0.mk hsum
  have HI := Aside0.mk hI
  have hlen : (vs.length : Int) ≤ 1073741824 := by have := sumS_len vs; omega
  clear hr hS hlater hbel hdo hsum hI
  go_enter Tryd.func52, Tryd.ntmps52
  go_wp2
  go_loopw [12] (fun s12 wr => ∃ kk : Nat, s12 = .int .i64 kk ∧ kk ≤ vs.length ∧ Aside0 (ElRel step Inv st vs kk wr)) (fun s12 _ => vs.length - (intOf s12).toNat)
  case atStart => exact ⟨0, rfl, Nat.zero_le _, ⟨⟨st, rfl, HI.out⟩⟩⟩
  case round =>
    rename_i s12
    obtain ⟨kk, rfl, hkk, HREL⟩ := hrel
    obtain ⟨st1, hf, hI⟩ := HREL.out
    obtain ⟨wo, hwo⟩ : ∃ wo : World, wo = wr := ⟨_, rfl⟩
    subst hwo
    clear HREL HI
    by_cases hlt : kk < vs.length
    · have hltz : (kk : Int) < (vs.length : Int) := by omega
      obtain ⟨ad, cs, hA, hcs, hK, hcell⟩ := Kd.C_get HR.out ByteArray.empty (kk : Int) (by omega) hltz
      subst hA
      have hK' : cs = [.string (vs.getD kk ByteArray.empty)] := hK
      have hx := hcell 0 (.string (vs.getD kk ByteArray.empty)) (by rw [hK']; rfl)
      have hx' : w0.cell? (ad.add kk) = some (.string (vs.getD kk ByteArray.empty)) := by simpa [Kd.string, Kd.scalar] using hx
      have l2 := ((HBEL.out _ _ hI).1.cell (World.block_lt_of_cell? w0 _ hx')).trans hx'
      clear hcell hK hK' hx hcs hx'
      have hsn := take_snocS vs kk hlt
      have hmem := getD_memS hlt
      generalize hv : vs.getD kk ByteArray.empty = v at l2 hsn hmem
      have hvs := sumS_mem hmem
      have hall : elsB (vs.take (kk + 1)) = elsB (vs.take kk) ++ listB v := by rw [hsn, elsB_append, elsB_one]
      have hfin : foldE step st (elsB (vs.take (kk + 1))) = foldE step st1 (listB v) := by rw [hall, foldE_append, hf, if_pos rfl]
      have hsplit : elsB vs = elsB (vs.take (kk + 1)) ++ elsB (vs.drop (kk + 1)) := by rw [← elsB_append, List.take_append_drop]
      have hstop : (foldE step st1 (listB v)).1 ≠ 0 → foldE step st (elsB vs) = foldE step st1 (listB v) := fun h => by rw [hsplit, foldE_append, hfin, if_neg h]
      have hsub : ∀ x ∈ listB v, x ∈ elsB vs := fun x hx => List.mem_flatMap.2 ⟨v, hmem, hx⟩
      have hxl : (listB v).length ≤ v.size + 1 := listB_length v
      have HL := Aside0.mk (text_List.calls v (listB v) wo (list_ok v (by have := HSUM.out; omega)))
      have HF := Aside0.mk (And.intro hfin (And.intro hstop hsub))
      have HN := Aside0.mk (And.intro hxl hvs)
      have HII := Aside0.mk hI
      have HLT := Aside0.mk hlt
      clear hf hI hsn hmem hv hall hfin hsplit hstop hsub hvs hxl
      go_wp2_with fail
      refine HL.out.mono ?_
      rintro e w1 ⟨vL, rfl, hLrow, hb⟩
      obtain ⟨Ae, ce, ee⟩ := Kd.R_slice hLrow
      subst ee
      have HI1 := Aside0.mk (HLAT.out _ _ _ HII.out hb)
      have HROW := Aside0.mk (Kd.R_mono (Kd.R_bound hLrow) (ok' := fun k => hi ≤ k) (fun k hk => by have := (HBEL.out _ _ HII.out).2; have := hk.2.1; omega))
      clear HII hb hLrow HL
      generalize hxs : listB v = xs at *
      have hxlz : (xs.length : Int) ≤ 1073741825 := by have := HN.out; have := HSUM.out; omega
      clear hxs
      go_wp2
      go_loopw [19] (fun s19 wr2 => ∃ jj : Nat, s19 = .int .i64 jj ∧ jj ≤ xs.length ∧ Aside0 (ElRel2 step Inv st1 wo.heap.size hi (.slice Ae xs.length ce) xs jj wr2)) (fun s19 _ => xs.length - (intOf s19).toNat)
      case atStart => exact ⟨0, rfl, Nat.zero_le _, ⟨⟨st1, rfl, HI1.out, HROW.out⟩⟩⟩
      case round =>
        rename_i s19
        obtain ⟨jj, rfl, hjj, HREL⟩ := hrel
        obtain ⟨st2, hf2, hI2, hrow⟩ := HREL.out
        clear HREL HI1 HROW
        by_cases hltj : jj < xs.length
        · have hltjz : (jj : Int) < (xs.length : Int) := by omega
          obtain ⟨ad2, cs, hA, hcs, hK, hcell⟩ := Kd.C_get (Kd.R_reads' hrow).2.2 ByteArray.empty (jj : Int) (by omega) hltjz
          subst hA
          have hK' : cs = [.string (xs.getD jj ByteArray.empty)] := hK
          have hx := hcell 0 (.string (xs.getD jj ByteArray.empty)) (by rw [hK']; rfl)
          have l3 : wr.cell? (ad2.add jj) = some (.string (xs.getD jj ByteArray.empty)) := by simpa [Kd.string, Kd.scalar] using hx
          clear hcell hK hK' hx hcs
          have hsn := take_snocS xs jj hltj
          have hmem := getD_memS hltj
          generalize hv : xs.getD jj ByteArray.empty = y at l3 hsn hmem
          have hstep : foldE step st1 (xs.take (jj + 1)) = if (step st2 y).1 = 0 then (0, (step st2 y).2) else step st2 y := by
            rw [hsn, foldE_append, hf2, if_pos rfl, foldE]
            rfl
          have hsplit : xs = xs.take (jj + 1) ++ xs.drop (jj + 1) := (List.take_append_drop _ _).symm
          have hall : (step st2 y).1 ≠ 0 → foldE step st1 xs = step st2 y := fun h => by
            conv => lhs; rw [hsplit]
            rw [foldE_append, hstep, if_neg h, if_neg h]
          have HD := Aside0.mk (HDO.out st2 y wr (HF.out.2.2 y hmem) hI2)
          have HST := Aside0.mk (And.intro hstep hall)
          have HROW := Aside0.mk hrow
          have HLTJ := Aside0.mk hltj
          clear hf2 hI2 hrow hsn hmem hv hstep hsplit hall
          by_cases hz : (step st2 y).1 = 0
          · have HZ := Aside0.mk hz
            clear hz
            go_wp2_with fail
            refine HD.out.mono ?_
            rw [HZ.out]
            rintro e w2 ⟨rfl, hI3, hk⟩
            have HI3 := Aside0.mk hI3
            have HROW3 := Aside0.mk (Kd.R_kept HROW.out hk (fun k h1 h2 => by have := HS.out k h2; omega))
            clear hI3 hk HD
            go_wp2
            go_roundw
            case rel => exact ⟨jj + 1, by go_num, HLTJ.out, ⟨⟨(step st2 y).2, by rw [HST.out.1, if_pos HZ.out], HI3.out, HROW3.out⟩⟩⟩
            case measure => simp [intOf]; have := HLTJ.out; omega
          · have hne : ((step st2 y).1 == 0) = false := beq_eq_false_iff_ne.2 hz
            have hne2 : ((step st2 y).1 != 0) = true := by simp [hz]
            have HZ := Aside0.mk hz
            clear hz
            go_wp2_with fail
            refine HD.out.mono ?_
            rintro e w2 ⟨rfl, hI3, hk⟩
            have HI3 := Aside0.mk hI3
            clear hI3 hk HD
            go_wp2
            go_ret
            have hr1 := HST.out.2 HZ.out
            have hr2 := HF.out.2.1 (by rw [hr1]; exact HZ.out)
            rw [hr2, hr1]
            exact ⟨rfl, HI3.out⟩
        · have hje : jj = xs.length := by omega
          subst hje
          rw [List.take_length] at hf2
          have HI2 := Aside0.mk hI2
          have HF2 := Aside0.mk hf2
          clear hf2 hI2 hrow
          go_wp2
          go_roundw
          case rel => exact ⟨kk + 1, by go_num, HLT.out, ⟨⟨st2, by rw [HF.out.1]; exact HF2.out, HI2.out⟩⟩⟩
          case measure => simp [intOf]; have := HLT.out; omega
    · have hke : kk = vs.length := by omega
      subst hke
      rw [List.take_length] at hf
      have HF := Aside0.mk hf
      have HI := Aside0.mk hI
      clear hf hI
      go_wp2
      go_ret
      rw [HF.out]
      exact ⟨rfl, HI.out⟩
end Go.Proofs.YtcamdfjjdigaeaaDoor.P
