/- hop.Loops: is the proxy's word the second part of one of via's elements? -/
import Derived.Test.YtegdblnalpfndaaDoorFStrs
import Derived.Test.YtegdblnalpfndaaDoorFSame
import Derived.Test.YtegdblnalpfndaaDoorFBulk
import Derived.Test.YtegdblnalpfndaaDoorShelf
set_option linter.unusedVariables false
set_option linter.unusedSimpArgs false
namespace Go.Proofs.YtegdblnalpfndaaDoor.P
open Go.RowKit Go.Proofs.YtegdblnalpfndaaDoorW.PrintWords Go.Proofs.YtegdblnalpfndaaDoorW.PrintLast Go.Proofs.YtegdblnalpfndaaDoorW.PrintMore

def viaN : ByteArray := ⟨#[118, 105, 97]⟩
def wordN : ByteArray := ⟨#[116, 111, 108, 108, 104, 111, 117, 115, 101]⟩
def blankR (x : Nat) : Bool := x == 32 || x == 9
/-- Does a list element loop? -/
def loopB (s : ByteArray) : Bool := decide (2 ≤ (Lib.goFieldsP blankR s).length) && sameB ((Lib.goFieldsP blankR s).getD 1 ByteArray.empty) wordN
def loopsB (l : List S32) : Bool := (elemsB l viaN).any loopB
def hop_Loops.f (l0 : List S32) : Option Bool := if bulkL l0 ≤ 1073741824 then some (loopsB l0) else none

theorem blankClosure (x : Nat) (W : World) : Calls Tryd.prog 39 (#[.int .i32 x] ++ #[]) W fun e w' => e = .returned (.bool (blankR x)) ∧ W = w' := by
  by_cases h1 : x = 32
  · subst h1
    go_enter Tryd.func39, Tryd.ntmps39
    go_wp2
    go_ret
    exact ⟨rfl, rfl⟩
  · have e1 : ((x : Int) == 32) = false := beq_eq_false_iff_ne.2 (by omega)
    have hb : blankR x = (x == 9) := by unfold blankR; rw [beq_eq_false_iff_ne.2 h1]; rfl
    have HB := Aside0.mk hb
    clear hb
    by_cases h2 : x = 9
    · subst h2
      go_enter Tryd.func39, Tryd.ntmps39
      go_wp2
      go_ret
      exact ⟨rfl, rfl⟩
    · have e2 : ((x : Int) == 9) = false := beq_eq_false_iff_ne.2 (by omega)
      have hb : blankR x = false := by rw [HB.out, beq_eq_false_iff_ne.2 h2]
      have HB2 := Aside0.mk hb
      clear hb h1 h2 HB
      go_enter Tryd.func39, Tryd.ntmps39
      go_wp2
      go_ret
      rw [HB2.out]
      exact ⟨rfl, rfl⟩
theorem parts_size {s x : ByteArray} (h : x ∈ Lib.goFieldsP blankR s) : x.size ≤ s.size := by
  unfold Lib.goFieldsP at h
  obtain ⟨y, _, rfl⟩ := List.mem_map.1 h
  rw [ByteArray.size_extract]; omega

set_option maxRecDepth 100000 in
set_option maxHeartbeats 1000000 in
theorem loopClosure (s : ByteArray) (W : World) (hs : s.size ≤ 1073741824) : Calls Tryd.prog 37 (#[.string s] ++ #[]) W fun e w' => e = .returned (.bool (loopB s)) ∧ Below W.heap.size W w' := by
  have HF := Aside0.mk (Tryd.strings_FieldsFunc_runes 39 #[] (enters_of Tryd.func39 (by kernel_rfl) rfl) blankR s W (by omega) (fun W' x _ _ => (blankClosure x W').mono fun e w' ⟨h1, h2⟩ => ⟨h1, 0, h2.symm⟩))
  have hps : ∀ x ∈ Lib.goFieldsP blankR s, x.size ≤ 1073741824 := fun x hx => Nat.le_trans (parts_size hx) hs
  have HB : loopB s = (decide (2 ≤ (Lib.goFieldsP blankR s).length) && sameB ((Lib.goFieldsP blankR s).getD 1 ByteArray.empty) wordN) := rfl
  generalize Lib.goFieldsP blankR s = ps at HF hps HB
  have HBB := Aside0.mk HB
  clear HB
  by_cases h2 : 2 ≤ ps.length
  · have hz : (2 : Int) ≤ (ps.length : Int) := by omega
    have hz1 : (1 : Int) < (ps.length : Int) := by omega
    have hmem : ps.getD 1 ByteArray.empty ∈ ps := by rw [List.getD_eq_getElem?_getD, List.getElem?_eq_getElem (by omega)]; exact List.getElem_mem _
    have hsz := hps _ hmem
    have hcell : (ps.map Value.string)[1]? = some (.string (ps.getD 1 ByteArray.empty)) := by
      rw [List.getElem?_map, List.getElem?_eq_getElem (by omega), List.getD_eq_getElem?_getD, List.getElem?_eq_getElem (by omega)]; rfl
    have HCELL := Aside0.mk hcell
    generalize ps.getD 1 ByteArray.empty = y at hmem hsz HBB HCELL
    have HS := Aside0.mk (fun W' => sameCalls y wordN W' (by unfold fits63; exact decide_eq_true (by omega)) (by decide))
    have hb2 : loopB s = sameB y wordN := by rw [HBB.out, decide_eq_true h2, Bool.true_and]
    rw [hb2]
    clear hps hmem hsz HBB hb2 h2 hcell
    go_enter Tryd.func37, Tryd.ntmps37
    go_wp2_with fail
    refine HF.out.mono ?_
    rintro e w1 ⟨A, rfl, hA, hown, hb⟩
    have hc := hown.cells (g := A) rfl 1 (.string y) HCELL.out
    have hc1 : w1.cell? ⟨A, 1, none⟩ = some (.string y) := hc
    have HB := Aside0.mk hb
    clear hown hb hc
    go_wp2_with fail
    refine (HS.out _).mono ?_
    rintro e w2 ⟨rfl, hb⟩
    go_wp2
    go_ret
    exact ⟨rfl, HB.out.trans (hb.mono HB.out.size)⟩
  · have hz : ¬ (2 : Int) ≤ (ps.length : Int) := by omega
    have hb2 : loopB s = false := by rw [HBB.out, decide_eq_false h2, Bool.false_and]
    rw [hb2]
    clear hps HBB hb2 h2
    go_enter Tryd.func37, Tryd.ntmps37
    go_wp2_with fail
    refine HF.out.mono ?_
    rintro e w1 ⟨A, rfl, hA, hown, hb⟩
    have HB := Aside0.mk hb
    clear hown hb
    go_wp2
    go_ret
    exact ⟨rfl, HB.out⟩

set_option maxRecDepth 100000 in
set_option maxHeartbeats 1000000 in
theorem hop_Loops.calls (A0 : Option Addr) (c0 : Nat) (l0 : List S32) (r : Bool) (w : World) (hr0 : Kd.C k32 w A0 l0.length l0) (hc0 : l0.length ≤ c0) (h : hop_Loops.f l0 = some r) :
    Calls Tryd.prog 18 #[.slice A0 l0.length c0] w fun e w' => e = .returned (.bool r) ∧ Below w.heap.size w w' := by
  unfold hop_Loops.f at h
  split at h
  · rename_i hs
    have HR := Aside0.mk (Option.some.inj h)
    obtain ⟨k, hk⟩ := (elements_ev l0 viaN hs (by decide)).rounds
    have HE := Aside0.mk (hop_Elements.calls k A0 c0 l0 viaN (elemsB l0 viaN) w hr0 hc0 hk)
    have HES := Aside0.mk (fun x (hx : x ∈ elemsB l0 viaN) => (Nat.le_trans (elemsB_mem hx).1 hs : x.size ≤ 1073741824))
    clear h hs hr0 hc0 hk
    go_enter Tryd.func18, Tryd.ntmps18
    go_wp2_with fail
    refine HE.out.mono ?_
    rintro e w1 ⟨vE, rfl, hE, hb⟩
    obtain ⟨A, c, rfl, hlc, hC⟩ := Kd.R_reads hE
    have HB := Aside0.mk hb
    have HC := Aside0.mk (containsStrs A c (elemsB l0 viaN) 37 #[] (enters_of Tryd.func37 (by kernel_rfl) rfl) loopB w1 hC (fun W x hx _ => loopClosure x W (HES.out x hx)))
    clear hE hb hC hlc
    go_wp2_with fail
    refine HC.out.mono ?_
    rintro e w2 ⟨rfl, hb⟩
    go_wp2
    go_ret
    rw [← HR.out]
    exact ⟨rfl, HB.out.trans (hb.mono HB.out.size)⟩
  · exact absurd h (by simp)
end Go.Proofs.YtegdblnalpfndaaDoor.P
