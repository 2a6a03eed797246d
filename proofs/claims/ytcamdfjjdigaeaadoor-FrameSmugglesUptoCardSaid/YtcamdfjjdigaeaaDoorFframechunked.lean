/- frame.chunked: are codings chunked alone? -/
import Derived.Test.YtcamdfjjdigaeaaDoorFframeElements
set_option linter.unusedVariables false
set_option linter.unusedSimpArgs false
namespace Go.Proofs.YtcamdfjjdigaeaaDoor.P
open Go.RowKit Go.Proofs.YtcamdfjjdigaeaaDoorW.PrintWords Go.Proofs.YtcamdfjjdigaeaaDoorW.PrintLast Go.Proofs.YtcamdfjjdigaeaaDoorW.PrintMore

def chunkedS : ByteArray := ⟨#[99, 104, 117, 110, 107, 101, 100]⟩
/-- One coding more: how many there were. -/
def chunkStep (z : Int) (x : ByteArray) : Int × Int := (if wrap64 (z + 1) > 1 then 22 else if sameB x chunkedS = true then 0 else 22, wrap64 (z + 1))
def chunkB (minor : Int) (vs : List ByteArray) : Bool := decide ((foldE chunkStep 0 (elsB vs)).1 = 0) && (decide ((foldE chunkStep 0 (elsB vs)).2 = 1) && decide (minor = 1))
def frame_chunked.f (a0 : Int) (l1 : List ByteArray) : Option Bool := if sumS l1 ≤ 1073741824 then some (chunkB a0 l1) else none
/-- What lies in memory: the count. -/
def CkInv (w0 : World) (z : Int) (W : World) : Prop := W.heap[w0.heap.size]? = some (.cells #[.int .i64 z] 3 (0, 0)) ∧ Below w0.heap.size w0 W

theorem elsB_size {vs : List ByteArray} {x : ByteArray} (h : x ∈ elsB vs) : x.size ≤ sumS vs := by
  obtain ⟨v, hv, hx⟩ := List.mem_flatMap.1 h
  have h1 := listB_mem hx
  have h2 := sumS_mem hv
  omega

set_option maxRecDepth 100000 in
set_option maxHeartbeats 1000000 in
theorem chunkClosure (w0 : World) (z : Int) (x : ByteArray) (W : World) (hx : x.size ≤ 1073741824) (hI : CkInv w0 z W) :
    Calls Tryd.prog 53 (#[.string x] ++ #[.pointer (some ⟨w0.heap.size, 0, none⟩)]) W fun e w' => e = .returned (.int .i64 (chunkStep z x).1) ∧ CkInv w0 (chunkStep z x).2 w' ∧ Kept W w' (fun k => k = w0.heap.size) := by
  have c0 : W.cell? ⟨w0.heap.size, 0, none⟩ = some (.int .i64 z) := (blk_cell hI.1 0).trans rfl
  have f0 := blk_frozen hI.1 0
  have hb1 : (W.setCell ⟨w0.heap.size, 0, none⟩ (.int .i64 (wrap64 (z + 1)))).heap[w0.heap.size]? = some (.cells #[.int .i64 (wrap64 (z + 1))] 3 (0, 0)) := (blk_set hI.1 0 _).trans (by simp)
  have hI1 : CkInv w0 (wrap64 (z + 1)) (W.setCell ⟨w0.heap.size, 0, none⟩ (.int .i64 (wrap64 (z + 1)))) := ⟨hb1, hI.2.setCell (Nat.le_refl _) _⟩
  have hK1 : Kept W (W.setCell ⟨w0.heap.size, 0, none⟩ (.int .i64 (wrap64 (z + 1)))) (fun k => k = w0.heap.size) := Kept.setCell (S := fun k => k = w0.heap.size) (Kept.refl W _) (.inl rfl) _
  have HI1 := Aside0.mk hI1
  have HK1 := Aside0.mk hK1
  clear hI hb1 hI1 hK1
  by_cases h1 : wrap64 (z + 1) > 1
  · have hs : chunkStep z x = (22, wrap64 (z + 1)) := by unfold chunkStep; rw [if_pos h1]
    have HS := Aside0.mk hs
    clear hs
    go_enter Tryd.func53, Tryd.ntmps53
    go_wp2_with fail
    go_ret
    rw [HS.out]
    exact ⟨rfl, HI1.out, HK1.out⟩
  · have HC := Aside0.mk (sameCalls x chunkedS (W.setCell ⟨w0.heap.size, 0, none⟩ (.int .i64 (wrap64 (z + 1)))) (by unfold fits63; exact decide_eq_true (by omega)) (by decide))
    cases hsm : sameB x chunkedS with
    | true =>
      have hs : chunkStep z x = (0, wrap64 (z + 1)) := by unfold chunkStep; rw [if_neg h1, if_pos hsm]
      have HS := Aside0.mk hs
      rw [hsm] at HC
      clear hs hsm
      go_enter Tryd.func53, Tryd.ntmps53
      go_wp2_with fail
      refine HC.out.mono ?_
      rintro e w' ⟨rfl, hb⟩
      go_wp2
      go_ret
      rw [HS.out]
      exact ⟨rfl, ⟨blk_below HI1.out.1 hb, HI1.out.2.trans (hb.mono HI1.out.2.size)⟩, HK1.out.below hb⟩
    | false =>
      have hs : chunkStep z x = (22, wrap64 (z + 1)) := by unfold chunkStep; rw [if_neg h1, hsm]; rfl
      have HS := Aside0.mk hs
      rw [hsm] at HC
      clear hs hsm
      go_enter Tryd.func53, Tryd.ntmps53
      go_wp2_with fail
      refine HC.out.mono ?_
      rintro e w' ⟨rfl, hb⟩
      go_wp2
      go_ret
      rw [HS.out]
      exact ⟨rfl, ⟨blk_below HI1.out.1 hb, HI1.out.2.trans (hb.mono HI1.out.2.size)⟩, HK1.out.below hb⟩

set_option maxRecDepth 100000 in
set_option maxHeartbeats 1000000 in
theorem frame_chunked.calls (a0 : Int) (A1 : Option Addr) (c1 : Nat) (l1 : List ByteArray) (r : Bool) (w : World) (hr1 : Kd.C Kd.string w A1 l1.length l1) (hc1 : l1.length ≤ c1) (h : frame_chunked.f a0 l1 = some r) :
    Calls Tryd.prog 39 #[.int .i64 a0, .slice A1 l1.length c1] w fun e w' => e = .returned (.bool r) ∧ Below w.heap.size w w' := by
  unfold frame_chunked.f at h
  split at h
  · rename_i hs
    have HR := Aside0.mk (Option.some.inj h)
    have hmf : ∀ (fn : Fn) (first cap : Array Value) (w : World), (Instr.makeFunc fn first cap).run Tryd.prog w = .ok (.func fn first cap) w := fun _ _ _ _ => rfl
    have hE := frameElements w (w.heap.size + 1) A1 c1 l1 hr1 53 #[.pointer (some ⟨w.heap.size, 0, none⟩)] (enters_of Tryd.func53 (by kernel_rfl) rfl) chunkStep (fun k => k = w.heap.size) (CkInv w)
      (fun k hk => by omega) (fun st W W1 hI hb => ⟨blk_below hI.1 hb, hI.2.trans (hb.mono hI.2.size)⟩) (fun st W hI => ⟨hI.2, by have := blk_lt hI.1; omega⟩)
      (fun st x W hx hI => chunkClosure w st x W (Nat.le_trans (elsB_size hx) hs) hI) hs 0 (w.alloc (.cells #[.int .i64 0] 3 (0, 0))) ⟨blk_new w _, below_alloc (Below.refl _ w) _⟩
    have HE := Aside0.mk hE
    unfold chunkB at HR
    clear h hs hr1 hc1 hE
    generalize foldE chunkStep 0 (elsB l1) = q at HR HE
    obtain ⟨e0, z0⟩ := q
    dsimp only at HR HE
    by_cases h1 : e0 = 0
    · by_cases h2 : z0 = 1
      · by_cases h3 : a0 = 1
        · subst h1 h2 h3
          go_enter Tryd.func39, Tryd.ntmps39
          go_wp2_with fail
          refine HE.out.mono ?_
          rintro e w' ⟨rfl, hI⟩
          have c0 : w'.cell? ⟨w.heap.size, 0, none⟩ = some (.int .i64 1) := (blk_cell hI.1 0).trans rfl
          have HI := Aside0.mk hI
          clear hI
          go_wp2
          go_ret
          rw [← HR.out]
          exact ⟨rfl, HI.out.2⟩
        · have e3 : (a0 == 1) = false := beq_eq_false_iff_ne.2 h3
          subst h1 h2
          go_enter Tryd.func39, Tryd.ntmps39
          go_wp2_with fail
          refine HE.out.mono ?_
          rintro e w' ⟨rfl, hI⟩
          have c0 : w'.cell? ⟨w.heap.size, 0, none⟩ = some (.int .i64 1) := (blk_cell hI.1 0).trans rfl
          have HI := Aside0.mk hI
          clear hI
          go_wp2
          go_ret
          rw [← HR.out, decide_eq_false h3]
          exact ⟨rfl, HI.out.2⟩
      · have e2 : (z0 == 1) = false := beq_eq_false_iff_ne.2 h2
        subst h1
        go_enter Tryd.func39, Tryd.ntmps39
        go_wp2_with fail
        refine HE.out.mono ?_
        rintro e w' ⟨rfl, hI⟩
        have c0 : w'.cell? ⟨w.heap.size, 0, none⟩ = some (.int .i64 z0) := (blk_cell hI.1 0).trans rfl
        have HI := Aside0.mk hI
        clear hI
        go_wp2
        go_ret
        rw [← HR.out, decide_eq_false h2]
        exact ⟨rfl, HI.out.2⟩
    · have e1 : (e0 == 0) = false := beq_eq_false_iff_ne.2 h1
      go_enter Tryd.func39, Tryd.ntmps39
      go_wp2_with fail
      refine HE.out.mono ?_
      rintro e w' ⟨rfl, hI⟩
      have HI := Aside0.mk hI
      clear hI
      go_wp2
      go_ret
      rw [← HR.out, decide_eq_false h1]
      exact ⟨rfl, HI.out.2⟩
  · exact absurd h (by simp)
end Go.Proofs.YtcamdfjjdigaeaaDoor.P
