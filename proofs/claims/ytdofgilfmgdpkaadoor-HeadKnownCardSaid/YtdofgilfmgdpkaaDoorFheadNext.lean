/- head.reader.next, in its three ways. -/
import Derived.Test.YtdofgilfmgdpkaaDoorFDeleteF
import Derived.StillTailTactics
set_option linter.unusedVariables false
set_option linter.unusedSimpArgs false
namespace Go.Proofs.YtdofgilfmgdpkaaDoor.P
open Go.RowKit Go.Proofs.YtdofgilfmgdpkaaDoorW.PrintWords Go.Proofs.YtdofgilfmgdpkaaDoorW.PrintLast Go.Proofs.YtdofgilfmgdpkaaDoorW.PrintMore

/-- Block g is a reader: its bytes, its place, the byte read last. -/
def Rd (g : Nat) (A : Option Addr) (n c : Nat) (pl : Int) (ch : Int) (w : World) : Prop := w.heap[g]? = some (.cells #[.slice A n c, .int .i64 pl, .int .u8 ch] 57 (0, 0))
theorem Rd.cells {g : Nat} {A : Option Addr} {n c : Nat} {pl ch : Int} {w : World} (h : Rd g A n c pl ch w) : w.cell? ⟨g, 0, none⟩ = some (.slice A n c) ∧ w.cell? ⟨g, 1, none⟩ = some (.int .i64 pl) ∧ w.cell? ⟨g, 2, none⟩ = some (.int .u8 ch) ∧ w.frozen? ⟨g, 1, none⟩ = false ∧ w.frozen? ⟨g, 2, none⟩ = false :=
  ⟨(blk_cell h 0).trans rfl, (blk_cell h 1).trans rfl, (blk_cell h 2).trans rfl, blk_frozen h 1, blk_frozen h 2⟩

set_option maxHeartbeats 1000000 in
theorem next_more (g : Nat) (A : Option Addr) (n c : Nat) (ch : Int) (w : World) (hn : n ≤ 9223372036854775807) (h : Rd g A n c (n : Int) ch w) :
    Calls Tryd.prog 29 #[.pointer (some ⟨g, 0, none⟩)] w fun e w' => e = .returned (.int .i64 8) ∧ Drawn0 w w' := by
  obtain ⟨c0, c1, c2, _, _⟩ := h.cells
  clear h
  go_enter Tryd.func29, Tryd.ntmps29
  go_wp2
  go_quiet (fail)
  go_wp2
  go_ret
  exact ⟨rfl, ⟨_, rfl⟩⟩

set_option maxHeartbeats 1000000 in
theorem next_big (g : Nat) (A : Option Addr) (n c : Nat) (ch : Int) (w : World) (hn : n ≤ 9223372036854775807) (hne : 2048 < n) (h : Rd g A n c 2048 ch w) :
    Calls Tryd.prog 29 #[.pointer (some ⟨g, 0, none⟩)] w fun e w' => e = .returned (.int .i64 21) ∧ Drawn0 w w' := by
  obtain ⟨c0, c1, c2, _, _⟩ := h.cells
  have e1 : ((2048 : Int) == (n : Int)) = false := beq_eq_false_iff_ne.2 (by omega)
  clear h
  go_enter Tryd.func29, Tryd.ntmps29
  go_wp2
  go_quiet (fail)
  go_wp2
  go_ret
  exact ⟨rfl, ⟨_, rfl⟩⟩

set_option maxHeartbeats 1000000 in
theorem next_ok (g : Nat) (ad : Addr) (n c k : Nat) (ch x : Int) (w : World) (hn : n ≤ 9223372036854775807) (hk : k < n) (hk2 : k ≠ 2048) (h : Rd g (some ad) n c (k : Int) ch w) (hx : w.cell? (ad.add k) = some (.int .u8 x)) (hg : ad.block ≠ g) :
    Calls Tryd.prog 29 #[.pointer (some ⟨g, 0, none⟩)] w fun e w' => e = .returned (.int .i64 0) ∧ Rd g (some ad) n c ((k : Int) + 1) x w' ∧ KBut w w' g := by
  obtain ⟨c0, c1, c2, f1, f2⟩ := h.cells
  have e1 : ((k : Int) == (n : Int)) = false := beq_eq_false_iff_ne.2 (by omega)
  have e2 : ((k : Int) == 2048) = false := beq_eq_false_iff_ne.2 (by omega)
  have HR := Aside0.mk h
  clear h
  go_enter Tryd.func29, Tryd.ntmps29
  go_wp2
  go_quiet (fail)
  go_wp2
  go_region
  go_wp2
  go_ret
  refine ⟨rfl, ?_, ?_⟩
  · exact blk_set (blk_set (blk_drewN HR.out _) 2 _) 1 _
  · exact ((KBut.of_below (Drawn0.below ⟨_, rfl⟩) g).set 2 _).set 1 _
end Go.Proofs.YtdofgilfmgdpkaaDoor.P
