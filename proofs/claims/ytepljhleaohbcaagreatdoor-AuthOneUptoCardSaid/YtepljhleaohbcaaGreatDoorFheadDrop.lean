/- head.Drop: the fields of other names. -/
import Derived.Test.YtepljhleaohbcaaGreatDoorFDeleteG
import Derived.Test.YtepljhleaohbcaaGreatDoorFUri
import Derived.Test.YtepljhleaohbcaaGreatDoorFcloneField
import Derived.Test.YtepljhleaohbcaaGreatDoorFSame
import Derived.Shelf.Abstract
set_option linter.unusedVariables false
set_option linter.unusedSimpArgs false
namespace Go.Proofs.YtepljhleaohbcaaGreatDoor.P
open Go.RowKit Go.Proofs.YtepljhleaohbcaaGreatDoorW.PrintWords Go.Proofs.YtepljhleaohbcaaGreatDoorW.PrintLast Go.Proofs.YtepljhleaohbcaaGreatDoorW.PrintMore

def hasName (l1 : List ByteArray) (x : S48) : Bool := l1.any fun n => sameB x.f0 n
def dropB (l0 : List S48) (l1 : List ByteArray) : List S48 := l0.filter fun x => !hasName l1 x
def head_Drop.f (l0 : List S48) (l1 : List ByteArray) : Option (List S48) :=
  if l0.length * 32 ≤ 140737488355328 ∧ (l0.all fun x => fits63 x.f0) = true ∧ l1.all fits63 = true then some (dropB l0 l1) else none


theorem C_at_later {A : Option Addr} {l : List ByteArray} {w W : World} (h : Kd.C Kd.string w A l.length l) (hb : Below w.heap.size w W) : Kd.C Kd.string W A l.length l := Kd.C_below h hb

set_option maxHeartbeats 1000000 in
theorem nameClosure (B : Nat) (x : S48) (n : ByteArray) (W : World) (hc : W.cell? ⟨B, 0, none⟩ = some (.string x.f0)) (hx : fits63 x.f0 = true) (hn : fits63 n = true) :
    Calls Tryz.prog 40 (#[.string n] ++ #[.pointer (some ⟨B, 0, none⟩)]) W fun e w' => e = .returned (.bool (sameB x.f0 n)) ∧ Below W.heap.size W w' := by
  have HS := Aside0.mk (sameCalls x.f0 n W hx hn)
  go_enter Tryz.func40, Tryz.ntmps40
  go_wp2_with fail
  refine HS.out.mono ?_
  rintro e w' ⟨rfl, hb⟩
  go_wp2
  go_ret
  exact ⟨rfl, hb⟩

set_option maxHeartbeats 1000000 in
theorem fieldClosure (B : Nat) (A1 : Option Addr) (c1 : Nat) (l1 : List ByteArray) (x : S48) (W : World) (hB : B < W.heap.size) (hc : W.cell? ⟨B, 0, none⟩ = some (.slice A1 l1.length c1)) (hC : Kd.C Kd.string W A1 l1.length l1) (hx : fits63 x.f0 = true) (hl : l1.all fits63 = true) :
    Calls Tryz.prog 38 (#[encF x] ++ #[.pointer (some ⟨B, 0, none⟩)]) W fun e w' => e = .returned (.bool (hasName l1 x)) ∧ Below W.heap.size W w' := by
  have hmf : ∀ (fn : Fn) (first cap : Array Value) (w : World), (Instr.makeFunc fn first cap).run Tryz.prog w = .ok (.func fn first cap) w := fun _ _ _ _ => rfl
  have hW1 : Below W.heap.size W (W.alloc (.cells #[.string x.f0, .string x.f1] 48)) := (Below.refl _ W).alloc (Nat.le_refl _) _
  have hcc := (hW1.cell (p := ⟨B, 0, none⟩) hB).trans hc
  have hce : (W.alloc (.cells #[.string x.f0, .string x.f1] 48)).cell? ⟨W.heap.size, 0, none⟩ = some (.string x.f0) := (blk_cell (blk_new W _) 0).trans rfl
  have hsz : (W.alloc (.cells #[.string x.f0, .string x.f1] 48)).heap.size = W.heap.size + 1 := by simp
  have HC := Aside0.mk (containsStrs A1 c1 l1 40 #[.pointer (some ⟨W.heap.size, 0, none⟩)] (enters_of Tryz.func40 (by kernel_rfl) rfl) (fun n => sameB x.f0 n) _ (Kd.C_below hC hW1)
    (fun W' n hn hb => nameClosure W.heap.size x n W' ((hb.cell (p := ⟨W.heap.size, 0, none⟩) (by rw [hsz]; exact Nat.lt_succ_self _)).trans hce) hx (List.all_eq_true.1 hl n hn)))
  have HB := Aside0.mk hW1
  have HK := Aside0.mk hcc
  clear hcc hW1 hce hsz hC hl hx
  unfold encF
  go_enter Tryz.func38, Tryz.ntmps38
  have hcc := HK.out
  go_wp2_with fail
  refine HC.out.mono ?_
  rintro e w' ⟨rfl, hb⟩
  go_wp2
  go_ret
  exact ⟨rfl, HB.out.trans (hb.mono HB.out.size)⟩

set_option maxHeartbeats 1000000 in
theorem head_Drop.calls (A0 : Option Addr) (c0 : Nat) (l0 : List S48) (A1 : Option Addr) (c1 : Nat) (l1 : List ByteArray) (r : List S48) (w : World) (hr0 : Kd.C k48 w A0 l0.length l0) (hc0 : l0.length ≤ c0) (hr1 : Kd.C Kd.string w A1 l1.length l1) (hc1 : l1.length ≤ c1) (h : head_Drop.f l0 l1 = some r) :
    Calls Tryz.prog 22 #[.slice A0 l0.length c0, .slice A1 l1.length c1] w fun e w' => ∃ v0_ : Value, e = .returned (v0_) ∧ Kd.R k48 48 w' w.heap.size (fun _ => True) v0_ r ∧ Below w.heap.size w w' := by
  unfold head_Drop.f at h
  split at h
  · rename_i hh
    obtain ⟨hlen, hx, hn⟩ := hh
    obtain rfl := Option.some.inj h
    clear h
    have hmf : ∀ (fn : Fn) (first cap : Array Value) (w : World), (Instr.makeFunc fn first cap).run Tryz.prog w = .ok (.func fn first cap) w := fun _ _ _ _ => rfl
    have hW1 : Below w.heap.size w (w.alloc (.cells #[.slice A1 l1.length c1] 44)) := (Below.refl _ w).alloc (Nat.le_refl _) _
    have hsz : (w.alloc (.cells #[.slice A1 l1.length c1] 44)).heap.size = w.heap.size + 1 := by simp
    have hce : (w.alloc (.cells #[.slice A1 l1.length c1] 44)).cell? ⟨w.heap.size, 0, none⟩ = some (.slice A1 l1.length c1) := (blk_cell (blk_new w _) 0).trans rfl
    have HCl := Aside0.mk (cloneField.calls A0 c0 l0 l0 _ (Kd.C_below hr0 hW1) hc0 (by unfold cloneField.f; rw [if_pos hlen]))
    have HCE := Aside0.mk hce
    have HSZ := Aside0.mk hsz
    have HW1 := Aside0.mk hW1
    have HR1 := Aside0.mk hr1
    have HX := Aside0.mk hx
    have HN := Aside0.mk hn
    clear hce hsz hW1 hr1 hr0 hc0 hc1 hlen hx hn
    go_enter Tryz.func22, Tryz.ntmps22
    go_wp2_with fail
    refine HCl.out.mono ?_
    rintro e w1 ⟨v1, rfl, ho, hb⟩
    have hB1 := HW1.out.trans (hb.mono HW1.out.size)
    rw [HSZ.out] at ho
    have hcl : ∀ (g0 : Nat) (W : World) (x : S48), w.heap.size + 1 ≤ g0 → x ∈ l0 → KBut w1 W g0 → Calls Tryz.prog 38 (#[encF x] ++ #[.pointer (some ⟨w.heap.size, 0, none⟩)]) W fun e w' => e = .returned (.bool (hasName l1 x)) ∧ Below W.heap.size W w' := by
      intro g0 W x hg hxl hk
      have hs1 : w.heap.size < w1.heap.size := Nat.lt_of_lt_of_le (by rw [HSZ.out]; exact Nat.lt_succ_self _) hb.size
      have hW : Below (w.heap.size + 1) w1 W := hk.below hg (by omega)
      have hcw : W.cell? ⟨w.heap.size, 0, none⟩ = some (.slice A1 l1.length c1) := (hW.cell (p := ⟨w.heap.size, 0, none⟩) (by exact Nat.lt_succ_self _)).trans ((hb.cell (p := ⟨w.heap.size, 0, none⟩) (by rw [HSZ.out]; exact Nat.lt_succ_self _)).trans HCE.out)
      exact fieldClosure w.heap.size A1 c1 l1 x W (Nat.lt_of_lt_of_le hs1 hk.size) hcw (Kd.C_below HR1.out (hB1.trans (hW.mono (by omega)))) (List.all_eq_true.1 HX.out x hxl) HN.out
    have hrow := RowF.of_R ho
    have HB1 := Aside0.mk hB1
    have HLT := Aside0.mk (show w.heap.size + 1 ≤ w1.heap.size by have := hb.size; rw [HSZ.out] at this; exact this)
    clear hB1 hb ho
    rcases hrow with ⟨rfl, rfl⟩ | ⟨g0, cap, rfl, hg0, hrow⟩
    · clear hcl
      have HD := Aside0.mk (deleteNone 38 #[.pointer (some ⟨w.heap.size, 0, none⟩)] (enters_of Tryz.func38 (by kernel_rfl) rfl) w1)
      go_wp2_with fail
      refine HD.out.mono ?_
      rintro e w2 ⟨rfl, hb2⟩
      go_wp2
      go_ret
      exact ⟨_, rfl, Kd.R_nil _ _ _ _ _, HB1.out.trans (hb2.mono HB1.out.size)⟩
    · have HD := Aside0.mk (deleteFields g0 cap l0 38 #[.pointer (some ⟨w.heap.size, 0, none⟩)] (enters_of Tryz.func38 (by kernel_rfl) rfl) (hasName l1) w1 hrow (fun W x hx hk => hcl g0 W x hg0 hx hk))
      have HG := Aside0.mk hg0
      clear hcl hrow hg0
      go_wp2_with fail
      refine HD.out.mono ?_
      rintro e w2 ⟨rfl, hr2, hk2⟩
      go_wp2
      go_ret
      have hB : Below w.heap.size w1 w2 := hk2.below (by have := HG.out; omega) (by have := HLT.out; omega)
      refine ⟨_, rfl, ?_, HB1.out.trans hB⟩
      have := hr2.R (base := w.heap.size) (by have := HG.out; omega) (keptF (hasName l1) l0).length (Nat.le_refl _)
      rw [List.take_length] at this
      exact this
  · exact absurd h (by simp)
end Go.Proofs.YtepljhleaohbcaaGreatDoor.P
