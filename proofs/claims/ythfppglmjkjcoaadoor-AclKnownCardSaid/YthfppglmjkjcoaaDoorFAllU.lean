/- uri.all, for every predicate. -/
import Derived.Test.YthfppglmjkjcoaaDoorFBytes
import Derived.Test.YthfppglmjkjcoaaDoorFReadsB
import Derived.Shelf.Abstract
set_option linter.unusedVariables false
set_option linter.unusedSimpArgs false
namespace Go.Proofs.YthfppglmjkjcoaaDoor.P
open Go.RowKit Go.Proofs.YthfppglmjkjcoaaDoorW.PrintWords Go.Proofs.YthfppglmjkjcoaaDoorW.PrintLast Go.Proofs.YthfppglmjkjcoaaDoorW.PrintMore

theorem any_notU (l : List Int) (p : Int → Bool) : (!(l.any fun x => !p x)) = l.all p := by
  induction l with
  | nil => rfl
  | cons x r ih => simp only [List.any_cons, List.all_cons, Bool.not_or, Bool.not_not, ih]

set_option maxHeartbeats 1000000 in
theorem notClosureU (B g : Nat) (lb : Array Value) (eg : ∀ args w, (callFunc g args).run Tryd.prog w = .ok (.enter g args) w) (p : Int → Bool) (x : Int) (W : World)
    (hc : W.cell? ⟨B, 0, none⟩ = some (.func (.func g) #[] lb))
    (hp : Calls Tryd.prog g (#[.int .u8 x] ++ lb) W fun e w' => e = .returned (.bool (p x)) ∧ Below W.heap.size W w') :
    Calls Tryd.prog 48 (#[.int .u8 x] ++ #[.pointer (some ⟨B, 0, none⟩)]) W fun e w' => e = .returned (.bool (!p x)) ∧ Below W.heap.size W w' := by
  go_enter Tryd.func48, Tryd.ntmps48
  go_wp2_with fail
  refine hp.mono ?_
  rintro e w' ⟨rfl, hb⟩
  go_wp2
  go_ret
  exact ⟨rfl, hb⟩

set_option maxHeartbeats 1000000 in
theorem allU_calls (s : ByteArray) (g : Nat) (lb : Array Value) (eg : ∀ args w, (callFunc g args).run Tryd.prog w = .ok (.enter g args) w) (p : Int → Bool) (w : World) (hs : s.size ≤ 9223372036854775807)
    (hp : PredOn g lb (.int .u8) p (bytesOf s) w) :
    Calls Tryd.prog 29 #[.string s, .func (.func g) #[] lb] w fun e w' => e = .returned (.bool ((bytesOf s).all p)) ∧ Below w.heap.size w w' := by
  have kc := fun W => Lib.run_convert_string_bytes (P := Tryd.prog) W 9 52 5 s Tryd.underlying9 Tryd.underlying52 Tryd.underlying5
  have hmf : ∀ (fn : Fn) (first cap : Array Value) (w : World), (Instr.makeFunc fn first cap).run Tryd.prog w = .ok (.func fn first cap) w := fun _ _ _ _ => rfl
  have e57 : ∀ args w, (callFunc 48 args).run Tryd.prog w = .ok (.enter 48 args) w := enters_of Tryd.func48 (by kernel_rfl) rfl
  have hsz : ∀ o : Obj, (w.alloc o).heap.size = w.heap.size + 1 := fun o => by simp
  have hr := reads_bytes (w.alloc (.cells #[.func (.func g) #[] lb] 42)) s hs
  rw [hsz] at hr
  have hB1 : Below w.heap.size w (Lib.bytesWorld (w.alloc (.cells #[.func (.func g) #[] lb] 42)) 5 s) := bytes_below ((Below.refl _ w).alloc (Nat.le_refl _) _) (by simp) 5 s
  have hcell : (Lib.bytesWorld (w.alloc (.cells #[.func (.func g) #[] lb] 42)) 5 s).cell? ⟨w.heap.size, 0, none⟩ = some (.func (.func g) #[] lb) := by
    rw [Lib.bytesWorld_old _ _ _ _ (by simp)]
    exact (blk_cell (blk_new w _) 0).trans rfl
  have hC := containsBytes (some ⟨w.heap.size + 1, 0, none⟩) (grownCap (w.alloc (.cells #[.func (.func g) #[] lb] 42)) s.size 0 5) (bytesOf s) 48 #[.pointer (some ⟨w.heap.size, 0, none⟩)] e57 (fun x => !p x) _ hr
    (fun W x hx hb => (notClosureU w.heap.size g lb eg p x W ((hb.cell (p := ⟨w.heap.size, 0, none⟩) (by rw [Lib.bytesWorld_size]; simp; omega)).trans hcell) (hp W x hx (hB1.trans (hb.mono hB1.size)))))
  rw [bytesOf_length] at hC
  have HB1 := Aside0.mk hB1
  have HC := Aside0.mk hC
  clear hC hr hB1 hcell hsz hp eg
  go_enter Tryd.func29, Tryd.ntmps29
  go_wp2_with fail
  refine HC.out.mono ?_
  rintro e w' ⟨rfl, hb⟩
  go_wp2
  go_ret
  refine ⟨?_, HB1.out.trans (hb.mono HB1.out.size)⟩
  rw [← any_notU]
  rfl
end Go.Proofs.YthfppglmjkjcoaaDoor.P
