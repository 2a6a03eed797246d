/- slices.ContainsFunc over strings, for every predicate that answers at the slice's bytes. -/
import Derived.Test.YthfppglmjkjcoaaDoorFStrsI
set_option linter.unusedVariables false
set_option linter.unusedSimpArgs false
namespace Go.Proofs.YthfppglmjkjcoaaDoor.P
open Go.RowKit Go.Proofs.YthfppglmjkjcoaaDoorW.PrintWords Go.Proofs.YthfppglmjkjcoaaDoorW.PrintLast Go.Proofs.YthfppglmjkjcoaaDoorW.PrintMore

theorem containsStrs (A : Option Addr) (c : Nat) (l : List ByteArray) (g : Nat) (lb : Array Value) (eg : ∀ args w, (callFunc g args).run Tryd.prog w = .ok (.enter g args) w) (p : ByteArray → Bool) (w : World)
    (hr : Kd.C Kd.string w A l.length l) (hp : PredOnS g lb Value.string p l w) :
    Calls Tryd.prog 19 #[.slice A l.length c, .func (.func g) #[] lb] w fun e w' => e = .returned (.bool (l.any p)) ∧ Below w.heap.size w w' := by
  go_enter Tryd.func19, Tryd.ntmps19
  go_wp2_with fail
  refine (indexStrs A c l g lb eg p w hr hp).mono ?_
  rintro e w' ⟨i, rfl, hi, hb⟩
  go_wp2
  go_ret
  refine ⟨?_, hb⟩
  rw [← hi.out.sign]
  rfl
end Go.Proofs.YthfppglmjkjcoaaDoor.P
