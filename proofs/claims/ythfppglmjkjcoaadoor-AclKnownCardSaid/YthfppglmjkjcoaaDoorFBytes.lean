/- slices.ContainsFunc over bytes, for every predicate that answers at the slice's bytes. -/
import Derived.Test.YthfppglmjkjcoaaDoorFBytesI
set_option linter.unusedVariables false
set_option linter.unusedSimpArgs false
namespace Go.Proofs.YthfppglmjkjcoaaDoor.P
open Go.RowKit Go.Proofs.YthfppglmjkjcoaaDoorW.PrintWords Go.Proofs.YthfppglmjkjcoaaDoorW.PrintLast Go.Proofs.YthfppglmjkjcoaaDoorW.PrintMore

theorem containsBytes (A : Option Addr) (c : Nat) (l : List Int) (g : Nat) (lb : Array Value) (eg : ∀ args w, (callFunc g args).run Tryd.prog w = .ok (.enter g args) w) (p : Int → Bool) (w : World)
    (hr : Kd.C (Kd.int .u8) w A l.length l) (hp : PredOn g lb (.int .u8) p l w) :
    Calls Tryd.prog 47 #[.slice A l.length c, .func (.func g) #[] lb] w fun e w' => e = .returned (.bool (l.any p)) ∧ Below w.heap.size w w' := by
  go_enter Tryd.func47, Tryd.ntmps47
  go_wp2_with fail
  refine (indexBytes A c l g lb eg p w hr hp).mono ?_
  rintro e w' ⟨i, rfl, hi, hb⟩
  go_wp2
  go_ret
  refine ⟨?_, hb⟩
  rw [← hi.out]
  rfl
end Go.Proofs.YthfppglmjkjcoaaDoor.P
