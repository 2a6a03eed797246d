/- strconv.Itoa: a whole number's numeral. -/
import Derived.Test.YteggopolokblhaaDoorFTab
import Derived.Test.YteggopolokblhaaDoorShelf
import Derived.Lib.AppendIntMem
set_option linter.unusedVariables false
set_option linter.unusedSimpArgs false
namespace Go.Proofs.YteggopolokblhaaDoor.P
open Go.RowKit Go.Sort Go.Proofs.YteggopolokblhaaDoorW.PrintWords Go.Proofs.YteggopolokblhaaDoorW.PrintLast Go.Proofs.YteggopolokblhaaDoorW.PrintMore
def itoaS.f (a0 : Int) : Option ByteArray := if -9223372036854775808 ≤ a0 ∧ a0 ≤ 9223372036854775807 then some ⟨(Lib.itoa a0).toArray⟩ else none
theorem itoaS.calls (a0 : Int) (r : ByteArray) (w : World) (hT : Tab w) (h : itoaS.f a0 = some r) :
    Calls Tryd.prog 30 #[.int .i64 a0] w fun e w' => e = .returned (.string r) ∧ Below w.heap.size w w' := by
  unfold itoaS.f at h
  split at h
  · rename_i hc
    refine (Tryd.strconv_Itoa a0 hc.1 hc.2 w hT.1).mono ?_
    rintro e w' ⟨rfl, k, os, rfl⟩
    rw [← Option.some.inj h]
    exact ⟨rfl, Lib.below_grow _ w (Nat.le_refl _) k os⟩
  · exact absurd h (by simp)
end Go.Proofs.YteggopolokblhaaDoor.P
