/- strings.ToLower of texts of ASCII. -/
import Derived.Test.YtcamdfjjdigaeaaDoorQ0
import Derived.Test.YtcamdfjjdigaeaaDoorShelf
set_option linter.unusedVariables false
set_option linter.unusedSimpArgs false
namespace Go.Proofs.YtcamdfjjdigaeaaDoor.P
open Go.RowKit Go.Proofs.YtcamdfjjdigaeaaDoorW.PrintWords Go.Proofs.YtcamdfjjdigaeaaDoorW.PrintLast Go.Proofs.YtcamdfjjdigaeaaDoorW.PrintMore
def strings_ToLower.f (a0 : ByteArray) : Option ByteArray := if a0.size ≤ 140737488355328 ∧ ∀ b ∈ a0.data.toList, b.toNat < 128 then some ⟨(Lib.toLowerA a0.data.toList).toArray⟩ else none
theorem strings_ToLower.calls (a0 r : ByteArray) (w : World) (h : strings_ToLower.f a0 = some r) :
    Calls Tryd.prog 19 #[.string a0] w fun e w' => e = .returned (.string r) ∧ Below w.heap.size w w' := by
  unfold strings_ToLower.f at h
  split at h
  · rename_i hc
    have hr := Option.some.inj h
    subst hr
    exact Tryd.strings_ToLower_ascii a0 w hc.1 (fun j b hj => hc.2 b (List.mem_of_getElem? hj))
  · exact absurd h (by simp)
end Go.Proofs.YtcamdfjjdigaeaaDoor.P
