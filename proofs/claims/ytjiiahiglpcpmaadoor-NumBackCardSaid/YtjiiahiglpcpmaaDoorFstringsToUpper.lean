/- strings.ToUpper of texts of ASCII. -/
import Derived.Test.YtjiiahiglpcpmaaDoorQ0
import Derived.Test.YtjiiahiglpcpmaaDoorShelf
set_option linter.unusedVariables false
set_option linter.unusedSimpArgs false
namespace Go.Proofs.YtjiiahiglpcpmaaDoor.P
open Go.RowKit Go.Proofs.YtjiiahiglpcpmaaDoorW.PrintWords Go.Proofs.YtjiiahiglpcpmaaDoorW.PrintLast Go.Proofs.YtjiiahiglpcpmaaDoorW.PrintMore
def strings_ToUpper.f (a0 : ByteArray) : Option ByteArray := if a0.size ≤ 140737488355328 ∧ ∀ b ∈ a0.data.toList, b.toNat < 128 then some ⟨(Lib.toUpperA a0.data.toList).toArray⟩ else none
theorem strings_ToUpper.calls (a0 r : ByteArray) (w : World) (h : strings_ToUpper.f a0 = some r) :
    Calls Tryd.prog 18 #[.string a0] w fun e w' => e = .returned (.string r) ∧ Below w.heap.size w w' := by
  unfold strings_ToUpper.f at h
  split at h
  · rename_i hc
    have hr := Option.some.inj h
    subst hr
    exact Tryd.strings_ToUpper_ascii a0 w hc.1 (fun j b hj => hc.2 b (List.mem_of_getElem? hj))
  · exact absurd h (by simp)
end Go.Proofs.YtjiiahiglpcpmaaDoor.P
