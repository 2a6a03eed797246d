/- strings.Count at a text that is not empty. -/
import Derived.Test.YtcamdfjjdigaeaaDoorFTab
import Derived.Test.YtcamdfjjdigaeaaDoorShelf
set_option linter.unusedVariables false
set_option linter.unusedSimpArgs false
namespace Go.Proofs.YtcamdfjjdigaeaaDoor.P
open Go.RowKit Go.Proofs.YtcamdfjjdigaeaaDoorW.PrintWords Go.Proofs.YtcamdfjjdigaeaaDoorW.PrintLast Go.Proofs.YtcamdfjjdigaeaaDoorW.PrintMore
def strings_Count.f (a0 a1 : ByteArray) : Option Int := if a0.size ≤ 1073741824 ∧ 1 ≤ a1.size then some (Lib.countB a0 a1) else none
theorem strings_Count.calls (a0 a1 : ByteArray) (r : Int) (w : World) (hT : Tab w) (h : strings_Count.f a0 a1 = some r) :
    Calls Tryd.prog 18 #[.string a0, .string a1] w fun e w' => e = .returned (.int .i64 r) ∧ Below w.heap.size w w' := by
  unfold strings_Count.f at h
  split at h
  · rename_i hc
    obtain ⟨hs, h1⟩ := hc
    have hr := Option.some.inj h
    subst hr
    obtain ⟨m, hm⟩ := hT
    refine (Tryd.strings_Count_any a0 a1 m w (by omega) hm h1).mono fun e w' ⟨he, hw⟩ => ⟨he, ?_⟩
    subst hw
    exact Below.refl _ _
  · exact absurd h (by simp)
end Go.Proofs.YtcamdfjjdigaeaaDoor.P
