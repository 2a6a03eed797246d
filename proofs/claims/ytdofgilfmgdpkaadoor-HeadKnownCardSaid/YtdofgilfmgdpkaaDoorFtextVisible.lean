/- text.Visible: all bytes may be shown. -/
import Derived.Test.YtdofgilfmgdpkaaDoorFAll
set_option linter.unusedVariables false
set_option linter.unusedSimpArgs false
namespace Go.Proofs.YtdofgilfmgdpkaaDoor.P
open Go.RowKit Go.Proofs.YtdofgilfmgdpkaaDoorW.PrintWords Go.Proofs.YtdofgilfmgdpkaaDoorW.PrintLast Go.Proofs.YtdofgilfmgdpkaaDoorW.PrintMore

/-- May a byte be shown? -/
def shownI (c : Int) : Bool := decide (c = 9) || (decide (32 ≤ c) && !decide (c = 127))
def text_Visible.f (a0 : ByteArray) : Option Bool := if a0.size ≤ 9223372036854775807 then some ((bytesOf a0).all shownI) else none

set_option maxHeartbeats 1000000 in
theorem shownClosure (x : Int) (W : World) :
    Calls Tryd.prog 50 #[.int .u8 x] W fun e w' => e = .returned (.bool (shownI x)) ∧ w' = W := by
  unfold shownI
  go_enter Tryd.func50, Tryd.ntmps50
  go_wp2
  all_goals go_ret
  all_goals refine ⟨congrArg (fun b => Ending.returned (Value.bool b)) ?_, rfl⟩
  all_goals first | (simp [*]; done) | (rw [Bool.eq_iff_iff]; simp [*]; done) | (rw [Bool.eq_iff_iff]; simp; omega)

theorem shownPred (l : List Int) (w : World) : PredOn 50 #[] (.int .u8) shownI l w :=
  fun W x _ _ => (shownClosure x W).mono fun e w' ⟨he, hw⟩ => ⟨he, by subst hw; exact Below.refl _ _⟩

set_option maxHeartbeats 1000000 in
theorem text_Visible.calls (a0 : ByteArray) (r : Bool) (w : World) (h : text_Visible.f a0 = some r) :
    Calls Tryd.prog 26 #[.string a0] w fun e w' => e = .returned (.bool r) ∧ Below w.heap.size w w' := by
  unfold text_Visible.f at h
  split at h
  · rename_i hs
    have hA := all_calls a0 50 #[] (enters_of Tryd.func50 (by kernel_rfl) rfl) shownI w hs (shownPred _ w)
    rw [Option.some.inj h] at hA
    have HA := Aside0.mk hA
    clear h hs hA
    go_enter Tryd.func26, Tryd.ntmps26
    go_wp2_with fail
    refine HA.out.mono ?_
    rintro e w' ⟨rfl, hb⟩
    go_wp2
    go_ret
    exact ⟨rfl, hb⟩
  · exact absurd h (by simp)
end Go.Proofs.YtdofgilfmgdpkaaDoor.P
