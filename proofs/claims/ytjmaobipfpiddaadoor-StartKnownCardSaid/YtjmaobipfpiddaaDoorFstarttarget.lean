/- start.target: a text that is not empty, of bytes that may stand in a target. -/
import Derived.Test.YtjmaobipfpiddaaDoorFAll
set_option linter.unusedVariables false
set_option linter.unusedSimpArgs false
namespace Go.Proofs.YtjmaobipfpiddaaDoor.P
open Go.RowKit Go.Proofs.YtjmaobipfpiddaaDoorW.PrintWords Go.Proofs.YtjmaobipfpiddaaDoorW.PrintLast Go.Proofs.YtjmaobipfpiddaaDoorW.PrintMore

/-- May a byte not stand in a target? -/
def badI (c : Int) : Bool := decide (c ≤ 32) || decide (127 ≤ c)
def start_target.f (a0 : ByteArray) : Option Bool := if a0.size ≤ 9223372036854775807 then some (!a0.toList.isEmpty && !(bytesOf a0).any badI) else none

set_option maxHeartbeats 1000000 in
theorem badClosure (x : Int) (W : World) :
    Calls Tryd.prog 37 #[.int .u8 x] W fun e w' => e = .returned (.bool (badI x)) ∧ w' = W := by
  unfold badI
  go_enter Tryd.func37, Tryd.ntmps37
  go_wp2
  all_goals go_ret
  all_goals refine ⟨congrArg (fun b => Ending.returned (Value.bool b)) ?_, rfl⟩
  all_goals first | (simp [*]; done) | (rw [Bool.eq_iff_iff]; simp [*]; done) | (rw [Bool.eq_iff_iff]; simp; omega)

set_option maxHeartbeats 1000000 in
theorem start_target.calls (a0 : ByteArray) (r : Bool) (w : World) (h : start_target.f a0 = some r) :
    Calls Tryd.prog 26 #[.string a0] w fun e w' => e = .returned (.bool r) ∧ Below w.heap.size w w' := by
  unfold start_target.f at h
  split at h
  · rename_i hs
    have hr := Option.some.inj h
    have kc := fun W => Lib.run_convert_string_bytes (P := Tryd.prog) W 9 49 5 a0 Tryd.underlying9 Tryd.underlying49 Tryd.underlying5
    have hmf : ∀ (fn : Fn) (first cap : Array Value) (w : World), (Instr.makeFunc fn first cap).run Tryd.prog w = .ok (.func fn first cap) w := fun _ _ _ _ => rfl
    have e57 : ∀ args w, (callFunc 37 args).run Tryd.prog w = .ok (.enter 37 args) w := enters_of Tryd.func37 (by kernel_rfl) rfl
    have hr0 := reads_bytes w a0 hs
    have hB1 : Below w.heap.size w (Lib.bytesWorld w 5 a0) := bytes_below (Below.refl _ w) (Nat.le_refl _) 5 a0
    have hC := containsBytes (some ⟨w.heap.size, 0, none⟩) (grownCap w a0.size 0 5) (bytesOf a0) 37 #[] e57 badI _ hr0
      (fun W x hx hb => (badClosure x W).mono fun e w' ⟨he, hw⟩ => ⟨he, by subst hw; exact Below.refl _ _⟩)
    rw [bytesOf_length] at hC
    have HB1 := Aside0.mk hB1
    have HC := Aside0.mk hC
    have HR := Aside0.mk hr
    clear hC hr0 hB1 hs h hr
    by_cases he : a0.toList = ([] : List UInt8)
    · go_enter Tryd.func26, Tryd.ntmps26
      go_wp2_with fail
      go_ret
      refine ⟨?_, Below.refl _ _⟩
      rw [← HR.out, he]
      rfl
    · go_enter Tryd.func26, Tryd.ntmps26
      go_wp2_with fail
      refine HC.out.mono ?_
      rintro e w' ⟨rfl, hb⟩
      go_wp2
      go_ret
      refine ⟨?_, HB1.out.trans (hb.mono HB1.out.size)⟩
      rw [← HR.out]
      rfl
  · exact absurd h (by simp)
end Go.Proofs.YtjmaobipfpiddaaDoor.P
