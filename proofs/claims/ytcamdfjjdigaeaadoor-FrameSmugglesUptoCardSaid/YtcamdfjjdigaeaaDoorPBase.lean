/- Plain laws: Lower, Same. -/
import Derived.Test.YtcamdfjjdigaeaaDoorQtextSame
import Derived.Test.YtcamdfjjdigaeaaDoorFSame
set_option linter.unusedVariables false
set_option linter.unusedSimpArgs false
namespace Go.Proofs.YtcamdfjjdigaeaaDoor.P
open Go.RowKit Go.Proofs.YtcamdfjjdigaeaaDoorW.PrintWords Go.Proofs.YtcamdfjjdigaeaaDoorW.PrintLast Go.Proofs.YtcamdfjjdigaeaaDoorW.PrintMore

theorem more_rounds {α : Type} {f : Nat → Option α} (h : ∀ k, LeO (f k) (f (k + 1))) {k k' : Nat} {r : α} (hk : k ≤ k') (hr : f k = some r) : f k' = some r := by
  induction hk with
  | refl => exact hr
  | step _ ih => exact h _ _ ih

theorem lower_ok (a : ByteArray) (h : a.size ≤ 9223372036854775807) : text_Lower.f a = some (lowB a) := by unfold text_Lower.f; rw [if_pos h]
instance : DecidableEq ByteArray := fun a b => decidable_of_iff (a.data = b.data) ⟨fun h => by cases a; cases b; congr 1, fun h => by rw [h]⟩
instance : DecidableEq S34 := fun x y => decidable_of_iff (x.f0 = y.f0 ∧ x.f1 = y.f1) ⟨fun h => by cases x; cases y; simp_all, fun h => by rw [h]; exact ⟨rfl, rfl⟩⟩
theorem lowB_size (a : ByteArray) : (lowB a).size = a.size := by
  show (List.toArray (a.data.toList.map lowU)).size = a.data.size
  rw [List.size_toArray, List.length_map, Array.length_toList]
theorem lowU_idem_fin : ∀ n : Fin 256, lowU (lowU (UInt8.ofNat n.val)) = lowU (UInt8.ofNat n.val) := by decide +kernel
theorem lowU_idem (c : UInt8) : lowU (lowU c) = lowU c := by
  have := lowU_idem_fin ⟨c.toNat, c.toNat_lt⟩
  simpa using this
theorem lowB_idem (a : ByteArray) : lowB (lowB a) = lowB a := by
  unfold lowB
  simp [List.map_map, Function.comp_def, lowU_idem]
theorem sameB_eq (a b : ByteArray) : sameB a b = decide (lowB a = lowB b) := by
  unfold sameB
  rw [Bool.eq_iff_iff, beq_iff_eq, decide_eq_true_eq]
  constructor
  · intro h
    cases ha : lowB a; cases hb : lowB b
    rw [ha, hb] at h
    have h : _ = _ := h
    congr 1
    exact Array.toList_inj.1 h
  · intro h; rw [h]
theorem sameB_iff {a b : ByteArray} : sameB a b = true ↔ lowB a = lowB b := by rw [sameB_eq, decide_eq_true_eq]
theorem sameB_refl (a : ByteArray) : sameB a a = true := sameB_iff.2 rfl
theorem sameB_low (a b : ByteArray) : sameB a (lowB b) = sameB a b := by rw [Bool.eq_iff_iff, sameB_iff, sameB_iff, lowB_idem]
theorem textSame_ok (a b : ByteArray) (ha : a.size ≤ 9223372036854775807) (hb : b.size ≤ 9223372036854775807) : text_Same.f a b = some (sameB a b) := by
  unfold text_Same.f
  rw [lower_ok a ha, lower_ok b hb]
  simp only [Option.bind_some, ByteArray.toList_eq]
  rfl

end Go.Proofs.YtcamdfjjdigaeaaDoor.P
