/- What uri's functions hand on: which bytes of labels and numbers are right. -/
import Derived.Test.YthfppglmjkjcoaaDoorFAllU
import Derived.Test.YthfppglmjkjcoaaDoorShelf
set_option linter.unusedVariables false
set_option linter.unusedSimpArgs false
namespace Go.Proofs.YthfppglmjkjcoaaDoor.P
open Go.RowKit Go.Proofs.YthfppglmjkjcoaaDoorW.PrintWords Go.Proofs.YthfppglmjkjcoaaDoorW.PrintLast Go.Proofs.YthfppglmjkjcoaaDoorW.PrintMore

/-- A small letter, or a digit? -/
def plainI (c : Int) : Bool := (decide (97 ≤ c) && decide (c ≤ 122)) || (decide (48 ≤ c) && decide (c ≤ 57))
/-- A byte of a label? -/
def labelI (c : Int) : Bool := plainI c || decide (c = 45)
def digitI (c : Int) : Bool := decide (48 ≤ c) && decide (c ≤ 57)
def hexSigns : List UInt8 := [48, 49, 50, 51, 52, 53, 54, 55, 56, 57, 97, 98, 99, 100, 101, 102, 65, 66, 67, 68, 69, 70]
def hexI (c : Int) : Bool := decide (0 ≤ Lib.indexByte hexSigns c.toNat.toUInt8)
set_option maxHeartbeats 1000000 in
theorem plainClosure (x : Int) (W : World) : Calls Tryd.prog 31 #[.int .u8 x] W fun e w' => e = .returned (.bool (plainI x)) ∧ w' = W := by
  unfold plainI
  go_enter Tryd.func31, Tryd.ntmps31
  go_wp2
  all_goals go_ret
  all_goals refine ⟨congrArg (fun b => Ending.returned (Value.bool b)) ?_, rfl⟩
  all_goals first | (simp [*]; done) | (rw [Bool.eq_iff_iff]; simp [*]; done) | (rw [Bool.eq_iff_iff]; simp; omega)
set_option maxHeartbeats 1000000 in
theorem labelClosure (x : Int) (W : World) : Calls Tryd.prog 30 #[.int .u8 x] W fun e w' => e = .returned (.bool (labelI x)) ∧ w' = W := by
  have HP := Aside0.mk (plainClosure x)
  unfold labelI
  generalize plainI x = p at HP ⊢
  go_enter Tryd.func30, Tryd.ntmps30
  go_wp2_with (go_at_call 31; refine (HP.out _).mono ?_; rintro e w' ⟨rfl, rfl⟩)
  all_goals go_ret
  all_goals refine ⟨congrArg (fun b => Ending.returned (Value.bool b)) ?_, rfl⟩
  all_goals first | rfl | (simp [*]; done) | (rw [Bool.eq_iff_iff]; simp [*]; done)
set_option maxHeartbeats 1000000 in
theorem digitClosure (x : Int) (W : World) : Calls Tryd.prog 51 #[.int .u8 x] W fun e w' => e = .returned (.bool (digitI x)) ∧ w' = W := by
  unfold digitI
  go_enter Tryd.func51, Tryd.ntmps51
  go_wp2
  all_goals go_ret
  all_goals refine ⟨congrArg (fun b => Ending.returned (Value.bool b)) ?_, rfl⟩
  all_goals first | rfl | (simp [*]; done) | (rw [Bool.eq_iff_iff]; simp [*]; done) | (rw [Bool.eq_iff_iff]; simp; omega)
set_option maxHeartbeats 1000000 in
theorem hexClosure (x : Int) (W : World) : Calls Tryd.prog 50 #[.int .u8 x] W fun e w' => e = .returned (.bool (hexI x)) ∧ w' = W := by
  have hIx : ∀ w, Calls Tryd.prog 38 #[.string ⟨#[48, 49, 50, 51, 52, 53, 54, 55, 56, 57, 97, 98, 99, 100, 101, 102, 65, 66, 67, 68, 69, 70]⟩, .int .u8 x] w fun e w' => e = .returned (.int .i64 (Lib.indexByte hexSigns x.toNat.toUInt8)) ∧ w' = w := fun w => Tryd.strings_IndexByte ⟨#[48, 49, 50, 51, 52, 53, 54, 55, 56, 57, 97, 98, 99, 100, 101, 102, 65, 66, 67, 68, 69, 70]⟩ x w
  unfold hexI
  generalize Lib.indexByte hexSigns x.toNat.toUInt8 = ix at hIx ⊢
  have HX := Aside0.mk hIx
  clear hIx
  go_enter Tryd.func50, Tryd.ntmps50
  go_wp2_with (go_at_call 38; refine (HX.out _).mono ?_; rintro e w' ⟨rfl, rfl⟩)
  all_goals go_ret
  all_goals refine ⟨congrArg (fun b => Ending.returned (Value.bool b)) ?_, rfl⟩
  all_goals first | rfl | (simp [*]; done) | (rw [Bool.eq_iff_iff]; simp; omega)
theorem pred_of (g : Nat) (p : Int → Bool) (h : ∀ x W, Calls Tryd.prog g #[.int .u8 x] W fun e w' => e = .returned (.bool (p x)) ∧ w' = W) (l : List Int) (w : World) : PredOn g #[] (.int .u8) p l w :=
  fun W x _ _ => (h x W).mono fun e w' ⟨he, hw⟩ => ⟨he, by subst hw; exact Below.refl _ _⟩
def uri_all_uri_Named_1.f (a0 : ByteArray) : Option (Bool) := if a0.size ≤ 9223372036854775807 then some ((bytesOf a0).all labelI) else none
theorem uri_all_uri_Named_1.calls (a0 : ByteArray) (r : Bool) (w : World) (h : uri_all_uri_Named_1.f a0 = some r) :
    Calls Tryd.prog 29 #[.string a0, .func (.func 30) #[] #[]] w fun e w' => e = .returned (.bool r) ∧ Below w.heap.size w w' := by
  unfold uri_all_uri_Named_1.f at h
  split at h
  · rename_i hs
    rw [← Option.some.inj h]
    exact allU_calls a0 30 #[] (enters_of Tryd.func30 (by kernel_rfl) rfl) labelI w hs (pred_of _ _ labelClosure _ w)
  · exact absurd h (by simp)
def uri_all_uri_numeric_1.f (a0 : ByteArray) : Option (Bool) := if a0.size ≤ 9223372036854775807 then some ((bytesOf a0).all hexI) else none
theorem uri_all_uri_numeric_1.calls (a0 : ByteArray) (r : Bool) (w : World) (h : uri_all_uri_numeric_1.f a0 = some r) :
    Calls Tryd.prog 29 #[.string a0, .func (.func 50) #[] #[]] w fun e w' => e = .returned (.bool r) ∧ Below w.heap.size w w' := by
  unfold uri_all_uri_numeric_1.f at h
  split at h
  · rename_i hs
    rw [← Option.some.inj h]
    exact allU_calls a0 50 #[] (enters_of Tryd.func50 (by kernel_rfl) rfl) hexI w hs (pred_of _ _ hexClosure _ w)
  · exact absurd h (by simp)
def uri_all_uri_numeric_2.f (a0 : ByteArray) : Option (Bool) := if a0.size ≤ 9223372036854775807 then some ((bytesOf a0).all digitI) else none
theorem uri_all_uri_numeric_2.calls (a0 : ByteArray) (r : Bool) (w : World) (h : uri_all_uri_numeric_2.f a0 = some r) :
    Calls Tryd.prog 29 #[.string a0, .func (.func 51) #[] #[]] w fun e w' => e = .returned (.bool r) ∧ Below w.heap.size w w' := by
  unfold uri_all_uri_numeric_2.f at h
  split at h
  · rename_i hs
    rw [← Option.some.inj h]
    exact allU_calls a0 51 #[] (enters_of Tryd.func51 (by kernel_rfl) rfl) digitI w hs (pred_of _ _ digitClosure _ w)
  · exact absurd h (by simp)
end Go.Proofs.YthfppglmjkjcoaaDoor.P
