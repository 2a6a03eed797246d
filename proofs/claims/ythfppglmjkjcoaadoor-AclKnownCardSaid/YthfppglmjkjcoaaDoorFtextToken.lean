/- text.Token: all bytes are letters, digits or signs, and there is one. -/
import Derived.Test.YthfppglmjkjcoaaDoorFAll
import Derived.Test.YthfppglmjkjcoaaDoorShelf
set_option linter.unusedVariables false
set_option linter.unusedSimpArgs false
namespace Go.Proofs.YthfppglmjkjcoaaDoor.P
open Go.RowKit Go.Proofs.YthfppglmjkjcoaaDoorW.PrintWords Go.Proofs.YthfppglmjkjcoaaDoorW.PrintLast Go.Proofs.YthfppglmjkjcoaaDoorW.PrintMore

def tokSigns : List UInt8 := [33, 35, 36, 37, 38, 39, 42, 43, 45, 46, 94, 95, 96, 124, 126]
/-- May a byte stand in a token? -/
def tokI (c : Int) : Bool := (decide (97 ≤ c) && decide (c ≤ 122)) || (decide (65 ≤ c) && decide (c ≤ 90)) || (decide (48 ≤ c) && decide (c ≤ 57)) || tokSigns.contains c.toNat.toUInt8
def text_Token.f (a0 : ByteArray) : Option Bool := if a0.size ≤ 9223372036854775807 then some (!a0.data.toList.isEmpty && (bytesOf a0).all tokI) else none

theorem tok_low : ∀ n : Fin 256, ((decide ((97 : Int) ≤ Go.bits .or .u8 ((n.val : Nat) : Int) 32) && decide (Go.bits .or .u8 ((n.val : Nat) : Int) 32 ≤ 122)) = ((decide ((97 : Int) ≤ ((n.val : Nat) : Int)) && decide (((n.val : Nat) : Int) ≤ 122)) || (decide ((65 : Int) ≤ ((n.val : Nat) : Int)) && decide (((n.val : Nat) : Int) ≤ 90)))) := by decide +kernel
theorem tok_sign : ∀ n : Fin 256, decide (0 ≤ Lib.indexByte tokSigns ((n.val : Nat) : Int).toNat.toUInt8) = tokSigns.contains ((n.val : Nat) : Int).toNat.toUInt8 := by decide +kernel

theorem bytesOf_range {s : ByteArray} {x : Int} (h : x ∈ bytesOf s) : ∃ n : Fin 256, x = ((n.val : Nat) : Int) := by
  unfold bytesOf at h
  obtain ⟨b, _, rfl⟩ := List.mem_map.1 h
  exact ⟨⟨b.toNat, b.toNat_lt⟩, rfl⟩

set_option maxHeartbeats 1000000 in
theorem tokClosure (x : Int) (hx : ∃ n : Fin 256, x = ((n.val : Nat) : Int)) (W : World) :
    Calls Tryd.prog 37 #[.int .u8 x] W fun e w' => e = .returned (.bool (tokI x)) ∧ w' = W := by
  obtain ⟨n, hn⟩ := hx
  have h1 := tok_low n
  have h2 := tok_sign n
  rw [← hn] at h1 h2
  have hIx : ∀ w, Calls Tryd.prog 38 #[.string ⟨#[33, 35, 36, 37, 38, 39, 42, 43, 45, 46, 94, 95, 96, 124, 126]⟩, .int .u8 x] w fun e w' => e = .returned (.int .i64 (Lib.indexByte tokSigns x.toNat.toUInt8)) ∧ w' = w := fun w => Tryd.strings_IndexByte ⟨#[33, 35, 36, 37, 38, 39, 42, 43, 45, 46, 94, 95, 96, 124, 126]⟩ x w
  have hv : tokI x = ((decide (97 ≤ Go.bits .or .u8 x 32) && decide (Go.bits .or .u8 x 32 ≤ 122)) || (decide (48 ≤ x) && decide (x ≤ 57)) || decide (0 ≤ Lib.indexByte tokSigns x.toNat.toUInt8)) := by
    rw [h1, h2]; unfold tokI; rfl
  rw [hv]
  clear hv h1 h2 hn
  generalize Lib.indexByte tokSigns x.toNat.toUInt8 = ix at hIx ⊢
  have HX := Aside0.mk hIx
  clear hIx
  go_enter Tryd.func37, Tryd.ntmps37
  go_wp2_with (go_at_call 38; refine (HX.out _).mono ?_; rintro e w' ⟨rfl, rfl⟩)
  all_goals go_ret
  all_goals refine ⟨congrArg (fun b => Ending.returned (Value.bool b)) ?_, rfl⟩
  all_goals first | (simp [*]; done) | (rw [Bool.eq_iff_iff]; simp; omega)

theorem tokPred (l : List Int) (hl : ∀ x ∈ l, ∃ n : Fin 256, x = ((n.val : Nat) : Int)) (w : World) : PredOn 37 #[] (.int .u8) tokI l w :=
  fun W x hx _ => (tokClosure x (hl x hx) W).mono fun e w' ⟨he, hw⟩ => ⟨he, by subst hw; exact Below.refl _ _⟩

set_option maxHeartbeats 1000000 in
theorem text_Token.calls (a0 : ByteArray) (r : Bool) (w : World) (h : text_Token.f a0 = some r) :
    Calls Tryd.prog 21 #[.string a0] w fun e w' => e = .returned (.bool r) ∧ Below w.heap.size w w' := by
  unfold text_Token.f at h
  split at h
  · rename_i hs
    have hr := Option.some.inj h
    have hA := all_calls a0 37 #[] (enters_of Tryd.func37 (by kernel_rfl) rfl) tokI w hs (tokPred _ (fun x hx => bytesOf_range hx) w)
    clear h hs
    cases he : a0.data.toList.isEmpty with
    | true =>
      have he' : a0.toList.isEmpty = true := by rw [ByteArray.toList_eq]; exact he
      obtain rfl : r = false := by rw [← hr, he]; rfl
      clear hr hA he
      go_enter Tryd.func21, Tryd.ntmps21
      go_wp2_with fail
      go_ret
      exact ⟨rfl, Below.refl _ _⟩
    | false =>
      have he' : a0.toList.isEmpty = false := by rw [ByteArray.toList_eq]; exact he
      rw [he] at hr
      subst hr
      clear he
      have HA := Aside0.mk hA
      clear hA
      go_enter Tryd.func21, Tryd.ntmps21
      go_wp2_with fail
      refine HA.out.mono ?_
      rintro e w' ⟨rfl, hb⟩
      go_wp2
      go_ret
      exact ⟨rfl, hb⟩
  · exact absurd h (by simp)
end Go.Proofs.YthfppglmjkjcoaaDoor.P
