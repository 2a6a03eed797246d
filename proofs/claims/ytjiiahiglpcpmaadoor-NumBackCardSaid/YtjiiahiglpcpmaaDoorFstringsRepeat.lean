/- strings.Repeat of a text of one byte. -/
import Derived.Test.YtjiiahiglpcpmaaDoorQ0
import Derived.Test.YtjiiahiglpcpmaaDoorShelf
set_option linter.unusedVariables false
set_option linter.unusedSimpArgs false
namespace Go.Proofs.YtjiiahiglpcpmaaDoor.P
open Go.RowKit Go.Proofs.YtjiiahiglpcpmaaDoorW.PrintWords Go.Proofs.YtjiiahiglpcpmaaDoorW.PrintLast Go.Proofs.YtjiiahiglpcpmaaDoorW.PrintMore
def strings_Repeat.f (a0 : ByteArray) (a1 : Int) : Option ByteArray := if a0.size = 1 ∧ 0 ≤ a1 ∧ a1 ≤ 1048576 then some ⟨(Lib.repeatL a0.data.toList a1.toNat).toArray⟩ else none
theorem strings_Repeat.calls (a0 : ByteArray) (a1 : Int) (r : ByteArray) (w : World) (h : strings_Repeat.f a0 a1 = some r) :
    Calls Tryd.prog 17 #[.string a0, .int .i64 a1] w fun e w' => e = .returned (.string r) ∧ Below w.heap.size w w' := by
  unfold strings_Repeat.f at h
  split at h
  · rename_i hc
    obtain ⟨h1, h0, hl⟩ := hc
    obtain ⟨c, rfl⟩ : ∃ c : Nat, a1 = c := ⟨a1.toNat, by omega⟩
    rw [Int.toNat_natCast] at h
    have hr := Option.some.inj h
    subst hr
    rcases Nat.lt_or_ge c 2 with h2 | h2
    · obtain rfl | rfl : c = 0 ∨ c = 1 := by omega
      · exact (Tryd.strings_Repeat_zero a0 w).mono fun e w' ⟨he, hw⟩ => ⟨he, by subst hw; exact Below.refl _ _⟩
      · refine (Tryd.strings_Repeat_one a0 w).mono fun e w' ⟨he, hw⟩ => ⟨he.trans ?_, by subst hw; exact Below.refl _ _⟩
        congr 2
        show a0 = ⟨(a0.data.toList ++ []).toArray⟩
        rw [List.append_nil]
    · exact Tryd.strings_Repeat_main a0 c w h2 (by omega) (by rw [h1]; omega) (by omega)
  · exact absurd h (by simp)
end Go.Proofs.YtjiiahiglpcpmaaDoor.P
