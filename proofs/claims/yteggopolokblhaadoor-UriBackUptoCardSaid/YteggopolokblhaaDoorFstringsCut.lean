/- strings.Cut at a separator of one byte. -/
import Derived.Test.YteggopolokblhaaDoorFTab
import Derived.Test.YteggopolokblhaaDoorShelf
import Derived.Test.YteggopolokblhaaDoorPCut
set_option linter.unusedVariables false
set_option linter.unusedSimpArgs false
namespace Go.Proofs.YteggopolokblhaaDoor.P
open Go.RowKit Go.Proofs.YteggopolokblhaaDoorW.PrintWords Go.Proofs.YteggopolokblhaaDoorW.PrintLast Go.Proofs.YteggopolokblhaaDoorW.PrintMore

def strings_Cut.f (a0 a1 : ByteArray) : Option (ByteArray × ByteArray × Bool) := if a0.size ≤ 1073741824 ∧ a1.size = 1 then some (⟨(cut1 (a1.get! 0) a0.data.toList).1.toArray⟩, ⟨(cut1 (a1.get! 0) a0.data.toList).2.1.toArray⟩, (cut1 (a1.get! 0) a0.data.toList).2.2) else none
theorem strings_Cut.calls (a0 a1 r1 r2 : ByteArray) (r3 : Bool) (w : World) (hT : Tab w) (h : strings_Cut.f a0 a1 = some (r1, r2, r3)) :
    Calls Tryd.prog 20 #[.string a0, .string a1] w fun e w' => e = .returned (.tuple #[.string r1, .string r2, .bool r3]) ∧ Below w.heap.size w w' := by
  unfold strings_Cut.f at h
  split at h
  · rename_i hc
    obtain ⟨c, rfl⟩ := Lib.one_byte a1 hc.2
    have hr := Option.some.inj h
    have e0 : (⟨#[c]⟩ : ByteArray).get! 0 = c := rfl
    rw [e0, Prod.mk.injEq, Prod.mk.injEq] at hr
    obtain ⟨m, hm⟩ := hT.2.1
    refine (Tryd.strings_Cut a0 ⟨#[c]⟩ m w (by omega) hm).mono ?_
    rintro e w' ⟨rfl, n, rfl⟩
    have e1 : Lib.cut a0.data.toList (⟨#[c]⟩ : ByteArray).data.toList = cut1 c a0.data.toList := cut_one c _
    rw [e1, hr.1, hr.2.1, hr.2.2]
    exact ⟨rfl, pw_below_drewN (Below.refl _ _) _⟩
  · exact absurd h (by simp)
end Go.Proofs.YteggopolokblhaaDoor.P
