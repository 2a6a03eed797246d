/- strconv.Atoi: the number of a text, and an error or none. -/
import Derived.Test.YteggopolokblhaaDoorFTab
import Derived.Test.YteggopolokblhaaDoorShelf
import Derived.Test.YteggopolokblhaaDoorFBytes
import Derived.Shelf.Strconv.AtoiAll
import Derived.Shelf.Strconv.ErrVarAll
import Derived.Lib.AtoiAllCases
set_option linter.unusedVariables false
set_option linter.unusedSimpArgs false
namespace Go.Proofs.YteggopolokblhaaDoor.P
open Go.RowKit Go.Proofs.YteggopolokblhaaDoorW.PrintWords Go.Proofs.YteggopolokblhaaDoorW.PrintLast Go.Proofs.YteggopolokblhaaDoorW.PrintMore

/-- A text's number, as strconv.Atoi hands it back; and did it fail? -/
def atoiN (y : List UInt8) : Int := match Lib.atoiAll y with
  | .ok v => v
  | .range => Lib.atoiSat y
  | _ => 0
def atoiB (y : List UInt8) : Bool := match Lib.atoiAll y with
  | .ok _ => true
  | _ => false
/-- What strconv.Atoi hands back: the number, and an error or none. -/
theorem atoi_calls (s : ByteArray) (hs : s.size ≤ 281474976710656) (w : World) (hT : Tab w) : Calls Tryd.prog 40 #[.string s] w fun e w' => ∃ er : Value, e = .returned (.tuple #[.int .i64 (atoiN s.data.toList), er]) ∧ ((atoiB s.data.toList = true ∧ er = .nilIface) ∨ (atoiB s.data.toList = false ∧ ∃ N, er = .iface 86 (.pointer (some ⟨N, 0, none⟩)))) ∧ Below w.heap.size w w' := by
  cases h : Lib.atoiAll s.data.toList
  · rename_i v
    refine (Any.strconv_Atoi_ok Tryd.laysC172 s (by omega) v h w).mono ?_
    rintro e w' ⟨rfl, hw⟩
    refine ⟨_, by rw [atoiN, h], .inl ⟨by rw [atoiB, h], rfl⟩, ?_⟩
    rcases hw with rfl | ⟨t, rfl⟩
    · exact Below.refl _ _
    · exact bytes_below (Below.refl _ w) (Nat.le_refl _) 5 t
  · obtain ⟨tp, p, hv⟩ := hT.2.2.1
    refine (Any.strconv_Atoi_syntax_var Tryd.laysC172 s hs h tp p w hv).mono ?_
    rintro e w' ⟨N, rfl, _, _, hb⟩
    exact ⟨.iface 86 (.pointer (some ⟨N, 0, none⟩)), by rw [atoiN, h]; rfl, .inr ⟨by rw [atoiB, h], N, rfl⟩, hb⟩
  · obtain ⟨tp, p, hv⟩ := hT.2.2.2
    refine (Any.strconv_Atoi_range_var Tryd.laysC172 s hs h tp p w hv).mono ?_
    rintro e w' ⟨N, rfl, _, _, hb⟩
    exact ⟨.iface 86 (.pointer (some ⟨N, 0, none⟩)), by rw [atoiN, h]; rfl, .inr ⟨by rw [atoiB, h], N, rfl⟩, hb⟩
theorem atoi_bounds (y : List UInt8) (h : atoiB y = true) : -9223372036854775808 ≤ atoiN y ∧ atoiN y ≤ 9223372036854775807 := by
  unfold atoiB at h
  unfold atoiN
  cases e : Lib.atoiAll y
  · exact Lib.atoiAll_bounds e
  · rw [e] at h; exact absurd h (by simp)
  · rw [e] at h; exact absurd h (by simp)
end Go.Proofs.YteggopolokblhaaDoor.P
