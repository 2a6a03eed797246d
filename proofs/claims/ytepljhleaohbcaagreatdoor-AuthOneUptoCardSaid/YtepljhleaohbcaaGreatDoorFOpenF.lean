/- What the claim's readings of one field say, as the walks ask it. -/
import Derived.Test.YtepljhleaohbcaaGreatDoorFOpen
import Derived.OpenShut
set_option linter.unusedVariables false
set_option linter.unusedSimpArgs false
namespace Go.Proofs.YtepljhleaohbcaaGreatDoor.P
open Go.RowKit Go.Proofs.YtepljhleaohbcaaGreatDoorW.PrintWords Go.Proofs.YtepljhleaohbcaaGreatDoorW.PrintLast Go.Proofs.YtepljhleaohbcaaGreatDoorW.PrintMore Go.ChangeShapes Go.WideShapes Go.Deep
open Go.ChangeMaps (open_string shut_string)

theorem field_cells : Tryz.prog.cellsOf 48 = 2 ∧ Tryz.prog.cellsOf 9 = 1 := ⟨by kernel_rfl, by kernel_rfl⟩
set_option maxRecDepth 100000 in
theorem open_field {H : Type} {enc : TypeId × Value → H} {W : World} {base b0 : Nat} {rc : Reach} {sp : Nat → Bool} {hd : Bool} {v : Value} {d : DataW H} {ps : List MemPlace}
    (hval : Value.okWide Tryz.prog W rc b0 48 v) (h : DataW.Trod enc Tryz.prog W base sp hd 48 v d ps) :
    ∃ s0 s1 : ByteArray, v = .agg #[.string s0, .string s1] ∧ d = .agg [.lit (.string s0.data.toList), .lit (.string s1.data.toList)] ∧ ps = [] ∧ s0.size ≤ maxLen ∧ s1.size ≤ maxLen := by
  obtain ⟨cs, rfl, hsz⟩ := okWide_struct Tryz.underlying48 hval
  obtain ⟨fuel, hf⟩ := h
  obtain ⟨y0, y1, n, hx, hl, t0, t1⟩ := trod_struct2 Tryz.underlying48 hf
  rw [field_cells.1] at hsz
  have hc : (Value.agg cs).cells.toList = cs.toList := rfl
  rw [hc] at t0 t1
  have hlen : cs.toList.length = 2 := by rw [Array.length_toList]; exact hsz
  obtain ⟨c0, c1, hcs⟩ : ∃ c0 c1, cs.toList = [c0, c1] := by
    match hq : cs.toList, hlen with
    | [c0, c1], _ => exact ⟨c0, c1, rfl⟩
  rw [hcs] at t0 t1
  obtain ⟨s0, a1, a2, a3⟩ := DataW.trod_string Tryz.underlying9 t0
  obtain ⟨s1, b1, b2, b3⟩ := DataW.trod_string Tryz.underlying9 t1
  simp only [field_cells.2] at a1 b1
  have e0 : c0 = .string s0 := by simpa using a1
  have e1 : c1 = .string s1 := by simpa using b1
  subst e0 e1
  have hcs' : cs = #[.string s0, .string s1] := Array.toList_inj.1 hcs
  subst hcs'
  rw [a2, b2] at hx
  refine ⟨s0, s1, rfl, (Prod.mk.inj hx).1, (Prod.mk.inj hx).2, a3, b3⟩
theorem shut_field {H : Type} {enc : TypeId × Value → H} {W : World} {base : Nat} {sp : Nat → Bool} {hd : Bool} {s0 s1 : ByteArray} (h0 : s0.size ≤ maxLen) (h1 : s1.size ≤ maxLen) :
    DataW.Trod enc Tryz.prog W base sp hd 48 (.agg #[.string s0, .string s1]) (.agg [.lit (.string s0.data.toList), .lit (.string s1.data.toList)]) [] := by
  refine ⟨2, ?_⟩
  have := trod_struct2_mk (enc := enc) (P := Tryz.prog) (w := W) (base := base) (spare := sp) (held := hd) (n := 1) (cs := [.string s0, .string s1]) (y0 := (.lit (.string s0.data.toList), [])) (y1 := (.lit (.string s1.data.toList), [])) Tryz.underlying48 (by rw [field_cells.1]; rfl)
    (by simp [DataW.trod, field_cells.2, Tryz.underlying9, h0]) (by simp [DataW.trod, field_cells.2, Tryz.underlying9, h1])
  exact this
end Go.Proofs.YtepljhleaohbcaaGreatDoor.P
