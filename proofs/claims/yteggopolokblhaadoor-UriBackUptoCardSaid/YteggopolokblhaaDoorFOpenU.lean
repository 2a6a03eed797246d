/- What the claim's readings of a URL say, as the walks ask it. -/
import Derived.Test.YteggopolokblhaaDoorQ0
import Derived.Test.YteggopolokblhaaDoorRows
import Derived.Deep.Strs
import Derived.OpenShut
import Derived.ChangeOld
set_option linter.unusedVariables false
set_option linter.unusedSimpArgs false
set_option maxRecDepth 100000
namespace Go.Proofs.YteggopolokblhaaDoor.P
open Go.RowKit Go.Proofs.YteggopolokblhaaDoorW.PrintWords Go.Proofs.YteggopolokblhaaDoorW.PrintLast Go.Proofs.YteggopolokblhaaDoorW.PrintMore Go.ChangeShapes Go.WideShapes Go.Deep
open Go.ChangeMaps (open_string shut_string)

theorem url_cells : Tryd.prog.cellsOf 23 = 3 ∧ Tryd.prog.cellsOf 9 = 1 ∧ Tryd.prog.cellsOf 3 = 1 := ⟨by kernel_rfl, by kernel_rfl, by kernel_rfl⟩
theorem url_weights {H : Type} (a : List UInt8) (p : Int) (b : List UInt8) : a.length ∈ (DataW.agg [.lit (.string a), .lit (.int .i64 p), .lit (.string b)] : DataW H).weights Tryd.prog 23 ∧ b.length ∈ (DataW.agg [.lit (.string a), .lit (.int .i64 p), .lit (.string b)] : DataW H).weights Tryd.prog 23 := by
  simp [DataW.weights, DataW.weightsEach, Tryd.underlying23]
theorem open_url {H : Type} {enc : TypeId × Value → H} {W : World} {base b0 : Nat} {rc : Reach} {sp : Nat → Bool} {hd : Bool} {v : Value} {d : DataW H} {ps : List MemPlace}
    (hval : Value.okWide Tryd.prog W rc b0 23 v) (h : DataW.Trod enc Tryd.prog W base sp hd 23 v d ps) :
    ∃ (s0 : ByteArray) (p : Int) (s1 : ByteArray), v = .agg #[.string s0, .int .i64 p, .string s1] ∧ d = .agg [.lit (.string s0.data.toList), .lit (.int .i64 p), .lit (.string s1.data.toList)] ∧ ps = [] ∧ s0.size ≤ maxLen ∧ (Lit.int .i64 p).wf = true ∧ s1.size ≤ maxLen := by
  obtain ⟨cs, rfl, hsz⟩ := okWide_struct Tryd.underlying23 hval
  obtain ⟨fuel, hf⟩ := h
  obtain ⟨y0, y1, y2, n, hx, hl, t0, t1, t2⟩ := trod_struct3 Tryd.underlying23 hf
  rw [url_cells.1] at hsz
  have hc : (Value.agg cs).cells.toList = cs.toList := rfl
  rw [hc] at t0 t1 t2
  have hlen : cs.toList.length = 3 := by rw [Array.length_toList]; exact hsz
  obtain ⟨c0, c1, c2, hcs⟩ : ∃ c0 c1 c2, cs.toList = [c0, c1, c2] := by
    match hq : cs.toList, hlen with
    | [c0, c1, c2], _ => exact ⟨c0, c1, c2, rfl⟩
  rw [hcs] at t0 t1 t2
  obtain ⟨s0, a1, a2, a3⟩ := DataW.trod_string Tryd.underlying9 t0
  obtain ⟨p, i1, i2, i3⟩ := DataW.trod_int Tryd.underlying3 t1
  obtain ⟨s1, b1, b2, b3⟩ := DataW.trod_string Tryd.underlying9 t2
  simp only [url_cells.2.1, url_cells.2.2] at a1 b1 i1
  have e0 : c0 = .string s0 := by simpa using a1
  have e1 : c1 = .int .i64 p := by simpa using i1
  have e2 : c2 = .string s1 := by simpa using b1
  subst e0 e1 e2
  have hcs' : cs = #[.string s0, .int .i64 p, .string s1] := Array.toList_inj.1 hcs
  subst hcs'
  rw [a2, b2, i2] at hx
  exact ⟨s0, p, s1, rfl, (Prod.mk.inj hx).1, (Prod.mk.inj hx).2, a3, i3, b3⟩
theorem shut_url {H : Type} {enc : TypeId × Value → H} {W : World} {base : Nat} {sp : Nat → Bool} {hd : Bool} {s0 s1 : ByteArray} {p : Int} (h0 : s0.size ≤ maxLen) (hp : (Lit.int .i64 p).wf = true) (h1 : s1.size ≤ maxLen) :
    DataW.Trod enc Tryd.prog W base sp hd 23 (.agg #[.string s0, .int .i64 p, .string s1]) (.agg [.lit (.string s0.data.toList), .lit (.int .i64 p), .lit (.string s1.data.toList)]) [] := by
  refine ⟨2, ?_⟩
  have := trod_struct3_mk (enc := enc) (P := Tryd.prog) (w := W) (base := base) (spare := sp) (held := hd) (n := 1) (cs := [.string s0, .int .i64 p, .string s1]) (y0 := (.lit (.string s0.data.toList), [])) (y1 := (.lit (.int .i64 p), [])) (y2 := (.lit (.string s1.data.toList), [])) Tryd.underlying23 (by rw [url_cells.1]; rfl)
    (by simp [DataW.trod, url_cells.2.1, Tryd.underlying9, h0]) (by simp [DataW.trod, url_cells.2.2, Tryd.underlying3, hp]) (by simp [DataW.trod, url_cells.2.1, Tryd.underlying9, h1])
  exact this
end Go.Proofs.YteggopolokblhaaDoor.P
