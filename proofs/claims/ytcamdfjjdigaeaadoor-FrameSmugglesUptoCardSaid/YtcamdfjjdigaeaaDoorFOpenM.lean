/- What the claim's readings of a message say, as the walks ask it. -/
import Derived.Test.YtcamdfjjdigaeaaDoorFOpen
import Derived.Lib.SmallJoins
set_option linter.unusedVariables false
set_option linter.unusedSimpArgs false
namespace Go.Proofs.YtcamdfjjdigaeaaDoor.P
open Go.RowKit Go.Proofs.YtcamdfjjdigaeaaDoorW.PrintWords Go.Proofs.YtcamdfjjdigaeaaDoorW.PrintLast Go.Proofs.YtcamdfjjdigaeaaDoorW.PrintMore Go.ChangeShapes Go.WideShapes Go.Deep Go.Joins

set_option maxRecDepth 100000 in
theorem open_msg {H : Type} {enc : TypeId × Value → H} {W : World} {base b0 : Nat} {rc : Reach} {sp : Nat → Bool} {hd : Bool} {v : Value} {d : DataW H} {ps : List MemPlace}
    (hval : Value.okWide Tryd.prog W rc b0 24 v) (h : DataW.Trod enc Tryd.prog W base sp hd 24 v d ps) :
    ∃ (i0 : Int) (s1 : ByteArray) (i2 : Int) (A : Option Addr) (cap : Nat) (l : List S34), v = .agg #[.int .i64 i0, .string s1, .int .i64 i2, .slice A l.length cap] ∧ l.length ≤ cap ∧ Kd.C k34 W A l.length l ∧ s1.size + bulkFs l ≤ Rows.uptoBulk d := by
  obtain ⟨v0, v1, v2, v3, y0, y1, y2, y3, n, rfl, rfl, rfl, t0, t1, t2, t3⟩ := open_agg4 Tryd.underlying24 (by kernel_rfl) (by kernel_rfl) hval h
  obtain ⟨i0, e0, rfl, _⟩ := DataW.trod_int Tryd.underlying3 t0
  obtain ⟨s1, e1, rfl, _⟩ := DataW.trod_string Tryd.underlying9 t1
  obtain ⟨i2, e2, rfl, _⟩ := DataW.trod_int Tryd.underlying3 t2
  obtain ⟨A, len, cap, e3⟩ := slice_form Tryd.underlying22 t3
  injection e0 with e0
  injection e1 with e1
  injection e2 with e2
  injection e3 with e3
  subst e0 e1 e2 e3
  obtain ⟨d3, p3⟩ := y3
  obtain ⟨l, rfl, hcap, _, hC, _, hbk, hdat⟩ := open_fields (d := d3) (ps := p3) (A := A) (len := len) (cap := cap) ⟨n, t3⟩
  refine ⟨i0, s1, i2, A, cap, l, rfl, hcap, hC, ?_⟩
  simp only [Rows.uptoBulk, Rows.uptoBulkAll, Array.length_toList]
  have e : s1.data.size = s1.size := rfl
  split at hbk <;> omega
end Go.Proofs.YtcamdfjjdigaeaaDoor.P
