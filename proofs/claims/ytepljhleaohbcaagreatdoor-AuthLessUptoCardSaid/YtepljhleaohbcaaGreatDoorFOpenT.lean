/- What the claim's readings of tenants and configurations say, as the walks ask it. -/
import Derived.Test.YtepljhleaohbcaaGreatDoorFOpenR
set_option linter.unusedVariables false
set_option linter.unusedSimpArgs false
namespace Go.Proofs.YtepljhleaohbcaaGreatDoor.P
open Go.RowKit Go.Proofs.YtepljhleaohbcaaGreatDoorW.PrintWords Go.Proofs.YtepljhleaohbcaaGreatDoorW.PrintLast Go.Proofs.YtepljhleaohbcaaGreatDoorW.PrintMore Go.ChangeShapes Go.WideShapes Go.Deep Go.Joins

theorem array9 {α : Type} {cs : Array α} (h : cs.size = 9) : ∃ c0 c1 c2 c3 c4 c5 c6 c7 c8, cs = #[c0, c1, c2, c3, c4, c5, c6, c7, c8] := by
  obtain ⟨l⟩ := cs
  match l, h with
  | [c0, c1, c2, c3, c4, c5, c6, c7, c8], _ => exact ⟨c0, c1, c2, c3, c4, c5, c6, c7, c8, rfl⟩
section
variable {H : Type} {enc : TypeId × Value → H} {P : Program} {w : World} {base : Nat} {spare : Nat → Bool} {held : Bool}
/-- Nine cells that read as a struct of nine fields, each of one cell. -/
theorem open_nine {t : TypeId} {f0 f1 f2 f3 f4 f5 f6 f7 f8 : Field} {fuel : Nat} {c0 c1 c2 c3 c4 c5 c6 c7 c8 : Value} {x : DataW H × List MemPlace} (hs : P.underlying t = some (.struct #[f0, f1, f2, f3, f4, f5, f6, f7, f8])) (hone : oneCellFields P #[f0, f1, f2, f3, f4, f5, f6, f7, f8] = true)
    (hf : DataW.trod enc P w base spare held fuel t [c0, c1, c2, c3, c4, c5, c6, c7, c8] = some x) :
    ∃ (y0 y1 y2 y3 y4 y5 y6 y7 y8 : DataW H × List MemPlace) (n : Nat), x.1 = .agg [y0.1, y1.1, y2.1, y3.1, y4.1, y5.1, y6.1, y7.1, y8.1] ∧
      DataW.trod enc P w base spare held n f0.type [c0] = some y0 ∧ DataW.trod enc P w base spare held n f1.type [c1] = some y1 ∧ DataW.trod enc P w base spare held n f2.type [c2] = some y2 ∧ DataW.trod enc P w base spare held n f3.type [c3] = some y3 ∧ DataW.trod enc P w base spare held n f4.type [c4] = some y4 ∧ DataW.trod enc P w base spare held n f5.type [c5] = some y5 ∧ DataW.trod enc P w base spare held n f6.type [c6] = some y6 ∧ DataW.trod enc P w base spare held n f7.type [c7] = some y7 ∧ DataW.trod enc P w base spare held n f8.type [c8] = some y8 := by
  obtain ⟨xs, n, _, hx, hl, hlen, hf⟩ := DataW.trod_struct hs hf
  match xs, hlen with
  | [y0, y1, y2, y3, y4, y5, y6, y7, y8], _ =>
    obtain ⟨o0, k0⟩ := hone_of hone 0 f0 rfl
    obtain ⟨o1, k1⟩ := hone_of hone 1 f1 rfl
    obtain ⟨o2, k2⟩ := hone_of hone 2 f2 rfl
    obtain ⟨o3, k3⟩ := hone_of hone 3 f3 rfl
    obtain ⟨o4, k4⟩ := hone_of hone 4 f4 rfl
    obtain ⟨o5, k5⟩ := hone_of hone 5 f5 rfl
    obtain ⟨o6, k6⟩ := hone_of hone 6 f6 rfl
    obtain ⟨o7, k7⟩ := hone_of hone 7 f7 rfl
    obtain ⟨o8, k8⟩ := hone_of hone 8 f8 rfl
    exact ⟨y0, y1, y2, y3, y4, y5, y6, y7, y8, n, by rw [hx]; simp, by simpa [o0, k0] using hf 0 f0 rfl, by simpa [o1, k1] using hf 1 f1 rfl, by simpa [o2, k2] using hf 2 f2 rfl, by simpa [o3, k3] using hf 3 f3 rfl, by simpa [o4, k4] using hf 4 f4 rfl, by simpa [o5, k5] using hf 5 f5 rfl, by simpa [o6, k6] using hf 6 f6 rfl, by simpa [o7, k7] using hf 7 f7 rfl, by simpa [o8, k8] using hf 8 f8 rfl⟩
end
/-- A tenant no greater than n: its token, its rules. -/
def TenLe (t : S27) (n : Nat) : Prop := t.f0.size ≤ n ∧ t.f1.length ≤ n ∧ ∀ y ∈ t.f1, bulkR y ≤ n
theorem TenLe.mono {t : S27} {n m : Nat} (h : TenLe t n) (hm : n ≤ m) : TenLe t m := ⟨Nat.le_trans h.1 hm, Nat.le_trans h.2.1 hm, fun y hy => Nat.le_trans (h.2.2 y hy) hm⟩
set_option maxRecDepth 100000 in
theorem open_tenant_cells {H : Type} {enc : TypeId × Value → H} {W : World} {base : Nat} {sp : Nat → Bool} {hd : Bool} {c0 c1 c2 c3 c4 c5 c6 c7 c8 : Value} {fuel : Nat} {x : DataW H × List MemPlace}
    (hf : DataW.trod enc Tryz.prog W base sp hd fuel 27 [c0, c1, c2, c3, c4, c5, c6, c7, c8] = some x) :
    ∃ (t : S27) (A : Option Addr) (cap : Nat), c0 = .string t.f0 ∧ c1 = .slice A t.f1.length cap ∧ c2 = .int .i64 t.f2 ∧ c3 = .int .i64 t.f3 ∧ c4 = .int .i64 t.f4 ∧ c5 = .int .i64 t.f5 ∧ c6 = .int .i64 t.f6 ∧ c7 = .int .i64 t.f7 ∧ c8 = .int .i64 t.f8 ∧ t.f1.length ≤ cap ∧ Kd.C k46 W A t.f1.length t.f1 ∧ TenLe t (Rows.uptoBulk x.1) := by
  obtain ⟨y0, y1, y2, y3, y4, y5, y6, y7, y8, n, hx, t0, t1, t2, t3, t4, t5, t6, t7, t8⟩ := open_nine Tryz.underlying27 (by kernel_rfl) hf
  obtain ⟨s0, e0, rfl, _⟩ := DataW.trod_string Tryz.underlying9 t0
  obtain ⟨A, len, cap, e1⟩ := slice_form Tryz.underlying25 t1
  obtain ⟨i2, e2, rfl, _⟩ := DataW.trod_int Tryz.underlying3 t2
  obtain ⟨i3, e3, rfl, _⟩ := DataW.trod_int Tryz.underlying3 t3
  obtain ⟨i4, e4, rfl, _⟩ := DataW.trod_int Tryz.underlying3 t4
  obtain ⟨i5, e5, rfl, _⟩ := DataW.trod_int Tryz.underlying3 t5
  obtain ⟨i6, e6, rfl, _⟩ := DataW.trod_int Tryz.underlying3 t6
  obtain ⟨i7, e7, rfl, _⟩ := DataW.trod_int Tryz.underlying3 t7
  obtain ⟨i8, e8, rfl, _⟩ := DataW.trod_int Tryz.underlying3 t8
  injection e0 with e0
  injection e1 with e1
  injection e2 with e2
  injection e3 with e3
  injection e4 with e4
  injection e5 with e5
  injection e6 with e6
  injection e7 with e7
  injection e8 with e8
  subst e0 e1 e2 e3 e4 e5 e6 e7 e8
  obtain ⟨d1, p1⟩ := y1
  obtain ⟨l, rfl, hcap, hC, hbk, hbl⟩ := open_rules (d := d1) (ps := p1) (A := A) (len := len) (cap := cap) ⟨n, t1⟩
  refine ⟨⟨s0, l, i2, i3, i4, i5, i6, i7, i8⟩, A, cap, rfl, rfl, rfl, rfl, rfl, rfl, rfl, rfl, rfl, hcap, hC, ?_⟩
  rw [hx]
  have e : s0.data.toList.length = s0.size := by rw [Array.length_toList]; rfl
  have hu : s0.size ≤ Rows.uptoBulk (DataW.agg [(.lit (.string s0.data.toList)), d1, (.lit (.int .i64 i2)), (.lit (.int .i64 i3)), (.lit (.int .i64 i4)), (.lit (.int .i64 i5)), (.lit (.int .i64 i6)), (.lit (.int .i64 i7)), (.lit (.int .i64 i8))] : DataW H) ∧ Rows.uptoBulk d1 ≤ Rows.uptoBulk (DataW.agg [(.lit (.string s0.data.toList)), d1, (.lit (.int .i64 i2)), (.lit (.int .i64 i3)), (.lit (.int .i64 i4)), (.lit (.int .i64 i5)), (.lit (.int .i64 i6)), (.lit (.int .i64 i7)), (.lit (.int .i64 i8))] : DataW H) := by
    simp only [Rows.uptoBulk, Rows.uptoBulkAll]
    omega
  exact ⟨hu.1, Nat.le_trans hbl hu.2, fun y hy => Nat.le_trans (hbk y hy) hu.2⟩
set_option maxRecDepth 100000 in
theorem open_tenant {H : Type} {enc : TypeId × Value → H} {W : World} {base b0 : Nat} {rc : Reach} {sp : Nat → Bool} {hd : Bool} {v : Value} {d : DataW H} {ps : List MemPlace}
    (hval : Value.okWide Tryz.prog W rc b0 27 v) (h : DataW.Trod enc Tryz.prog W base sp hd 27 v d ps) :
    ∃ (t : S27) (A : Option Addr) (cap : Nat), v = .agg #[.string t.f0, .slice A t.f1.length cap, .int .i64 t.f2, .int .i64 t.f3, .int .i64 t.f4, .int .i64 t.f5, .int .i64 t.f6, .int .i64 t.f7, .int .i64 t.f8] ∧ t.f1.length ≤ cap ∧ Kd.C k46 W A t.f1.length t.f1 ∧ TenLe t (Rows.uptoBulk d) := by
  obtain ⟨cs, rfl, hsz⟩ := okWide_struct Tryz.underlying27 hval
  obtain ⟨c0, c1, c2, c3, c4, c5, c6, c7, c8, rfl⟩ := array9 (hsz.trans (by kernel_rfl))
  obtain ⟨fuel, hf⟩ := h
  obtain ⟨t, A, cap, rfl, rfl, rfl, rfl, rfl, rfl, rfl, rfl, rfl, h1, h2, h3⟩ := open_tenant_cells (by simpa [Value.cells] using hf)
  exact ⟨t, A, cap, rfl, h1, h2, h3⟩
theorem open_tenants {H : Type} {enc : TypeId × Value → H} {W : World} {base : Nat} {sp : Nat → Bool} {hd : Bool} {d : DataW H} {ps : List MemPlace} {A : Option Addr} {len cap : Nat}
    (h : DataW.Trod enc Tryz.prog W base sp hd 22 (.slice A len cap) d ps) :
    ∃ l : List S27, l.length = len ∧ len ≤ cap ∧ Kd.C k27 W A l.length l ∧ (∀ x ∈ l, TenLe x (Rows.uptoBulk d)) ∧ l.length ≤ Rows.uptoBulk d := by
  obtain ⟨fuel, hf⟩ := h
  rcases open_slice Tryz.underlying22 hf with ⟨hcs, hx⟩ | ⟨a, len', cap', m, n, D, Pl, hcs, hb, hl, hm, hmm, hx, hq⟩
  · simp [Value.cells] at hcs
    obtain ⟨rfl, rfl, rfl⟩ := hcs
    exact ⟨[], rfl, Nat.le_refl _, ⟨rfl, Nat.zero_le _, fun h => absurd h (Nat.lt_irrefl _)⟩, fun x hx => (by simp at hx), Nat.zero_le _⟩
  · simp [Value.cells] at hcs
    obtain ⟨rfl, rfl, rfl⟩ := hcs
    have hlm : len ≤ m := by rw [hmm]; split <;> omega
    have h5 : Tryz.prog.cellsOf 27 = 9 := by kernel_rfl
    rw [h5] at hq
    have each : ∀ i, i < len → ∃ t : S27, (∃ (A4 : Option Addr) (c4 : Nat), t.f1.length ≤ c4 ∧ Kd.C k46 W A4 t.f1.length t.f1 ∧ (∀ j u, ([Value.string t.f0, .slice A4 t.f1.length c4, .int .i64 t.f2, .int .i64 t.f3, .int .i64 t.f4, .int .i64 t.f5, .int .i64 t.f6, .int .i64 t.f7, .int .i64 t.f8] : List Value)[j]? = some u → W.cell? (a.add (i * 9 + j)) = some u)) ∧ TenLe t (Rows.uptoBulk (D i)) := fun i hi => by
      obtain ⟨cs', hc, ht⟩ := hq i (by omega)
      obtain ⟨_, hlen, hat⟩ := World.cells?_some hc
      obtain ⟨c0, c1, c2, c3, c4, c5, c6, c7, c8, e⟩ : ∃ c0 c1 c2 c3 c4 c5 c6 c7 c8, cs' = [c0, c1, c2, c3, c4, c5, c6, c7, c8] := by
        match cs', hlen with
        | [c0, c1, c2, c3, c4, c5, c6, c7, c8], _ => exact ⟨c0, c1, c2, c3, c4, c5, c6, c7, c8, rfl⟩
      subst e
      obtain ⟨t, A4, cp, rfl, rfl, rfl, rfl, rfl, rfl, rfl, rfl, rfl, g1, g2, g3⟩ := open_tenant_cells ht
      refine ⟨t, ⟨A4, cp, g1, g2, fun j u hu => ?_⟩, g3⟩
      have hj : j < 9 := by
        rcases Nat.lt_or_ge j 9 with h | h
        · exact h
        · rw [List.getElem?_eq_none (by simpa using h)] at hu; cases hu
      have e : a.add (i * 9 + j) = (a.add (i * 9)).add j := (Addr.add_add a (i * 9) j).symm
      rw [e]
      exact (hat j hj).trans hu
    haveI : Inhabited S27 := ⟨z27⟩
    obtain ⟨X, hX⟩ := choose_lt each
    have hlen : ((List.range len).map X).length = len := by simp
    have hd0 : d = _ := (Prod.mk.inj hx).1
    have hbu : ∀ i, i < len → Rows.uptoBulk (D i) ≤ Rows.uptoBulk d := fun i hi => by
      rw [hd0]
      have h2 := bulk_each ((List.range len).map D) (D i) (List.mem_map.2 ⟨i, List.mem_range.2 hi, rfl⟩)
      simp only [Rows.uptoBulk]
      omega
    refine ⟨(List.range len).map X, hlen, hl, ?_, ?_, ?_⟩
    · refine ⟨rfl, by rw [hlen]; exact Nat.le_trans hl (Nat.le_trans hm (by decide)), fun _ => ⟨_, rfl, fun j p hj => ?_⟩⟩
      obtain ⟨hjl, rfl⟩ := List.getElem?_eq_some_iff.1 hj
      have hjl' : j < len := by simpa using hjl
      obtain ⟨⟨A4, c4, g1, g2, g3⟩, _⟩ := hX j hjl'
      have hg : ((List.range len).map X)[j] = X j := by simp
      rw [hg]
      exact ⟨_, rfl, k27_mk W (X j) g1 g2, fun i u hu => g3 i u hu⟩
    · intro x hx'
      obtain ⟨i, hi, rfl⟩ := List.mem_map.1 hx'
      have hi' : i < len := List.mem_range.1 hi
      exact (hX i hi').2.mono (hbu i hi')
    · rw [hd0, hlen]
      have h2 := bulk_len ((List.range len).map D)
      rw [List.length_map, List.length_range] at h2
      simp only [Rows.uptoBulk]
      omega
set_option maxRecDepth 100000 in
theorem open_config {H : Type} {enc : TypeId × Value → H} {W : World} {base b0 : Nat} {rc : Reach} {sp : Nat → Bool} {hd : Bool} {v : Value} {d : DataW H} {ps : List MemPlace}
    (hval : Value.okWide Tryz.prog W rc b0 24 v) (h : DataW.Trod enc Tryz.prog W base sp hd 24 v d ps) :
    ∃ (l : List S27) (s t : Int) (A : Option Addr) (cap : Nat), v = .agg #[.slice A l.length cap, .int .i64 s, .int .i64 t] ∧ l.length ≤ cap ∧ Kd.C k27 W A l.length l ∧ (∀ x ∈ l, TenLe x (Rows.uptoBulk d)) ∧ l.length ≤ Rows.uptoBulk d := by
  obtain ⟨v0, v1, v2, y0, y1, y2, n, rfl, rfl, rfl, t0, t1, t2⟩ := open_agg3 Tryz.underlying24 (by kernel_rfl) (by kernel_rfl) hval h
  obtain ⟨A, len, cap, e0⟩ := slice_form Tryz.underlying22 t0
  obtain ⟨i1, e1, rfl, _⟩ := DataW.trod_int Tryz.underlying3 t1
  obtain ⟨i2, e2, rfl, _⟩ := DataW.trod_int Tryz.underlying3 t2
  injection e0 with e0
  injection e1 with e1
  injection e2 with e2
  subst e0 e1 e2
  obtain ⟨d0, p0⟩ := y0
  obtain ⟨l, rfl, hcap, hC, hbk, hbl⟩ := open_tenants (d := d0) (ps := p0) (A := A) (len := len) (cap := cap) ⟨n, t0⟩
  refine ⟨l, i1, i2, A, cap, rfl, hcap, hC, ?_⟩
  have hu : Rows.uptoBulk d0 ≤ Rows.uptoBulk (DataW.agg [d0, (.lit (.int .i64 i1)), (.lit (.int .i64 i2))] : DataW H) := by
    simp only [Rows.uptoBulk, Rows.uptoBulkAll]
    omega
  exact ⟨fun x hx => (hbk x hx).mono hu, Nat.le_trans hbl hu⟩
end Go.Proofs.YtepljhleaohbcaaGreatDoor.P
