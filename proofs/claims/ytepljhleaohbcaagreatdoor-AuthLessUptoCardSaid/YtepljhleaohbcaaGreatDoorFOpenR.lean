/- (Laid as FOpenR in seats that have FOpen.) What the claim's readings of rules say, as the walks ask it. -/
import Derived.Test.YtepljhleaohbcaaGreatDoorFOpen
import Derived.Test.YtepljhleaohbcaaGreatDoorRows
import Derived.Deep.SlicePairs
import Derived.Deep.Strs
import Derived.Lib.SmallJoins
set_option linter.unusedVariables false
set_option linter.unusedSimpArgs false
namespace Go.Proofs.YtepljhleaohbcaaGreatDoor.P
open Go.RowKit Go.Proofs.YtepljhleaohbcaaGreatDoorW.PrintWords Go.Proofs.YtepljhleaohbcaaGreatDoorW.PrintLast Go.Proofs.YtepljhleaohbcaaGreatDoorW.PrintMore Go.ChangeShapes Go.WideShapes Go.Deep Go.Joins

/-- Texts' bulk. -/
def bulkSs (l : List ByteArray) : Nat := (l.map fun s => s.size + 1).sum
theorem open_texts {H : Type} {enc : TypeId × Value → H} {W : World} {base : Nat} {sp : Nat → Bool} {hd : Bool} {d : DataW H} {ps : List MemPlace} {A : Option Addr} {len cap : Nat}
    (h : DataW.Trod enc Tryz.prog W base sp hd 44 (.slice A len cap) d ps) :
    ∃ l : List ByteArray, l.length = len ∧ len ≤ cap ∧ cap ≤ maxLen ∧ Kd.C Kd.string W A l.length l ∧ (∀ x ∈ l, x.size ∈ d.weights Tryz.prog 44) ∧ bulkSs l + 1 ≤ Rows.uptoBulk d + (if len = 0 then 1 else 0) ∧
      ((d = .nil ∧ l = []) ∨ ∃ elems spare, d = .slice elems spare ∧ elems.length = len) := by
  obtain ⟨fuel, hf⟩ := h
  rcases open_strs Tryz.underlying44 Tryz.underlying9 (by kernel_rfl) hf with ⟨hcs, hx⟩ | ⟨a, len', cap', m, Sx, hcs, hb, hl, hm, hmm, hx, hq⟩
  · simp [Value.cells] at hcs
    obtain ⟨rfl, rfl, rfl⟩ := hcs
    have hd0 : d = .nil := (Prod.mk.inj hx).1
    subst hd0
    exact ⟨[], rfl, Nat.le_refl _, Nat.zero_le _, ⟨rfl, Nat.zero_le _, fun h => absurd h (Nat.lt_irrefl _)⟩, fun x hx => (by simp at hx), by simp [bulkSs, Rows.uptoBulk], .inl ⟨rfl, rfl⟩⟩
  · simp [Value.cells] at hcs
    obtain ⟨rfl, rfl, rfl⟩ := hcs
    have hlm : len ≤ m := by rw [hmm]; split <;> omega
    have hlen : ((List.range len).map Sx).length = len := by simp
    refine ⟨(List.range len).map Sx, hlen, hl, hm, ?_, ?_, ?_, .inr ⟨_, _, (Prod.mk.inj hx).1, by simp⟩⟩
    · refine ⟨rfl, by rw [hlen]; exact Nat.le_trans hl (Nat.le_trans hm (by decide)), fun _ => ⟨_, rfl, fun j p hj => ⟨[.string p], rfl, rfl, fun i u hu => ?_⟩⟩⟩
      obtain ⟨hjl, rfl⟩ := List.getElem?_eq_some_iff.1 hj
      have hjl' : j < len := by simpa using hjl
      obtain rfl : i = 0 := by
        rcases i with _ | i
        · rfl
        · simp at hu
      have hg : ((List.range len).map Sx)[j] = Sx j := by simp
      rw [hg] at hu
      have hu : Value.string (Sx j) = u := by simpa using hu
      subst hu
      show W.cell? (a.add (j * 1 + 0)) = _
      rw [Nat.mul_one, Nat.add_zero, (hq j (by omega)).1]
    · intro x hx'
      obtain ⟨i, hi, rfl⟩ := List.mem_map.1 hx'
      have hd0 : d = _ := (Prod.mk.inj hx).1
      have hmem : (.lit (.string (Sx i).data.toList) : DataW H) ∈ (List.range len).map fun i => (.lit (.string (Sx i).data.toList) : DataW H) := List.mem_map.2 ⟨i, hi, rfl⟩
      rw [hd0]
      simp only [DataW.weights, Tryz.underlying44, List.mem_cons, List.mem_append]
      exact .inr (.inl (weights_all hmem (by simp [DataW.weights])))
    · have hd0 : d = _ := (Prod.mk.inj hx).1
      rw [hd0]
      simp only [Rows.uptoBulk]
      rw [bulkAll_map (fun i => (.lit (.string (Sx i).data.toList) : DataW H)) (fun i => (Sx i).size + 1) (fun i => by simp only [Rows.uptoBulk, Array.length_toList]; rfl)]
      unfold bulkSs
      rw [List.map_map]
      show ((List.range len).map ((fun s : ByteArray => s.size + 1) ∘ Sx)).sum + 1 ≤ ((List.range len).map fun i => (Sx i).size + 1).sum + _ + 1 + _
      have : ((List.range len).map ((fun s : ByteArray => s.size + 1) ∘ Sx)).sum = ((List.range len).map fun i => (Sx i).size + 1).sum := rfl
      omega

theorem array5 {α : Type} {cs : Array α} (h : cs.size = 5) : ∃ c0 c1 c2 c3 c4, cs = #[c0, c1, c2, c3, c4] := by
  obtain ⟨l⟩ := cs
  match l, h with
  | [c0, c1, c2, c3, c4], _ => exact ⟨c0, c1, c2, c3, c4, rfl⟩
section
variable {H : Type} {enc : TypeId × Value → H} {P : Program} {w : World} {base : Nat} {spare : Nat → Bool} {held : Bool}
theorem trod_struct5 {t : TypeId} {f0 f1 f2 f3 f4 : Field} {fuel : Nat} {cs : List Value} {x : DataW H × List MemPlace} (ht : P.underlying t = some (.struct #[f0, f1, f2, f3, f4])) (h : DataW.trod enc P w base spare held fuel t cs = some x) :
    ∃ y0 y1 y2 y3 y4 n, x = (.agg [y0.1, y1.1, y2.1, y3.1, y4.1], y0.2 ++ (y1.2 ++ (y2.2 ++ (y3.2 ++ y4.2)))) ∧ cs.length = P.cellsOf t ∧ DataW.trod enc P w base spare held n f0.type ((cs.drop f0.offset).take (P.cellsOf f0.type)) = some y0 ∧
      DataW.trod enc P w base spare held n f1.type ((cs.drop f1.offset).take (P.cellsOf f1.type)) = some y1 ∧ DataW.trod enc P w base spare held n f2.type ((cs.drop f2.offset).take (P.cellsOf f2.type)) = some y2 ∧
      DataW.trod enc P w base spare held n f3.type ((cs.drop f3.offset).take (P.cellsOf f3.type)) = some y3 ∧ DataW.trod enc P w base spare held n f4.type ((cs.drop f4.offset).take (P.cellsOf f4.type)) = some y4 := by
  obtain ⟨xs, n, _, rfl, hl, hlen, hf⟩ := DataW.trod_struct ht h
  match xs, hlen with
  | [y0, y1, y2, y3, y4], _ => exact ⟨y0, y1, y2, y3, y4, n, by simp, hl, by simpa using hf 0 f0 rfl, by simpa using hf 1 f1 rfl, by simpa using hf 2 f2 rfl, by simpa using hf 3 f3 rfl, by simpa using hf 4 f4 rfl⟩
/-- Five cells that read as a struct of five fields, each of one cell. -/
theorem open_five {t : TypeId} {f0 f1 f2 f3 f4 : Field} {fuel : Nat} {c0 c1 c2 c3 c4 : Value} {x : DataW H × List MemPlace} (hs : P.underlying t = some (.struct #[f0, f1, f2, f3, f4])) (hone : oneCellFields P #[f0, f1, f2, f3, f4] = true)
    (hf : DataW.trod enc P w base spare held fuel t [c0, c1, c2, c3, c4] = some x) :
    ∃ (y0 y1 y2 y3 y4 : DataW H × List MemPlace) (n : Nat), x.1 = .agg [y0.1, y1.1, y2.1, y3.1, y4.1] ∧
      DataW.trod enc P w base spare held n f0.type [c0] = some y0 ∧ DataW.trod enc P w base spare held n f1.type [c1] = some y1 ∧ DataW.trod enc P w base spare held n f2.type [c2] = some y2 ∧ DataW.trod enc P w base spare held n f3.type [c3] = some y3 ∧ DataW.trod enc P w base spare held n f4.type [c4] = some y4 := by
  obtain ⟨y0, y1, y2, y3, y4, n, rfl, _, h0, h1, h2, h3, h4⟩ := trod_struct5 hs hf
  obtain ⟨o0, k0⟩ := hone_of hone 0 f0 rfl
  obtain ⟨o1, k1⟩ := hone_of hone 1 f1 rfl
  obtain ⟨o2, k2⟩ := hone_of hone 2 f2 rfl
  obtain ⟨o3, k3⟩ := hone_of hone 3 f3 rfl
  obtain ⟨o4, k4⟩ := hone_of hone 4 f4 rfl
  exact ⟨y0, y1, y2, y3, y4, n, rfl, by simpa [o0, k0] using h0, by simpa [o1, k1] using h1, by simpa [o2, k2] using h2, by simpa [o3, k3] using h3, by simpa [o4, k4] using h4⟩
end
/-- A rule's bulk. -/
def bulkR (x : S46) : Nat := x.f1.size + bulkSs x.f4
set_option maxRecDepth 100000 in
theorem open_rule_cells {H : Type} {enc : TypeId × Value → H} {W : World} {base : Nat} {sp : Nat → Bool} {hd : Bool} {c0 c1 c2 c3 c4 : Value} {fuel : Nat} {x : DataW H × List MemPlace}
    (hf : DataW.trod enc Tryz.prog W base sp hd fuel 46 [c0, c1, c2, c3, c4] = some x) :
    ∃ (r : S46) (A : Option Addr) (cap : Nat), c0 = .bool r.f0 ∧ c1 = .string r.f1 ∧ c2 = .int .i64 r.f2 ∧ c3 = .int .i64 r.f3 ∧ c4 = .slice A r.f4.length cap ∧ r.f4.length ≤ cap ∧ Kd.C Kd.string W A r.f4.length r.f4 ∧ bulkR r ≤ Rows.uptoBulk x.1 := by
  obtain ⟨y0, y1, y2, y3, y4, n, hx, t0, t1, t2, t3, t4⟩ := open_five Tryz.underlying46 (by kernel_rfl) hf
  obtain ⟨b0, e0, rfl⟩ := DataW.trod_bool Tryz.underlying4 t0
  obtain ⟨s1, e1, rfl, _⟩ := DataW.trod_string Tryz.underlying9 t1
  obtain ⟨i2, e2, rfl, _⟩ := DataW.trod_int Tryz.underlying3 t2
  obtain ⟨i3, e3, rfl, _⟩ := DataW.trod_int Tryz.underlying3 t3
  obtain ⟨A, len, cap, e4⟩ := slice_form Tryz.underlying44 t4
  injection e0 with e0
  injection e1 with e1
  injection e2 with e2
  injection e3 with e3
  injection e4 with e4
  subst e0 e1 e2 e3 e4
  obtain ⟨d4, p4⟩ := y4
  obtain ⟨l, rfl, hcap, _, hC, _, hbk, hdat⟩ := open_texts (d := d4) (ps := p4) (A := A) (len := len) (cap := cap) ⟨n, t4⟩
  refine ⟨⟨b0, s1, i2, i3, l⟩, A, cap, rfl, rfl, rfl, rfl, rfl, hcap, hC, ?_⟩
  rw [hx]
  unfold bulkR
  simp only [Rows.uptoBulk, Rows.uptoBulkAll, Array.length_toList]
  have e : s1.data.size = s1.size := rfl
  split at hbk <;> omega
set_option maxRecDepth 100000 in
theorem open_rule {H : Type} {enc : TypeId × Value → H} {W : World} {base b0 : Nat} {rc : Reach} {sp : Nat → Bool} {hd : Bool} {v : Value} {d : DataW H} {ps : List MemPlace}
    (hval : Value.okWide Tryz.prog W rc b0 46 v) (h : DataW.Trod enc Tryz.prog W base sp hd 46 v d ps) :
    ∃ (r : S46) (A : Option Addr) (cap : Nat), v = .agg #[.bool r.f0, .string r.f1, .int .i64 r.f2, .int .i64 r.f3, .slice A r.f4.length cap] ∧ r.f4.length ≤ cap ∧ Kd.C Kd.string W A r.f4.length r.f4 ∧ bulkR r ≤ Rows.uptoBulk d := by
  obtain ⟨cs, rfl, hsz⟩ := okWide_struct Tryz.underlying46 hval
  obtain ⟨c0, c1, c2, c3, c4, rfl⟩ := array5 (hsz.trans (by kernel_rfl))
  obtain ⟨fuel, hf⟩ := h
  obtain ⟨r, A, cap, rfl, rfl, rfl, rfl, rfl, h1, h2, h3⟩ := open_rule_cells (by simpa [Value.cells] using hf)
  exact ⟨r, A, cap, rfl, h1, h2, h3⟩
theorem bulk_each {H : Type} : ∀ (l : List (DataW H)) (d : DataW H), d ∈ l → Rows.uptoBulk d ≤ Rows.uptoBulkAll l
  | [], d, h => by simp at h
  | x :: r, d, h => by
    simp only [Rows.uptoBulkAll]
    rcases List.mem_cons.1 h with rfl | h
    · omega
    · have := bulk_each r d h; omega
theorem bulk_one {H : Type} (d : DataW H) : 1 ≤ Rows.uptoBulk d := by
  cases d with
  | lit l => cases l <;> simp [Rows.uptoBulk]
  | _ => simp [Rows.uptoBulk]
theorem bulk_len {H : Type} : ∀ l : List (DataW H), l.length ≤ Rows.uptoBulkAll l
  | [] => Nat.zero_le _
  | d :: r => by
    have h1 := bulk_one d
    have h2 := bulk_len r
    simp only [List.length_cons, Rows.uptoBulkAll]
    omega
theorem open_rules {H : Type} {enc : TypeId × Value → H} {W : World} {base : Nat} {sp : Nat → Bool} {hd : Bool} {d : DataW H} {ps : List MemPlace} {A : Option Addr} {len cap : Nat}
    (h : DataW.Trod enc Tryz.prog W base sp hd 25 (.slice A len cap) d ps) :
    ∃ l : List S46, l.length = len ∧ len ≤ cap ∧ Kd.C k46 W A l.length l ∧ (∀ x ∈ l, bulkR x ≤ Rows.uptoBulk d) ∧ l.length ≤ Rows.uptoBulk d := by
  obtain ⟨fuel, hf⟩ := h
  rcases open_slice Tryz.underlying25 hf with ⟨hcs, hx⟩ | ⟨a, len', cap', m, n, D, Pl, hcs, hb, hl, hm, hmm, hx, hq⟩
  · simp [Value.cells] at hcs
    obtain ⟨rfl, rfl, rfl⟩ := hcs
    exact ⟨[], rfl, Nat.le_refl _, ⟨rfl, Nat.zero_le _, fun h => absurd h (Nat.lt_irrefl _)⟩, fun x hx => (by simp at hx), Nat.zero_le _⟩
  · simp [Value.cells] at hcs
    obtain ⟨rfl, rfl, rfl⟩ := hcs
    have hlm : len ≤ m := by rw [hmm]; split <;> omega
    have h5 : Tryz.prog.cellsOf 46 = 5 := by kernel_rfl
    rw [h5] at hq
    have each : ∀ i, i < len → ∃ r : S46, (∃ (A4 : Option Addr) (c4 : Nat), r.f4.length ≤ c4 ∧ Kd.C Kd.string W A4 r.f4.length r.f4 ∧ (∀ j u, ([Value.bool r.f0, .string r.f1, .int .i64 r.f2, .int .i64 r.f3, .slice A4 r.f4.length c4] : List Value)[j]? = some u → W.cell? (a.add (i * 5 + j)) = some u)) ∧ bulkR r ≤ Rows.uptoBulk (D i) := fun i hi => by
      obtain ⟨cs', hc, ht⟩ := hq i (by omega)
      obtain ⟨_, hlen, hat⟩ := World.cells?_some hc
      obtain ⟨c0, c1, c2, c3, c4, e⟩ : ∃ c0 c1 c2 c3 c4, cs' = [c0, c1, c2, c3, c4] := by
        match cs', hlen with
        | [c0, c1, c2, c3, c4], _ => exact ⟨c0, c1, c2, c3, c4, rfl⟩
      subst e
      obtain ⟨r, A4, cp, rfl, rfl, rfl, rfl, rfl, g1, g2, g3⟩ := open_rule_cells ht
      refine ⟨r, ⟨A4, cp, g1, g2, fun j u hu => ?_⟩, g3⟩
      have hj : j < 5 := by
        rcases Nat.lt_or_ge j 5 with h | h
        · exact h
        · rw [List.getElem?_eq_none (by simpa using h)] at hu; cases hu
      have e : a.add (i * 5 + j) = (a.add (i * 5)).add j := (Addr.add_add a (i * 5) j).symm
      rw [e]
      exact (hat j hj).trans hu
    haveI : Inhabited S46 := ⟨⟨false, ByteArray.empty, 0, 0, []⟩⟩
    obtain ⟨X, hX⟩ := choose_lt each
    have hlen : ((List.range len).map X).length = len := by simp
    refine ⟨(List.range len).map X, hlen, hl, ?_, ?_, ?_⟩
    · refine ⟨rfl, by rw [hlen]; exact Nat.le_trans hl (Nat.le_trans hm (by decide)), fun _ => ⟨_, rfl, fun j p hj => ?_⟩⟩
      obtain ⟨hjl, rfl⟩ := List.getElem?_eq_some_iff.1 hj
      have hjl' : j < len := by simpa using hjl
      obtain ⟨⟨A4, c4, g1, g2, g3⟩, _⟩ := hX j hjl'
      have hg : ((List.range len).map X)[j] = X j := by simp
      rw [hg]
      exact ⟨_, rfl, k46_mk W (X j) g1 g2, fun i u hu => g3 i u hu⟩
    · intro x hx'
      obtain ⟨i, hi, rfl⟩ := List.mem_map.1 hx'
      have hi' : i < len := List.mem_range.1 hi
      have hd0 : d = _ := (Prod.mk.inj hx).1
      rw [hd0]
      have h1 := (hX i hi').2
      have h2 := bulk_each ((List.range len).map D) (D i) (List.mem_map.2 ⟨i, hi, rfl⟩)
      simp only [Rows.uptoBulk]
      omega
    · have hd0 : d = _ := (Prod.mk.inj hx).1
      rw [hd0, hlen]
      have h2 := bulk_len ((List.range len).map D)
      rw [List.length_map, List.length_range] at h2
      simp only [Rows.uptoBulk]
      omega
end Go.Proofs.YtepljhleaohbcaaGreatDoor.P
