/- What the claim's readings of arguments say, as the walks ask it: fields, texts, bytes. -/
import Derived.Test.YtcamdfjjdigaeaaDoorQ0
import Derived.Test.YtcamdfjjdigaeaaDoorRows
import Derived.Deep.SlicePairs
import Derived.Deep.Strs
set_option linter.unusedVariables false
set_option linter.unusedSimpArgs false
namespace Go.Proofs.YtcamdfjjdigaeaaDoor.P
open Go.RowKit Go.Proofs.YtcamdfjjdigaeaaDoorW.PrintWords Go.Proofs.YtcamdfjjdigaeaaDoorW.PrintLast Go.Proofs.YtcamdfjjdigaeaaDoorW.PrintMore Go.ChangeShapes Go.WideShapes Go.Deep

/-- A field's bulk. -/
def bulkF (x : S34) : Nat := x.f0.size + x.f1.size + 3
def bulkFs (l : List S34) : Nat := (l.map bulkF).sum

theorem bulkAll_map {H α : Type} (f : α → DataW H) (g : α → Nat) (h : ∀ x, Rows.uptoBulk (f x) = g x) : ∀ l : List α, Rows.uptoBulkAll (l.map f) = (l.map g).sum
  | [] => by simp [Rows.uptoBulkAll]
  | x :: r => by simp only [List.map_cons, Rows.uptoBulkAll, List.sum_cons, h, bulkAll_map f g h r]

theorem weights_all {H : Type} {P : Program} {e : TypeId} {n : Nat} : ∀ {ds : List (DataW H)} {d : DataW H}, d ∈ ds → n ∈ d.weights P e → n ∈ DataW.weightsAll P e ds
  | [], _, h, _ => by simp at h
  | x :: r, d, h, hn => by
    simp only [DataW.weightsAll, List.mem_append]
    rcases List.mem_cons.1 h with rfl | h
    · exact .inl hn
    · exact .inr (weights_all h hn)
theorem field_weights {H : Type} (a b : List UInt8) : a.length ∈ (DataW.agg [.lit (.string a), .lit (.string b)] : DataW H).weights Tryd.prog 34 ∧ b.length ∈ (DataW.agg [.lit (.string a), .lit (.string b)] : DataW H).weights Tryd.prog 34 := by
  simp [DataW.weights, DataW.weightsEach, Tryd.underlying34]
theorem open_fields {H : Type} {enc : TypeId × Value → H} {W : World} {base : Nat} {sp : Nat → Bool} {hd : Bool} {d : DataW H} {ps : List MemPlace} {A : Option Addr} {len cap : Nat}
    (h : DataW.Trod enc Tryd.prog W base sp hd 22 (.slice A len cap) d ps) :
    ∃ l : List S34, l.length = len ∧ len ≤ cap ∧ cap ≤ maxLen ∧ Kd.C k34 W A l.length l ∧ (∀ x ∈ l, x.f0.size ∈ d.weights Tryd.prog 22 ∧ x.f1.size ∈ d.weights Tryd.prog 22) ∧ bulkFs l + 1 ≤ Rows.uptoBulk d + (if len = 0 then 1 else 0) ∧
      ((d = .nil ∧ l = []) ∨ ∃ elems spare, d = .slice elems spare ∧ elems.length = len) := by
  obtain ⟨fuel, hf⟩ := h
  rcases open_slice_pairs Tryd.underlying22 Tryd.underlying34 (by kernel_rfl) (by rfl) (by rfl) (by kernel_rfl) (by kernel_rfl) hf with ⟨hcs, hx⟩ | ⟨a, len', cap', m, n, V0, V1, D0, D1, P0, P1, hcs, hb, hl, hm, hmm, hx, hq⟩
  · simp [Value.cells] at hcs
    obtain ⟨rfl, rfl, rfl⟩ := hcs
    have hd0 : d = .nil := (Prod.mk.inj hx).1
    subst hd0
    exact ⟨[], rfl, Nat.le_refl _, Nat.zero_le _, ⟨rfl, Nat.zero_le _, fun h => absurd h (Nat.lt_irrefl _)⟩, fun x hx => (by simp at hx), by simp [bulkFs, Rows.uptoBulk], .inl ⟨rfl, rfl⟩⟩
  · simp [Value.cells] at hcs
    obtain ⟨rfl, rfl, rfl⟩ := hcs
    have hlm : len ≤ m := by rw [hmm]; split <;> omega
    have each : ∀ i, i < len → ∃ x : S34, V0 i = .string x.f0 ∧ V1 i = .string x.f1 ∧ D0 i = .lit (.string x.f0.data.toList) ∧ D1 i = .lit (.string x.f1.data.toList) ∧ x.f0.size ≤ maxLen ∧ x.f1.size ≤ maxLen := fun i hi => by
      obtain ⟨_, _, t0, t1⟩ := hq i (by omega)
      obtain ⟨s0, a1, a2, a3⟩ := DataW.trod_string Tryd.underlying9 t0
      obtain ⟨s1, b1, b2, b3⟩ := DataW.trod_string Tryd.underlying9 t1
      exact ⟨⟨s0, s1⟩, by simpa using a1, by simpa using b1, (Prod.mk.inj a2).1, (Prod.mk.inj b2).1, a3, b3⟩
    haveI : Inhabited S34 := ⟨⟨ByteArray.empty, ByteArray.empty⟩⟩
    obtain ⟨X, hX⟩ := choose_lt each
    have hlen : ((List.range len).map X).length = len := by simp
    refine ⟨(List.range len).map X, hlen, hl, hm, ?_, ?_, ?_, ?_⟩
    · refine ⟨rfl, by rw [hlen]; exact Nat.le_trans hl (Nat.le_trans hm (by decide)), fun _ => ⟨_, rfl, fun j p hj => ⟨[.string p.f0, .string p.f1], rfl, k34_mk W p, fun i u hu => ?_⟩⟩⟩
      obtain ⟨hjl, rfl⟩ := List.getElem?_eq_some_iff.1 hj
      have hjl' : j < len := by simpa using hjl
      obtain ⟨c0, c1, _, _⟩ := hq j (by omega)
      have hXj := hX j hjl'
      have hg : ((List.range len).map X)[j] = X j := by simp
      rw [hg] at hu
      show W.cell? (a.add (j * 2 + i)) = _
      match i, hu with
      | 0, hu =>
        simp at hu
        subst hu
        rw [Nat.add_zero, c0, hXj.1]
      | 1, hu =>
        simp at hu
        subst hu
        rw [c1, hXj.2.1]
      | i + 2, hu => simp at hu
    · intro x hx'
      obtain ⟨i, hi, rfl⟩ := List.mem_map.1 hx'
      have hXi := hX i (List.mem_range.1 hi)
      have hd0 : d = _ := (Prod.mk.inj hx).1
      have hmem : (.agg [.lit (.string (X i).f0.data.toList), .lit (.string (X i).f1.data.toList)] : DataW H) ∈ (List.range len).map fun i => (.agg [D0 i, D1 i] : DataW H) := List.mem_map.2 ⟨i, hi, by rw [hXi.2.2.1, hXi.2.2.2.1]⟩
      have hw := field_weights (H := H) (X i).f0.data.toList (X i).f1.data.toList
      rw [hd0]
      simp only [DataW.weights, Tryd.underlying22, List.mem_cons, List.mem_append]
      exact ⟨.inr (.inl (weights_all hmem hw.1)), .inr (.inl (weights_all hmem hw.2))⟩
    · have hd0 : d = _ := (Prod.mk.inj hx).1
      rw [hd0]
      simp only [Rows.uptoBulk]
      have e : (List.range len).map (fun i => (DataW.agg [D0 i, D1 i] : DataW H)) = (List.range len).map (fun i => .agg [.lit (.string (X i).f0.data.toList), .lit (.string (X i).f1.data.toList)]) := List.map_congr_left fun i hi => by
        have := hX i (List.mem_range.1 hi)
        rw [this.2.2.1, this.2.2.2.1]
      rw [e, bulkAll_map (fun i => (.agg [.lit (.string (X i).f0.data.toList), .lit (.string (X i).f1.data.toList)] : DataW H)) (fun i => bulkF (X i)) (fun i => by simp only [Rows.uptoBulk, Rows.uptoBulkAll, bulkF, Array.length_toList]; show (X i).f0.size + 1 + ((X i).f1.size + 1 + 0) + 1 = _; omega)]
      unfold bulkFs
      rw [List.map_map]
      show ((List.range len).map (bulkF ∘ X)).sum + 1 ≤ ((List.range len).map fun i => bulkF (X i)).sum + _ + 1 + _
      have : ((List.range len).map (bulkF ∘ X)).sum = ((List.range len).map fun i => bulkF (X i)).sum := rfl
      omega
    · exact .inr ⟨_, _, (Prod.mk.inj hx).1, by simp⟩
end Go.Proofs.YtcamdfjjdigaeaaDoor.P
