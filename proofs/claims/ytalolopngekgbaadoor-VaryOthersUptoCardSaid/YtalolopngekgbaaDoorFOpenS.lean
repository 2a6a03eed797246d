/- What the claim's readings of texts say, as the walks ask it. -/
import Derived.Test.YtalolopngekgbaaDoorFOpen
import Derived.Deep.Strs
set_option linter.unusedVariables false
set_option linter.unusedSimpArgs false
namespace Go.Proofs.YtalolopngekgbaaDoor.P
open Go.RowKit Go.Proofs.YtalolopngekgbaaDoorW.PrintWords Go.Proofs.YtalolopngekgbaaDoorW.PrintLast Go.Proofs.YtalolopngekgbaaDoorW.PrintMore Go.ChangeShapes Go.WideShapes Go.Deep

/-- Texts' bulk. -/
def bulkSs (l : List ByteArray) : Nat := (l.map fun s => s.size + 1).sum
theorem open_texts {H : Type} {enc : TypeId × Value → H} {W : World} {base : Nat} {sp : Nat → Bool} {hd : Bool} {d : DataW H} {ps : List MemPlace} {A : Option Addr} {len cap : Nat}
    (h : DataW.Trod enc Tryd.prog W base sp hd 23 (.slice A len cap) d ps) :
    ∃ l : List ByteArray, l.length = len ∧ len ≤ cap ∧ cap ≤ maxLen ∧ Kd.C Kd.string W A l.length l ∧ (∀ x ∈ l, x.size ∈ d.weights Tryd.prog 23) ∧ bulkSs l + 1 ≤ Rows.uptoBulk d + (if len = 0 then 1 else 0) ∧
      ((d = .nil ∧ l = []) ∨ ∃ elems spare, d = .slice elems spare ∧ elems.length = len) := by
  obtain ⟨fuel, hf⟩ := h
  rcases open_strs Tryd.underlying23 Tryd.underlying9 (by kernel_rfl) hf with ⟨hcs, hx⟩ | ⟨a, len', cap', m, Sx, hcs, hb, hl, hm, hmm, hx, hq⟩
  · simp [Value.cells] at hcs
    obtain ⟨rfl, rfl, rfl⟩ := hcs
    have hd0 : d = .nil := (Prod.mk.inj hx).1
    subst hd0
    exact ⟨[], rfl, Nat.le_refl _, Nat.zero_le _, ⟨rfl, Nat.zero_le _, fun h => absurd h (Nat.lt_irrefl _)⟩, fun x hx => (by simp at hx), by simp [bulkSs, Rows.uptoBulk], .inl ⟨rfl, rfl⟩⟩
  · simp [Value.cells] at hcs
    obtain ⟨rfl, rfl, rfl⟩ := hcs
    have hlm : len ≤ m := by rw [hmm]; split <;> omega
    have hlen : ((List.range len).map Sx).length = len := by simp
    refine ⟨(List.range len).map Sx, hlen, hl, hm, ?_, ?_, ?_, .inr ⟨_, _, (Prod.mk.inj hx).1, by simp⟩⟩
    · refine ⟨rfl, by rw [hlen]; exact Nat.le_trans hl (Nat.le_trans hm (by decide)), fun _ => ⟨_, rfl, fun j p hj => ⟨[.string p], rfl, rfl, fun i u hu => ?_⟩⟩⟩
      obtain ⟨hjl, rfl⟩ := List.getElem?_eq_some_iff.1 hj
      have hjl' : j < len := by simpa using hjl
      obtain rfl : i = 0 := by
        rcases i with _ | i
        · rfl
        · simp at hu
      have hg : ((List.range len).map Sx)[j] = Sx j := by simp
      rw [hg] at hu
      have hu : Value.string (Sx j) = u := by simpa using hu
      subst hu
      show W.cell? (a.add (j * 1 + 0)) = _
      rw [Nat.mul_one, Nat.add_zero, (hq j (by omega)).1]
    · intro x hx'
      obtain ⟨i, hi, rfl⟩ := List.mem_map.1 hx'
      have hd0 : d = _ := (Prod.mk.inj hx).1
      have hmem : (.lit (.string (Sx i).data.toList) : DataW H) ∈ (List.range len).map fun i => (.lit (.string (Sx i).data.toList) : DataW H) := List.mem_map.2 ⟨i, hi, rfl⟩
      rw [hd0]
      simp only [DataW.weights, Tryd.underlying23, List.mem_cons, List.mem_append]
      exact .inr (.inl (weights_all hmem (by simp [DataW.weights])))
    · have hd0 : d = _ := (Prod.mk.inj hx).1
      rw [hd0]
      simp only [Rows.uptoBulk]
      rw [bulkAll_map (fun i => (.lit (.string (Sx i).data.toList) : DataW H)) (fun i => (Sx i).size + 1) (fun i => by simp only [Rows.uptoBulk, Array.length_toList]; rfl)]
      unfold bulkSs
      rw [List.map_map]
      show ((List.range len).map ((fun s : ByteArray => s.size + 1) ∘ Sx)).sum + 1 ≤ ((List.range len).map fun i => (Sx i).size + 1).sum + _ + 1 + _
      have : ((List.range len).map ((fun s : ByteArray => s.size + 1) ∘ Sx)).sum = ((List.range len).map fun i => (Sx i).size + 1).sum := rfl
      omega
end Go.Proofs.YtalolopngekgbaaDoor.P
