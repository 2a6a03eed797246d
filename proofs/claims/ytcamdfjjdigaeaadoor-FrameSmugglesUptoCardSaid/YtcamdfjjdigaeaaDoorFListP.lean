/- What text.List lists: the scan, byte by byte; runes of several bytes are passed over. -/
import Derived.Test.YtcamdfjjdigaeaaDoorFtextTrim
import Derived.Laws.RangeAny
import Derived.Laws.RangeString
set_option linter.unusedVariables false
set_option linter.unusedSimpArgs false
namespace Go.Proofs.YtcamdfjjdigaeaaDoor.P
open Go.RowKit Go.Proofs.YtcamdfjjdigaeaaDoorW.PrintWords Go.Proofs.YtcamdfjjdigaeaaDoorW.PrintLast Go.Proofs.YtcamdfjjdigaeaaDoorW.PrintMore

/-- An element's end. -/
def lsEnd (s : ByteArray) (acc : List ByteArray) (b e : Nat) : List ByteArray := if (trimB (s.extract b e)).data.toList.isEmpty then acc else acc ++ [trimB (s.extract b e)]
/-- The scan: d bytes are left; the place, where the element begins, quoted, masked, what was listed. -/
def lsGo (s : ByteArray) : Nat → Nat → Nat → Bool → Bool → List ByteArray → List ByteArray
  | 0, _, b, _, _, acc => lsEnd s acc b s.size
  | d + 1, pos, b, q, m, acc =>
    if m then lsGo s d (pos + 1) b q false acc
    else if q && (s.get! pos).toNat == 92 then lsGo s d (pos + 1) b q true acc
    else if (s.get! pos).toNat == 34 then lsGo s d (pos + 1) b (!q) false acc
    else if (s.get! pos).toNat == 44 && !q then lsGo s d (pos + 1) (pos + 1) q false (lsEnd s acc b pos)
    else lsGo s d (pos + 1) b q false acc
def listB (s : ByteArray) : List ByteArray := lsGo s s.size 0 0 false false []

theorem lsGo_high (s : ByteArray) (d pos b : Nat) (q m : Bool) (acc : List ByteArray) (h : 128 ≤ (s.get! pos).toNat) : lsGo s (d + 1) pos b q m acc = lsGo s d (pos + 1) b q false acc := by
  have h1 : ((s.get! pos).toNat == 92) = false := by simp; omega
  have h2 : ((s.get! pos).toNat == 34) = false := by simp; omega
  have h3 : ((s.get! pos).toNat == 44) = false := by simp; omega
  cases m <;> simp [lsGo, h1, h2, h3]
theorem lsGo_run (s : ByteArray) (b : Nat) (q : Bool) (acc : List ByteArray) : ∀ (n d pos : Nat), (∀ k, k < n → 128 ≤ (s.get! (pos + k)).toNat) → lsGo s (d + n) pos b q false acc = lsGo s d (pos + n) b q false acc
  | 0, _, _, _ => rfl
  | n + 1, d, pos, h => by
    rw [← Nat.add_assoc, lsGo_high s (d + n) pos b q false acc (h 0 (by omega)), lsGo_run s b q acc n d (pos + 1) (fun k hk => by have := h (k + 1) (by omega); rwa [show pos + (k + 1) = pos + 1 + k by omega] at this)]
    congr 1; omega
theorem get_at' (s : ByteArray) (pos : Nat) (h : pos < s.size) : s.get! pos = s[pos]'h := by
  simp [ByteArray.get!, getElem!_pos, h]
  rfl
/-- The bytes behind a rune's first are none of ASCII, and stand in the text. -/
theorem decode_tail (s : ByteArray) (pos k : Nat) (h1 : 1 ≤ k) (hk : k < (Utf8.decode s pos).2) : pos + k < s.size ∧ 128 ≤ (s.get! (pos + k)).toNat := by
  simp only [Utf8.decode] at hk
  have hk' : k = 1 ∨ k = 2 ∨ k = 3 ∨ 4 ≤ k := by omega
  repeat' split at hk
  all_goals simp_all
  all_goals rcases hk' with rfl | rfl | rfl | hk'
  all_goals first | (exfalso; omega) | (simp_all; omega)
theorem decode_width (s : ByteArray) (pos : Nat) (h : pos < s.size) : 1 ≤ (Utf8.decode s pos).2 ∧ pos + (Utf8.decode s pos).2 ≤ s.size := by
  have h1 : 1 ≤ (Utf8.decode s pos).2 := by
    by_cases ha : (s[pos]'h).toNat < 128
    · rw [decode_ascii s pos h ha]; exact Nat.le_refl _
    · exact (decode_high s pos h (by omega)).2
  refine ⟨h1, ?_⟩
  by_cases h2 : (Utf8.decode s pos).2 = 1
  · omega
  · have := (decode_tail s pos ((Utf8.decode s pos).2 - 1) (by omega) (by omega)).1
    omega
/-- One rune: its first byte's step, the others pass. -/
theorem lsGo_rune (s : ByteArray) (d pos b : Nat) (q m : Bool) (acc : List ByteArray) (h : pos < s.size) (ha : 128 ≤ (s[pos]'h).toNat) (hd : d = s.size - pos) :
    lsGo s d pos b q m acc = lsGo s (s.size - (pos + (Utf8.decode s pos).2)) (pos + (Utf8.decode s pos).2) b q false acc := by
  obtain ⟨h1, h2⟩ := decode_width s pos h
  obtain ⟨d', rfl⟩ : ∃ d', d = d' + 1 := ⟨d - 1, by omega⟩
  rw [lsGo_high s d' pos b q m acc (by rw [get_at' s pos h]; exact ha)]
  have := lsGo_run s b q acc ((Utf8.decode s pos).2 - 1) (s.size - (pos + (Utf8.decode s pos).2)) (pos + 1) (fun k hk => by
    have := (decode_tail s pos (k + 1) (by omega) (by omega)).2
    rwa [show pos + (k + 1) = pos + 1 + k by omega] at this)
  rw [show d' = s.size - (pos + (Utf8.decode s pos).2) + ((Utf8.decode s pos).2 - 1) by omega, this]
  congr 1; omega
theorem lsEnd_length (s : ByteArray) (acc : List ByteArray) (b e : Nat) : (lsEnd s acc b e).length ≤ acc.length + 1 := by
  unfold lsEnd; split
  · omega
  · simp
theorem lsEnd_ge (s : ByteArray) (acc : List ByteArray) (b e : Nat) : acc.length ≤ (lsEnd s acc b e).length := by
  unfold lsEnd; split
  · omega
  · simp
theorem lsGo_length (s : ByteArray) : ∀ (d pos b : Nat) (q m : Bool) (acc : List ByteArray), (lsGo s d pos b q m acc).length ≤ acc.length + d + 1
  | 0, _, b, _, _, acc => by have := lsEnd_length s acc b s.size; simp only [lsGo]; omega
  | d + 1, pos, b, q, m, acc => by
    have e1 := lsEnd_length s acc b pos
    have i1 := lsGo_length s d (pos + 1) b q false acc
    have i2 := lsGo_length s d (pos + 1) b q true acc
    have i3 := lsGo_length s d (pos + 1) b (!q) false acc
    have i4 := lsGo_length s d (pos + 1) (pos + 1) q false (lsEnd s acc b pos)
    rw [lsGo]
    repeat' split
    all_goals omega
end Go.Proofs.YtcamdfjjdigaeaaDoor.P
