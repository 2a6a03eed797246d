/- Ports: a text's number and a number's text. -/
import Derived.Test.YteggopolokblhaaDoorFuriport
set_option linter.unusedVariables false
set_option linter.unusedSimpArgs false
namespace Go.Proofs.YteggopolokblhaaDoor.P
open Go Go.RowKit

theorem parse_app : ∀ (x y : List UInt8) (acc : Nat), Lib.parseUint10 acc (x ++ y) = match Lib.parseUint10 acc x with
    | .ok a => Lib.parseUint10 a y
    | e => e
  | [], y, acc => rfl
  | c :: x, y, acc => by
    rw [List.cons_append, Lib.parseUint10, Lib.parseUint10]
    split
    · split
      · rfl
      · split
        · rfl
        · exact parse_app x y _
    · rfl
theorem dec_ofNat (d : Nat) (h : d < 10) : (UInt8.ofNat (48 + d)).toNat = 48 + d := by
  rw [UInt8.toNat_ofNat']; omega
theorem dec_parse : ∀ (f n : Nat), n < 10 ^ f → n < 1000000000000000000 → Lib.parseUint10 0 (Lib.decDigits n) = .ok n
  | 0, n, h, _ => by
    obtain rfl : n = 0 := by simpa using h
    decide +kernel
  | f + 1, n, h, hb => by
    rw [Lib.decDigits]
    split
    · rename_i h10
      have e := dec_ofNat n h10
      rw [Lib.parseUint10, e, if_pos (by omega), if_neg (by omega), if_neg (by omega), Lib.parseUint10]
      congr 1; omega
    · have e := dec_ofNat (n % 10) (Nat.mod_lt _ (by decide))
      rw [parse_app, dec_parse f (n / 10) (by rw [Nat.pow_succ] at h; omega) (by omega)]
      show Lib.parseUint10 (n / 10) [UInt8.ofNat (48 + n % 10)] = _
      rw [Lib.parseUint10, e, if_pos (by omega), if_neg (by omega), if_neg (by omega), Lib.parseUint10]
      congr 1; omega
theorem dec_mem : ∀ (f n : Nat), n < 10 ^ f → ∀ b ∈ Lib.decDigits n, 48 ≤ b.toNat ∧ b.toNat ≤ 57
  | 0, n, h, b, hb => by
    obtain rfl : n = 0 := by simpa using h
    rw [show Lib.decDigits 0 = [48] by decide +kernel] at hb
    obtain rfl : b = 48 := by simpa using hb
    decide
  | f + 1, n, h, b, hb => by
    rw [Lib.decDigits] at hb
    split at hb
    · rename_i h10
      rw [List.mem_singleton] at hb
      subst hb
      rw [dec_ofNat n h10]; omega
    · rcases List.mem_append.1 hb with hb | hb
      · exact dec_mem f (n / 10) (by rw [Nat.pow_succ] at h; omega) b hb
      · rw [List.mem_singleton] at hb
        subst hb
        rw [dec_ofNat (n % 10) (Nat.mod_lt _ (by decide))]; omega
theorem dec_ne (n : Nat) : Lib.decDigits n ≠ [] := by
  rw [Lib.decDigits]; split <;> simp
theorem dec_len : ∀ (f n : Nat), n < 10 ^ f → 0 < f → (Lib.decDigits n).length ≤ f
  | 0, n, _, h => absurd h (by decide)
  | f + 1, n, h, _ => by
    rw [Lib.decDigits]
    split
    · simp
    · cases f with
      | zero => simp at h; omega
      | succ f =>
        have := dec_len (f + 1) (n / 10) (by rw [Nat.pow_succ] at h; omega) (by omega)
        simp only [List.length_append, List.length_cons, List.length_nil]; omega
theorem portL_dec (p : Nat) (h1 : 1 ≤ p) (h2 : p ≤ 65535) : portL (Lib.decDigits p) = p := by
  have hp := dec_parse 5 p (by omega) (by omega)
  have hm := dec_mem 5 p (by omega)
  have ha : Lib.atoiAll (Lib.decDigits p) = .ok (p : Int) := by
    cases hd : Lib.decDigits p with
    | nil => exact absurd hd (dec_ne p)
    | cons c r =>
      rw [hd] at hp hm
      have := hm c (by simp)
      unfold Lib.atoiAll
      simp only
      rw [if_neg (by omega), Lib.parseMag, if_neg (by simp), hp]
      simp only
      rw [if_neg (by omega), if_neg (by omega), if_neg (by omega)]
  have hn : atoiN (Lib.decDigits p) = p := by rw [atoiN, ha]
  have hb : atoiB (Lib.decDigits p) = true := by rw [atoiB, ha]
  unfold portL
  rw [hn, if_pos ⟨hb, by rw [Lib.itoa_nonneg], by omega, by omega⟩]
theorem portL_cases (y : List UInt8) : portL y = 0 ∨ ∃ p : Nat, portL y = p ∧ 1 ≤ p ∧ p ≤ 65535 ∧ y = Lib.decDigits p := by
  unfold portL
  split
  · rename_i h
    refine .inr ⟨(atoiN y).toNat, by omega, by omega, by omega, ?_⟩
    have : Lib.itoa (((atoiN y).toNat : Nat) : Int) = y := by
      rw [show (((atoiN y).toNat : Nat) : Int) = atoiN y by omega]; exact h.2.1
    rw [Lib.itoa_nonneg] at this
    exact this.symm
  · exact .inl rfl
end Go.Proofs.YteggopolokblhaaDoor.P
