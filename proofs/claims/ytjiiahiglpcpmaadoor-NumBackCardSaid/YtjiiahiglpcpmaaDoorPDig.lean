/- The numeral of a number to the base 10 or 16 (plain). -/
import Derived.Lib.ItoaNum
set_option linter.unusedVariables false
set_option linter.unusedSimpArgs false
namespace Go.Proofs.YtjiiahiglpcpmaaDoor.P

/-- A digit's letter. -/
def hexC (n : Nat) : UInt8 := UInt8.ofNat (if n < 10 then 48 + n else 87 + n)
/-- The numeral's letters, ahead of what stands. -/
def digGo (B : Nat) : Nat → Nat → List UInt8 → List UInt8
  | 0, _, acc => acc
  | f + 1, n, acc => if n / B = 0 then hexC (n % B) :: acc else digGo B f (n / B) (hexC (n % B) :: acc)
theorem digGo_app (B : Nat) : ∀ (f n : Nat) (acc : List UInt8), digGo B f n acc = digGo B f n [] ++ acc
  | 0, _, _ => rfl
  | f + 1, n, acc => by
    unfold digGo
    split
    · rfl
    · rw [digGo_app B f _ (_ :: acc), digGo_app B f _ [_], List.append_assoc]; rfl
/-- More rounds than the number has digits change nothing. -/
theorem digGo_more (B : Nat) (hB : 2 ≤ B) : ∀ (f g n : Nat) (acc : List UInt8), n < B ^ f → n < B ^ g → 0 < f → 0 < g → digGo B f n acc = digGo B g n acc
  | 0, _, _, _, _, _, h, _ => absurd h (by decide)
  | _ + 1, 0, _, _, _, _, _, h => absurd h (by decide)
  | f + 1, g + 1, n, acc, hf, hg, _, _ => by
    unfold digGo
    split
    · rfl
    · rename_i h0
      have hnB : B ≤ n := by
        rcases Nat.lt_or_ge n B with h | h
        · exact absurd (Nat.div_eq_of_lt h) h0
        · exact h
      have e1 : n / B < B ^ f := Nat.div_lt_of_lt_mul (by rw [Nat.mul_comm, ← Nat.pow_succ]; exact hf)
      have e2 : n / B < B ^ g := Nat.div_lt_of_lt_mul (by rw [Nat.mul_comm, ← Nat.pow_succ]; exact hg)
      have hf0 : 0 < f := by
        rcases Nat.eq_zero_or_pos f with h | h
        · subst h; rw [Nat.pow_zero] at e1; exact absurd (Nat.lt_one_iff.1 e1) h0
        · exact h
      have hg0 : 0 < g := by
        rcases Nat.eq_zero_or_pos g with h | h
        · subst h; rw [Nat.pow_zero] at e2; exact absurd (Nat.lt_one_iff.1 e2) h0
        · exact h
      exact digGo_more B hB f g _ _ e1 e2 hf0 hg0
theorem dec_digGo : ∀ (f n : Nat), n < 10 ^ f → 0 < f → Lib.decDigits n = digGo 10 f n []
  | 0, _, _, h => absurd h (by decide)
  | f + 1, n, hn, _ => by
    unfold digGo
    rw [Lib.decDigits]
    by_cases h : n < 10
    · rw [dif_pos h, if_pos (Nat.div_eq_of_lt h), Nat.mod_eq_of_lt h]
      unfold hexC
      rw [if_pos h]
    · rw [dif_neg h, if_neg (by omega)]
      have e1 : n / 10 < 10 ^ f := Nat.div_lt_of_lt_mul (by rw [Nat.mul_comm, ← Nat.pow_succ]; exact hn)
      have hf0 : 0 < f := by
        rcases Nat.eq_zero_or_pos f with h | h
        · subst h; rw [Nat.pow_zero] at e1; omega
        · exact h
      rw [digGo_app, dec_digGo f (n / 10) e1 hf0]
      congr 2
      unfold hexC
      rw [if_pos (by omega)]
end Go.Proofs.YtjiiahiglpcpmaaDoor.P
