/- Plain law: what a numeral says, behind noughts, with one digit more. -/
import Derived.Test.YtjiiahiglpcpmaaDoorPNumVal
import Derived.Lib.Repeat
set_option linter.unusedVariables false
set_option linter.unusedSimpArgs false
namespace Go.Proofs.YtjiiahiglpcpmaaDoor.P
open Go.RowKit Go.Proofs.YtjiiahiglpcpmaaDoorW.PrintWords Go.Proofs.YtjiiahiglpcpmaaDoorW.PrintLast Go.Proofs.YtjiiahiglpcpmaaDoorW.PrintMore

theorem digGo_mem (B : Nat) (hB : 2 ≤ B) : ∀ (f n : Nat) (acc : List UInt8) (b : UInt8), b ∈ digGo B f n acc → (∃ d, d < B ∧ b = hexC d) ∨ b ∈ acc
  | 0, _, _, _, h => .inr h
  | f + 1, n, acc, b, h => by
    have hm : n % B < B := Nat.mod_lt _ (by omega)
    unfold digGo at h
    split at h
    · rcases List.mem_cons.1 h with h | h
      · exact .inl ⟨_, hm, h⟩
      · exact .inr h
    · rcases digGo_mem B hB f (n / B) _ b h with h | h
      · exact .inl h
      · rcases List.mem_cons.1 h with h | h
        · exact .inl ⟨_, hm, h⟩
        · exact .inr h
theorem digGo_ne (B : Nat) : ∀ (f n : Nat) (acc : List UInt8), 0 < f → digGo B f n acc ≠ []
  | 0, _, _, h => absurd h (by decide)
  | f + 1, n, acc, _ => by
    unfold digGo
    split
    · simp
    · rw [digGo_app]
      simp
theorem val_dig (B : Nat) (hB : B = 10 ∨ B = 16) (wo : Int → Int) (g : UInt8 → UInt8) (hw : ∀ d : Nat, d < B → wo ((g (hexC d)).toNat : Int) = d) : ∀ (f n : Nat), n < B ^ f → 0 < f → valI B wo ((digGo B f n []).map fun b => ((g b).toNat : Int)) 0 = n
  | 0, _, _, h => absurd h (by decide)
  | f + 1, n, hn, _ => by
    have hm : n % B < B := Nat.mod_lt _ (by omega)
    have hdm := Nat.div_add_mod n B
    unfold digGo
    split
    · rename_i h0
      rw [List.map_cons, List.map_nil, valI, valI, hw _ hm]
      rw [h0, Nat.mul_zero] at hdm
      omega
    · rename_i h0
      have e1 : n / B < B ^ f := Nat.div_lt_of_lt_mul (by rw [Nat.mul_comm, ← Nat.pow_succ]; exact hn)
      have hf0 : 0 < f := by
        rcases Nat.eq_zero_or_pos f with h | h
        · subst h; rw [Nat.pow_zero] at e1; exact absurd (Nat.lt_one_iff.1 e1) h0
        · exact h
      rw [digGo_app, List.map_append, valI_append, val_dig B hB wo g hw f (n / B) e1 hf0, List.map_cons, List.map_nil, valI, valI, hw _ hm]
      rcases hB with rfl | rfl <;> omega
theorem val_noughts (B : Int) (wo : Int → Int) (h48 : wo 48 = 0) : ∀ (k : Nat), valI B wo ((Lib.repeatL [48] k).map fun b => (b.toNat : Int)) 0 = 0
  | 0 => rfl
  | k + 1 => by
    show valI B wo (((48 : UInt8) :: Lib.repeatL [48] k).map fun b => (b.toNat : Int)) 0 = 0
    rw [List.map_cons, valI, show 0 * B + wo (((48 : UInt8).toNat : Nat) : Int) = 0 from by show 0 * B + wo 48 = 0; rw [h48]; omega]
    exact val_noughts B wo h48 k
/-- A text of digits: what it says. -/
theorem numB_digits (B : Nat) (hB : B = 10 ∨ B = 16) (wo : Int → Int) (s : ByteArray) (v : Int) (hs : bytesOf s ≠ []) (hd : ∀ c ∈ bytesOf s, 0 ≤ wo c) (hv : valI B wo (bytesOf s) 0 = v) : numB B wo s = if 9007199254740991 < v then (0, 3) else (v, 0) := by
  have hB' : (B : Int) = 10 ∨ (B : Int) = 16 := by omega
  have h0 : s.size ≠ 0 := fun h => hs (List.length_eq_zero_iff.1 (by rw [bytesOf_length]; exact h))
  rw [numB_tells B hB', if_neg h0, if_neg (fun ⟨c, hc, hlt⟩ => absurd (hd c hc) (by omega)), hv]
end Go.Proofs.YtjiiahiglpcpmaaDoor.P
