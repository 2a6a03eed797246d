/- Plain law: the numeral of what digits say is the digits, without noughts ahead. -/
import Derived.Test.YtjiiahiglpcpmaaDoorPRef03
import Derived.Test.YtjiiahiglpcpmaaDoorPDig
import Derived.Lib.TrimByte
set_option linter.unusedVariables false
set_option linter.unusedSimpArgs false
namespace Go.Proofs.YtjiiahiglpcpmaaDoor.P
open Go.RowKit Go.Proofs.YtjiiahiglpcpmaaDoorW.PrintWords Go.Proofs.YtjiiahiglpcpmaaDoorW.PrintLast Go.Proofs.YtjiiahiglpcpmaaDoorW.PrintMore

theorem valI_pos (B : Int) (hB : B = 10 ∨ B = 16) (wo : Int → Int) (c : Int) (r : List Int) (h : ∀ x ∈ c :: r, 0 ≤ wo x) (hc : wo c ≠ 0) : 0 < valI B wo (c :: r) 0 := by
  rw [valI]
  have h0 := h c (by simp)
  have := valI_ge B hB wo r (0 * B + wo c) (by omega) (fun x hx => h x (by simp [hx]))
  omega
theorem valI_nonneg (B : Int) (hB : B = 10 ∨ B = 16) (wo : Int → Int) (l : List Int) (h : ∀ x ∈ l, 0 ≤ wo x) : 0 ≤ valI B wo l 0 := valI_ge B hB wo l 0 (Int.le_refl _) h
theorem dig_val (B : Nat) (hB : B = 10 ∨ B = 16) (wo : Int → Int) : ∀ (k : Nat) (l : List Int), l.length = k + 1 → (∀ c ∈ l, 0 ≤ wo c ∧ wo c < B) → (∀ c r, l = c :: r → wo c ≠ 0 ∨ r = []) →
    ∀ f, (valI B wo l 0).toNat < B ^ f → 0 < f → digGo B f (valI B wo l 0).toNat [] = l.map fun c => hexC (wo c).toNat
  | k, l, hl, hd, h1, 0, _, hf => absurd hf (by decide)
  | 0, l, hl, hd, h1, f + 1, hv, hf => by
    obtain ⟨c, rfl⟩ := List.length_eq_one_iff.1 hl
    have hc := hd c (by simp)
    have e : (valI B wo [c] 0).toNat = (wo c).toNat := by rw [valI, valI]; congr 1; omega
    have hlt : (wo c).toNat < B := by omega
    rw [e]
    unfold digGo
    rw [if_pos (Nat.div_eq_of_lt hlt), Nat.mod_eq_of_lt hlt]
    rfl
  | k + 1, l, hl, hd, h1, f + 1, hv, hf => by
    obtain ⟨a, c, rfl⟩ : ∃ a c, l = a ++ [c] := by
      rcases List.eq_nil_or_concat l with h | ⟨a, c, h⟩
      · rw [h] at hl; cases hl
      · exact ⟨a, c, by rw [h]; simp⟩
    have hal : a.length = k + 1 := by simpa using hl
    have hB' : (B : Int) = 10 ∨ (B : Int) = 16 := by omega
    have hda : ∀ x ∈ a, 0 ≤ wo x ∧ wo x < B := fun x hx => hd x (by simp [hx])
    have hc := hd c (by simp)
    have h1a : ∀ x r, a = x :: r → wo x ≠ 0 := fun x r e => by
      rcases h1 x (r ++ [c]) (by rw [e]; rfl) with h | h
      · exact h
      · simp at h
    have hpos : 0 < valI B wo a 0 := by
      cases a with
      | nil => cases hal
      | cons x r => exact valI_pos B hB' wo x r (fun y hy => (hda y hy).1) (h1a x r rfl)
    have e : (valI B wo (a ++ [c]) 0).toNat = (valI B wo a 0).toNat * B + (wo c).toNat := by
      rw [valI_append, valI, valI]
      generalize valI B wo a 0 = v at hpos
      rcases hB with rfl | rfl <;> omega
    have ih := dig_val B hB wo k a hal hda (fun x r e => .inl (h1a x r e)) f
    rw [e] at hv ⊢
    generalize hva : (valI B wo a 0).toNat = v at *
    have hv0 : 0 < v := by omega
    have hlt : (wo c).toNat < B := by omega
    have hq : (v * B + (wo c).toNat) / B = v := by rcases hB with rfl | rfl <;> omega
    have hm : (v * B + (wo c).toNat) % B = (wo c).toNat := by rcases hB with rfl | rfl <;> omega
    have hvf : v < B ^ f := by
      rw [Nat.pow_succ] at hv
      exact Nat.lt_of_mul_lt_mul_right (a := B) (Nat.lt_of_le_of_lt (Nat.le_add_right _ _) hv)
    have hf0 : 0 < f := by
      rcases Nat.eq_zero_or_pos f with h | h
      · subst h; rw [Nat.pow_zero] at hvf; omega
      · exact h
    unfold digGo
    rw [hq, hm, if_neg (by omega), digGo_app, ih hvf hf0, List.map_append]
    rfl
/-- The numeral of what a text of digits says. -/
theorem dig_trim (B : Nat) (hB : B = 10 ∨ B = 16) (wo : Int → Int) (h48 : wo 48 = 0) (hz : ∀ n : Fin 256, wo ((n.val : Nat) : Int) = 0 → n.val = 48) (z : List UInt8) (hd : ∀ b ∈ z, 0 ≤ wo (b.toNat : Int) ∧ wo (b.toNat : Int) < B) (n : Nat) (hn : n = (valI B wo (z.map fun b => (b.toNat : Int)) 0).toNat) (f : Nat) (hf : n < B ^ f) (hf0 : 0 < f) :
    digGo B f n [] = if Lib.trimLeftB z 48 = [] then [48] else (Lib.trimLeftB z 48).map fun b => hexC (wo (b.toNat : Int)).toNat := by
  unfold Lib.trimLeftB
  induction z with
  | nil =>
    have : n = 0 := by rw [hn]; rfl
    subst this
    cases f with
    | zero => cases hf0
    | succ f => rw [List.dropWhile_nil, if_pos rfl]; unfold digGo; rw [if_pos (Nat.zero_div _), Nat.zero_mod]; rfl
  | cons b r ih =>
    by_cases hb : b = 48
    · subst hb
      rw [List.dropWhile_cons_of_pos (by decide)]
      refine ih (fun x hx => hd x (by simp [hx])) ?_
      rw [hn, List.map_cons, valI]
      congr 2
      show 0 * (B : Int) + wo 48 = 0
      rw [h48]; omega
    · rw [List.dropWhile_cons_of_neg (by simpa using hb), if_neg (by simp)]
      subst hn
      refine (dig_val B hB wo r.length ((b :: r).map fun b => (b.toNat : Int)) (by simp) (fun c hc => ?_) (fun c t e => ?_) f hf hf0).trans ?_
      · obtain ⟨x, hx, rfl⟩ := List.mem_map.1 hc
        exact hd x hx
      · rw [List.map_cons] at e
        obtain ⟨rfl, _⟩ := List.cons.inj e
        refine .inl fun h => hb ?_
        have := hz ⟨b.toNat, b.toNat_lt⟩ h
        exact UInt8.toNat_inj.1 this
      · rw [List.map_map]; rfl
end Go.Proofs.YtjiiahiglpcpmaaDoor.P
