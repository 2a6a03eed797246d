/- Plain law: NumBack: there and back, behind noughts; one digit more. -/
import Derived.Test.YtjiiahiglpcpmaaDoorPNumTrims
import Derived.Test.YtjiiahiglpcpmaaDoorPNumDig
import Derived.Test.YtjiiahiglpcpmaaDoorQtollhouselaw03NumBack
set_option linter.unusedVariables false
set_option linter.unusedSimpArgs false
namespace Go.Proofs.YtjiiahiglpcpmaaDoor.P
open Go.RowKit Go.Proofs.YtjiiahiglpcpmaaDoorW.PrintWords Go.Proofs.YtjiiahiglpcpmaaDoorW.PrintLast Go.Proofs.YtjiiahiglpcpmaaDoorW.PrintMore

theorem bytes_arr (l : List UInt8) : bytesOf (⟨l.toArray⟩ : ByteArray) = l.map fun b => (b.toNat : Int) := rfl
theorem arr_app (a b : List UInt8) : (⟨a.toArray⟩ : ByteArray) ++ (⟨b.toArray⟩ : ByteArray) = ⟨(a ++ b).toArray⟩ := by
  apply ByteArray.ext
  rw [ByteArray.data_append]
  simp
theorem dec_hexC : ∀ d : Fin 10, decW ((hexC d.val).toNat : Int) = d.val := by decide +kernel
theorem hex_hexC : ∀ d : Fin 16, hexW ((hexC d.val).toNat : Int) = d.val := by decide +kernel
theorem hex_upC : ∀ d : Fin 16, hexW ((Lib.upperB (hexC d.val)).toNat : Int) = d.val := by decide +kernel
theorem hexC_low : ∀ d : Fin 16, (hexC d.val).toNat < 128 := by decide +kernel
theorem enc_dec : ∀ d : Fin 10, Utf8.encode (wrap32 (IntKind.u64.wrap (48 + ((d.val : Nat) : Int)))) = ⟨[hexC d.val].toArray⟩ := by decide +kernel
theorem enc_hex : ∀ d : Fin 16, Utf8.encode (bt (⟨#[48, 49, 50, 51, 52, 53, 54, 55, 56, 57, 97, 98, 99, 100, 101, 102]⟩ : ByteArray) ((d.val : Nat) : Int)) = ⟨[hexC d.val].toArray⟩ := by decide +kernel
theorem rep_mem : ∀ (k : Nat) (b : UInt8), b ∈ Lib.repeatL [48] k → b = 48
  | 0, b, h => by cases h
  | k + 1, b, h => by
    have h' : b ∈ (48 : UInt8) :: Lib.repeatL [48] k := h
    rcases List.mem_cons.1 h' with h | h
    · exact h
    · exact rep_mem k b h
/-- Noughts, letters of a numeral (turned by g), some letters more. -/
theorem numB_lead (B : Nat) (hB : B = 10 ∨ B = 16) (wo : Int → Int) (h48 : wo 48 = 0) (g : UInt8 → UInt8) (hw : ∀ d : Nat, d < B → wo ((g (hexC d)).toNat : Int) = d) (k n : Nat) (hn : n < B ^ 65) (t : List UInt8) (x : Int) (ht : ∀ b ∈ t, 0 ≤ wo (b.toNat : Int)) (hx : valI B wo (t.map fun b => (b.toNat : Int)) n = x) :
    numB B wo (⟨(Lib.repeatL [48] k ++ ((digGo B 65 n []).map g ++ t)).toArray⟩ : ByteArray) = if 9007199254740991 < x then (0, 3) else (x, 0) := by
  refine numB_digits B hB wo _ x ?_ ?_ ?_
  · rw [bytes_arr]
    intro h
    have h2 := congrArg List.length h
    simp only [List.length_map, List.length_append, List.length_nil] at h2
    have h3 : (digGo B 65 n []).length = 0 := by omega
    exact digGo_ne B 65 n [] (by decide) (List.length_eq_zero_iff.1 h3)
  · intro c hc
    rw [bytes_arr] at hc
    obtain ⟨b, hb, rfl⟩ := List.mem_map.1 hc
    rcases List.mem_append.1 hb with hb | hb
    · rw [rep_mem k b hb]; show 0 ≤ wo 48; rw [h48]; exact Int.le_refl _
    · rcases List.mem_append.1 hb with hb | hb
      · obtain ⟨y, hy, rfl⟩ := List.mem_map.1 hb
        rcases digGo_mem B (by omega) 65 n [] y hy with ⟨d, hd, rfl⟩ | h
        · rw [hw d hd]; omega
        · cases h
      · exact ht b hb
  · rw [bytes_arr, List.map_append, List.map_append, valI_append, val_noughts B wo h48, valI_append, List.map_map]
    have := val_dig B hB wo g hw 65 n hn (by decide)
    rw [show ((fun b : UInt8 => (b.toNat : Int)) ∘ g) = fun b => ((g b).toNat : Int) from rfl, this, hx]
theorem digGo_len (B : Nat) : ∀ (f n : Nat) (acc : List UInt8), (digGo B f n acc).length ≤ f + acc.length
  | 0, _, _ => by unfold digGo; omega
  | f + 1, n, acc => by
    unfold digGo
    split
    · rw [List.length_cons]; omega
    · have := digGo_len B f (n / B) (hexC (n % B) :: acc)
      rw [List.length_cons] at this
      omega
theorem rep_len : ∀ k : Nat, (Lib.repeatL [48] k).length = k
  | 0 => rfl
  | k + 1 => by show ((48 : UInt8) :: Lib.repeatL [48] k).length = k + 1; rw [List.length_cons, rep_len k]
theorem arr_size (l : List UInt8) : (⟨l.toArray⟩ : ByteArray).size = l.length := by show l.toArray.size = _; simp
theorem back_dec (k n : Nat) (hn : n ≤ 9007199254740991) (hk : k ≤ 50) (t : List UInt8) (htl : t.length ≤ 1) (x : Int) (ht : ∀ b ∈ t, 0 ≤ decW (b.toNat : Int)) (hx : valI 10 decW (t.map fun b => (b.toNat : Int)) n = x) :
    num_Decimal.f (⟨(Lib.repeatL [48] k ++ (digGo 10 65 n [] ++ t)).toArray⟩ : ByteArray) = some (if 9007199254740991 < x then (0, 3) else (x, 0)) := by
  have hl := digGo_len 10 65 n []
  have hr := rep_len k
  unfold num_Decimal.f
  rw [if_pos (by rw [arr_size, List.length_append, List.length_append, hr]; simp only [List.length_nil] at hl; omega)]
  have := numB_lead 10 (.inl rfl) decW (by decide) id (fun d hd => dec_hexC ⟨d, hd⟩) k n (pow_big 10 (.inl rfl) n hn) t x ht hx
  rw [List.map_id] at this
  exact congrArg some this
theorem back_hex (g : UInt8 → UInt8) (hg : ∀ d : Nat, d < 16 → hexW ((g (hexC d)).toNat : Int) = d) (k n : Nat) (hn : n ≤ 9007199254740991) (hk : k ≤ 50) (t : List UInt8) (htl : t.length ≤ 1) (x : Int) (ht : ∀ b ∈ t, 0 ≤ hexW (b.toNat : Int)) (hx : valI 16 hexW (t.map fun b => (b.toNat : Int)) n = x) :
    num_Hex.f (⟨(Lib.repeatL [48] k ++ ((digGo 16 65 n []).map g ++ t)).toArray⟩ : ByteArray) = some (if 9007199254740991 < x then (0, 3) else (x, 0)) := by
  have hl := digGo_len 16 65 n []
  have hr := rep_len k
  unfold num_Hex.f
  rw [if_pos (by rw [arr_size, List.length_append, List.length_append, List.length_map, hr]; simp only [List.length_nil] at hl; omega)]
  exact congrArg some (numB_lead 16 (.inr rfl) hexW (by decide) g hg k n (pow_big 16 (.inr rfl) n hn) t x ht hx)
theorem back_j0 (n q : Nat) (hn : n ≤ 9007199254740991) (hq : q < 256) : tollhouselaw03_NumBack.j0 1 n q ⟨(digGo 10 65 n []).toArray⟩ ⟨(digGo 16 65 n []).toArray⟩ false = some true := by
  have hd10 : q % 10 < 10 := Nat.mod_lt _ (by decide)
  have hd16 : q % 16 < 16 := Nat.mod_lt _ (by decide)
  have e10 : IntKind.u64.wrap (Int.tmod (q : Int) 10) = ((q % 10 : Nat) : Int) := by rw [Int.tmod_eq_emod_of_nonneg (by omega), IntKind.wrap_u64]; omega
  have e16 : IntKind.u64.wrap (Int.tmod (q : Int) 16) = ((q % 16 : Nat) : Int) := by rw [Int.tmod_eq_emod_of_nonneg (by omega), IntKind.wrap_u64]; omega
  have h10 := enc_dec ⟨q % 10, hd10⟩
  have h16 := enc_hex ⟨q % 16, hd16⟩
  have hm : IntKind.u64.wrap (IntKind.u64.wrap ((n : Int) * 10) + ((q % 10 : Nat) : Int)) = (n : Int) * 10 + ((q % 10 : Nat) : Int) := by rw [IntKind.wrap_u64, IntKind.wrap_u64]; omega
  have hg : IntKind.u64.wrap (IntKind.u64.wrap ((n : Int) * 16) + ((q % 16 : Nat) : Int)) = (n : Int) * 16 + ((q % 16 : Nat) : Int) := by rw [IntKind.wrap_u64, IntKind.wrap_u64]; omega
  have D := back_dec 0 n hn (by omega) [hexC (q % 10)] (by simp) ((n : Int) * 10 + ((q % 10 : Nat) : Int)) (fun b hb => by rw [List.mem_singleton.1 hb, dec_hexC ⟨q % 10, hd10⟩]; simp; omega) (by
    rw [List.map_cons, List.map_nil, valI, valI, dec_hexC ⟨q % 10, hd10⟩])
  have H := back_hex id (fun d hd => hex_hexC ⟨d, hd⟩) 0 n hn (by omega) [hexC (q % 16)] (by simp) ((n : Int) * 16 + ((q % 16 : Nat) : Int)) (fun b hb => by rw [List.mem_singleton.1 hb, hex_hexC ⟨q % 16, hd16⟩]; simp; omega) (by
    rw [List.map_cons, List.map_nil, valI, valI, hex_hexC ⟨q % 16, hd16⟩])
  rw [List.map_id] at H
  have l10 := digGo_len 10 65 n []
  have l16 := digGo_len 16 65 n []
  simp only [List.length_nil] at l10 l16
  simp only [] at h10 h16
  rw [tollhouselaw03_NumBack.j0, if_neg (by decide), e10, e16, hm, hg, h10, h16, arr_app, arr_app]
  rw [if_pos (by rw [arr_size, arr_size, List.length_singleton]; omega), show digGo 10 65 n [] ++ [hexC (q % 10)] = Lib.repeatL [48] 0 ++ (digGo 10 65 n [] ++ [hexC (q % 10)]) from rfl, D, Option.bind_some, if_pos (by omega), if_pos (by omega), if_pos (by rw [arr_size, arr_size, List.length_singleton]; omega), show digGo 16 65 n [] ++ [hexC (q % 16)] = Lib.repeatL [48] 0 ++ (digGo 16 65 n [] ++ [hexC (q % 16)]) from rfl, H, Option.bind_some, awake03, Option.bind_some, if_pos rfl]
  generalize (n : Int) * 10 + ((q % 10 : Nat) : Int) = u
  generalize (n : Int) * 16 + ((q % 16 : Nat) : Int) = v
  by_cases hu : 9007199254740991 < u <;> by_cases hv : 9007199254740991 < v <;> simp [hu, hv, Int.not_le.2, Int.not_lt.1, show (u ≤ 9007199254740991) = ¬ (9007199254740991 < u) from propext Int.not_lt.symm, show (v ≤ 9007199254740991) = ¬ (9007199254740991 < v) from propext Int.not_lt.symm]
theorem NumBack_true (a0 a1 a2 : Int) (w0 : (Lit.int .u64 a0).wf = true) (w1 : (Lit.int .u8 a1).wf = true) (w2 : (Lit.int .u8 a2).wf = true) : ∃ k, tollhouselaw03_NumBack.f k a0 a1 a2 = some true := by
  refine ⟨1, ?_⟩
  have hw0 : 0 ≤ a0 ∧ a0 < 18446744073709551616 := by
    simp [Lit.wf, IntKind.min, IntKind.max, IntKind.signed, IntKind.bits] at w0
    omega
  have hw1 : 0 ≤ a1 ∧ a1 < 256 := by
    simp [Lit.wf, IntKind.min, IntKind.max, IntKind.signed, IntKind.bits] at w1
    omega
  have hw2 : 0 ≤ a2 ∧ a2 < 256 := by
    simp [Lit.wf, IntKind.min, IntKind.max, IntKind.signed, IntKind.bits] at w2
    omega
  obtain ⟨n, rfl⟩ : ∃ n : Nat, a0 = n := ⟨a0.toNat, by omega⟩
  obtain ⟨p, rfl⟩ : ∃ n : Nat, a1 = n := ⟨a1.toNat, by omega⟩
  obtain ⟨q, rfl⟩ : ∃ n : Nat, a2 = n := ⟨a2.toNat, by omega⟩
  clear w0 w1 w2
  unfold tollhouselaw03_NumBack.f
  by_cases hm : (n : Int) > 9007199254740991
  · have e1 : num_Text.f (n : Int) = some (⟨#[]⟩, 1) := by unfold num_Text.f num_write.f; rw [if_pos hm]; rfl
    have e2 : num_HexText.f (n : Int) = some (⟨#[]⟩, 1) := by unfold num_HexText.f num_write.f; rw [if_pos hm]; rfl
    rw [e1, e2, Option.bind_some, Option.bind_some, if_pos hm, awake03, Option.bind_some, if_pos rfl, if_pos rfl, if_pos rfl, if_pos (tl_arr [])]
    exact congrArg some (beq_iff_eq.2 (tl_arr []))
  · have hn : n ≤ 9007199254740991 := by omega
    obtain ⟨t1, t2⟩ := text_ok (n : Int) (by omega) (by omega)
    rw [Int.toNat_natCast] at t1 t2
    have hk : p % 51 ≤ 50 := by omega
    have ek : wrap64 (Int.tmod (p : Int) 51) = ((p % 51 : Nat) : Int) := by rw [Int.tmod_eq_emod_of_nonneg (by omega)]; unfold wrap64; omega
    have hrep : strings_Repeat.f (⟨#[48]⟩ : ByteArray) (wrap64 (Int.tmod (p : Int) 51)) = some ⟨(Lib.repeatL [48] (p % 51)).toArray⟩ := by
      rw [ek]
      unfold strings_Repeat.f
      rw [if_pos ⟨rfl, by omega, by omega⟩]
      rfl
    have l10 := digGo_len 10 65 n []
    have l16 := digGo_len 16 65 n []
    simp only [List.length_nil] at l10 l16
    have D := back_dec (p % 51) n hn hk [] (by simp) (n : Int) (fun b hb => by cases hb) rfl
    have H := back_hex Lib.upperB (fun d hd => hex_upC ⟨d, hd⟩) (p % 51) n hn hk [] (by simp) (n : Int) (fun b hb => by cases hb) rfl
    rw [List.append_nil, if_neg (by omega)] at D H
    have hup : strings_ToUpper.f ⟨(digGo 16 65 n []).toArray⟩ = some ⟨((digGo 16 65 n []).map Lib.upperB).toArray⟩ := by
      unfold strings_ToUpper.f
      refine if_pos ⟨by rw [arr_size]; omega, fun b hb => ?_⟩
      rcases digGo_mem 16 (by decide) 65 n [] b hb with ⟨d, hd, rfl⟩ | h
      · exact hexC_low ⟨d, hd⟩
      · cases h
    have hj := back_j0 n q hn (by omega)
    rw [t1, Option.bind_some, t2, Option.bind_some, if_neg hm, hrep, Option.bind_some, if_pos (by rw [arr_size, arr_size, rep_len]; omega), arr_app, D, Option.bind_some, hup, Option.bind_some, if_pos (by rw [arr_size, arr_size, rep_len, List.length_map]; omega), arr_app, H, Option.bind_some, if_pos rfl, if_pos rfl, if_pos rfl, if_pos rfl, if_pos rfl, bne_self_eq_false]
    exact hj
end Go.Proofs.YtjiiahiglpcpmaaDoor.P
