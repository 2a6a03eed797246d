/- Plain law: NumTrims: what is read and written is the text without noughts ahead, in small letters. -/
import Derived.Test.YtjiiahiglpcpmaaDoorPNumReads
import Derived.Test.YtjiiahiglpcpmaaDoorPNumVal
import Derived.Test.YtjiiahiglpcpmaaDoorQtollhouselaw03NumTrims
set_option linter.unusedVariables false
set_option linter.unusedSimpArgs false
namespace Go.Proofs.YtjiiahiglpcpmaaDoor.P
open Go.RowKit Go.Proofs.YtjiiahiglpcpmaaDoorW.PrintWords Go.Proofs.YtjiiahiglpcpmaaDoorW.PrintLast Go.Proofs.YtjiiahiglpcpmaaDoorW.PrintMore

theorem tl_arr (l : List UInt8) : (⟨l.toArray⟩ : ByteArray).toList = l := by rw [ByteArray.toList_eq]
theorem num_ok_facts (B : Int) (hB : B = 10 ∨ B = 16) (wo : Int → Int) (s : ByteArray) (n e : Int) (h : numB B wo s = (n, e)) (he : e = 0) : (∀ c ∈ bytesOf s, 0 ≤ wo c) ∧ n = valI B wo (bytesOf s) 0 ∧ n ≤ 9007199254740991 := by
  subst he
  rw [numB_tells B hB] at h
  split at h
  · cases h
  · split at h
    · cases h
    · rename_i hc
      split at h
      · cases h
      · rename_i hl
        obtain ⟨rfl, _⟩ := Prod.mk.inj h
        exact ⟨fun c hm => Int.not_lt.1 fun hlt => hc ⟨c, hm, hlt⟩, rfl, by omega⟩
theorem text_ok (n : Int) (h0 : 0 ≤ n) (h1 : n ≤ 9007199254740991) : num_Text.f n = some (⟨(digGo 10 65 n.toNat []).toArray⟩, 0) ∧ num_HexText.f n = some (⟨(digGo 16 65 n.toNat []).toArray⟩, 0) := by
  unfold num_Text.f num_HexText.f num_write.f fmtUint.f
  rw [if_neg (by omega), if_pos (show 0 ≤ n ∧ n < 18446744073709551616 by omega), if_pos rfl, if_neg (by omega), if_pos (show 0 ≤ n ∧ n < 18446744073709551616 by omega), if_neg (by decide), if_pos rfl]
  exact ⟨rfl, rfl⟩
theorem dec_letter_fin : ∀ n : Fin 256, 0 ≤ decW ((n.val : Nat) : Int) → hexC (decW ((n.val : Nat) : Int)).toNat = UInt8.ofNat n.val := by decide +kernel
theorem hex_letter_fin : ∀ n : Fin 256, 0 ≤ hexW ((n.val : Nat) : Int) → (hexC (hexW ((n.val : Nat) : Int)).toNat = Lib.lowerB (UInt8.ofNat n.val) ∧ n.val < 128) := by decide +kernel
theorem decW_z : ∀ n : Fin 256, decW ((n.val : Nat) : Int) = 0 → n.val = 48 := by decide +kernel
theorem hexW_z : ∀ n : Fin 256, hexW ((n.val : Nat) : Int) = 0 → n.val = 48 := by decide +kernel
theorem decW_top (c : Int) : decW c < 10 := by unfold decW; split <;> omega
theorem hexW_top (c : Int) : hexW c < 16 := by unfold hexW; repeat' split <;> omega
theorem bytes_mem {s : ByteArray} {b : UInt8} (h : b ∈ s.data.toList) : (b.toNat : Int) ∈ bytesOf s := by unfold bytesOf; exact List.mem_map.2 ⟨b, h, rfl⟩
theorem trim_mem {z : List UInt8} {c b : UInt8} (h : b ∈ Lib.trimLeftB z c) : b ∈ z := (List.dropWhile_sublist _).subset h
theorem pow_big (B : Nat) (hB : B = 10 ∨ B = 16) (n : Nat) (h : n ≤ 9007199254740991) : n < B ^ 65 := by rcases hB with rfl | rfl <;> exact Nat.lt_of_le_of_lt h (by decide)
theorem dec_trims (s : ByteArray) (n e : Int) (h : numB 10 decW s = (n, e)) (he : e = 0) : digGo 10 65 n.toNat [] = if Lib.trimLeftB s.data.toList 48 = [] then [48] else Lib.trimLeftB s.data.toList 48 := by
  obtain ⟨h1, h2, h3⟩ := num_ok_facts 10 (.inl rfl) decW s n e h he
  have hp := valI_nonneg 10 (.inl rfl) decW (bytesOf s) h1
  rw [dig_trim 10 (.inl rfl) decW (by decide) decW_z s.data.toList (fun b hb => ⟨h1 _ (bytes_mem hb), decW_top _⟩) n.toNat (by rw [h2]; rfl) 65 (pow_big 10 (.inl rfl) _ (by omega)) (by decide)]
  split
  · rfl
  · refine (List.map_congr_left fun b hb => ?_).trans (List.map_id _)
    have := dec_letter_fin ⟨b.toNat, b.toNat_lt⟩ (h1 _ (bytes_mem (trim_mem hb)))
    exact this.trans (by simp)
theorem hex_trims (s : ByteArray) (n e : Int) (h : numB 16 hexW s = (n, e)) (he : e = 0) : digGo 16 65 n.toNat [] = if Lib.trimLeftB s.data.toList 48 = [] then [48] else Lib.toLowerA (Lib.trimLeftB s.data.toList 48) := by
  obtain ⟨h1, h2, h3⟩ := num_ok_facts 16 (.inr rfl) hexW s n e h he
  have hp := valI_nonneg 16 (.inr rfl) hexW (bytesOf s) h1
  rw [dig_trim 16 (.inr rfl) hexW (by decide) hexW_z s.data.toList (fun b hb => ⟨h1 _ (bytes_mem hb), hexW_top _⟩) n.toNat (by rw [h2]; rfl) 65 (pow_big 16 (.inr rfl) _ (by omega)) (by decide)]
  split
  · rfl
  · refine List.map_congr_left fun b hb => ?_
    have := (hex_letter_fin ⟨b.toNat, b.toNat_lt⟩ (h1 _ (bytes_mem (trim_mem hb)))).1
    exact this.trans (by simp)
theorem trims_j1 (k : Nat) (n : Int) (t want : ByteArray) (h : num_HexText.f n = some (t, 0)) (ht : t.toList = want.toList) : tollhouselaw03_NumTrims.j1 (k + 1) n want = some true := by
  rw [tollhouselaw03_NumTrims.j1, h, Option.bind_some, if_pos rfl, if_pos ht, awake03, Option.bind_some]
theorem trims_j0 (k : Nat) (s : ByteArray) (hs : s.size ≤ 1048576) : tollhouselaw03_NumTrims.j0 (k + 2) s = some true := by
  have hh : num_Hex.f s = some (numB 16 hexW s) := by unfold num_Hex.f; rw [if_pos (by omega)]
  rw [tollhouselaw03_NumTrims.j0, hh, Option.bind_some]
  generalize hv : numB 16 hexW s = v
  obtain ⟨n, e⟩ := v
  by_cases he : e = 0
  · obtain ⟨h1, h2, h3⟩ := num_ok_facts 16 (.inr rfl) hexW s n e hv he
    have hp := valI_nonneg 16 (.inr rfl) hexW (bytesOf s) h1
    have ht := hex_trims s n e hv he
    have hx := (text_ok n (by omega) h3).2
    have hl : strings_TrimLeft.f s (⟨#[48]⟩ : ByteArray) = some ⟨(Lib.trimLeftB s.data.toList 48).toArray⟩ := by unfold strings_TrimLeft.f; rw [if_pos rfl]
    have hlo : strings_ToLower.f ⟨(Lib.trimLeftB s.data.toList 48).toArray⟩ = some ⟨(Lib.toLowerA (Lib.trimLeftB s.data.toList 48)).toArray⟩ := by
      unfold strings_ToLower.f
      refine if_pos ⟨?_, ?_⟩
      · have : (Lib.trimLeftB s.data.toList 48).length ≤ s.data.toList.length := (List.dropWhile_sublist _).length_le
        have e2 : s.data.toList.length = s.size := by rw [Array.length_toList]; rfl
        show (Lib.trimLeftB s.data.toList 48).toArray.size ≤ _
        rw [List.size_toArray]
        omega
      · intro b hb
        exact (hex_letter_fin ⟨b.toNat, b.toNat_lt⟩ (h1 _ (bytes_mem (trim_mem hb)))).2
    rw [if_pos he, hl, Option.bind_some, hlo, Option.bind_some, tl_arr]
    by_cases hz : Lib.trimLeftB s.data.toList 48 = []
    · rw [if_pos (by rw [hz]; rfl)]
      exact trims_j1 k n _ _ hx (by rw [tl_arr, ht, if_pos hz, ByteArray.toList_eq])
    · rw [if_neg (by unfold Lib.toLowerA; simpa using hz)]
      exact trims_j1 k n _ _ hx (by rw [tl_arr, tl_arr, ht, if_neg hz])
  · rw [if_neg he, awake03, Option.bind_some]
theorem NumTrims_true (s : ByteArray) (w0 : s.size ≤ 140737488351232) (hB : s.size ≤ 1048576) : ∃ k, tollhouselaw03_NumTrims.f k s = some true := by
  refine ⟨2, ?_⟩
  have hd : num_Decimal.f s = some (numB 10 decW s) := by unfold num_Decimal.f; rw [if_pos (by omega)]
  have hj := trims_j0 0 s hB
  unfold tollhouselaw03_NumTrims.f
  rw [hd, Option.bind_some, hj]
  generalize hv : numB 10 decW s = v
  obtain ⟨n, e⟩ := v
  by_cases he : e = 0
  · obtain ⟨h1, h2, h3⟩ := num_ok_facts 10 (.inl rfl) decW s n e hv he
    have hp := valI_nonneg 10 (.inl rfl) decW (bytesOf s) h1
    have ht := dec_trims s n e hv he
    have hx := (text_ok n (by omega) h3).1
    have hl : strings_TrimLeft.f s (⟨#[48]⟩ : ByteArray) = some ⟨(Lib.trimLeftB s.data.toList 48).toArray⟩ := by unfold strings_TrimLeft.f; rw [if_pos rfl]
    rw [if_pos he, hl, Option.bind_some, tl_arr]
    by_cases hz : Lib.trimLeftB s.data.toList 48 = []
    · rw [if_pos hz, hx, Option.bind_some, if_pos rfl, if_pos (by rw [tl_arr, ht, if_pos hz])]
    · rw [if_neg hz, hx, Option.bind_some, if_pos rfl, if_pos (by rw [tl_arr, ht, if_neg hz])]
  · rw [if_neg he]
end Go.Proofs.YtjiiahiglpcpmaaDoor.P
