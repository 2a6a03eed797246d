/- Plain law: what a text says to a base; the document's own reading is the same. -/
import Derived.Test.YtcamdfjjdigaeaaDoorPBase
import Derived.Test.YtcamdfjjdigaeaaDoorPRefList
import Derived.Test.YtcamdfjjdigaeaaDoorFnumRead
import Derived.Test.YtcamdfjjdigaeaaDoorQRef03
set_option linter.unusedVariables false
set_option linter.unusedSimpArgs false
namespace Go.Proofs.YtcamdfjjdigaeaaDoor.P
open Go.RowKit Go.Proofs.YtcamdfjjdigaeaaDoorW.PrintWords Go.Proofs.YtcamdfjjdigaeaaDoorW.PrintLast Go.Proofs.YtcamdfjjdigaeaaDoorW.PrintMore

/-- The number that digits are. -/
def valI (B : Int) (wo : Int → Int) : List Int → Int → Int
  | [], n => n
  | c :: r, n => valI B wo r (n * B + wo c)
theorem valI_append (B : Int) (wo : Int → Int) : ∀ (a b : List Int) (n : Int), valI B wo (a ++ b) n = valI B wo b (valI B wo a n)
  | [], b, n => rfl
  | c :: r, b, n => by rw [List.cons_append, valI, valI, valI_append B wo r b]
theorem valI_ge (B : Int) (hB : B = 10 ∨ B = 16) (wo : Int → Int) : ∀ (l : List Int) (n : Int), 0 ≤ n → (∀ c ∈ l, 0 ≤ wo c) → n ≤ valI B wo l n
  | [], n, _, _ => Int.le_refl _
  | c :: r, n, hn, h => by
    rw [valI]
    have hc := h c (by simp)
    have h1 : n ≤ n * B + wo c := by rcases hB with rfl | rfl <;> omega
    have h2 := valI_ge B hB wo r (n * B + wo c) (by omega) (fun x hx => h x (by simp [hx]))
    omega
/-- A first digit that is not 0, and sixteen more: too many. -/
theorem valI_big (B : Int) (hB : B = 10 ∨ B = 16) (wo : Int → Int) : ∀ (k : Nat) (l : List Int) (n m : Int), l.length = k → 0 < m → m ≤ n → (∀ c ∈ l, 0 ≤ wo c) → m * 10 ^ k ≤ valI B wo l n
  | 0, l, n, m, hl, hm, hn, h => by
    rw [List.length_eq_zero_iff.1 hl, valI]; omega
  | k + 1, [], n, m, hl, hm, hn, h => by simp at hl
  | k + 1, c :: r, n, m, hl, hm, hn, h => by
    rw [valI]
    have hc := h c (by simp)
    have h1 : m * 10 ≤ n * B + wo c := by rcases hB with rfl | rfl <;> omega
    have h2 := valI_big B hB wo k r (n * B + wo c) (m * 10) (by simpa using hl) (by omega) h1 (fun x hx => h x (by simp [hx]))
    have e : m * 10 ^ (k + 1) = m * 10 * 10 ^ k := by rw [Int.pow_succ, Int.mul_comm (10 ^ k) 10, Int.mul_assoc]
    rw [e]; exact h2
theorem numGo_bad (B : Int) (wo : Int → Int) : ∀ (l : List Int) (n : Int) (long : Bool), (∃ c ∈ l, wo c < 0) → numGo B wo l n long = (0, 5)
  | [], n, long, h => by obtain ⟨c, hc, _⟩ := h; cases hc
  | c :: r, n, long, h => by
    rw [numGo]
    by_cases hc : wo c < 0
    · rw [if_pos hc]
    · rw [if_neg hc]
      have h' : ∃ x ∈ r, wo x < 0 := by
        obtain ⟨x, hx, hn⟩ := h
        rcases List.mem_cons.1 hx with rfl | hx
        · exact absurd hn hc
        · exact ⟨x, hx, hn⟩
      split
      · exact numGo_bad B wo r _ _ h'
      · exact numGo_bad B wo r _ _ h'
theorem numGo_long (B : Int) (wo : Int → Int) : ∀ (l : List Int) (n : Int), (∀ c ∈ l, 0 ≤ wo c) → numGo B wo l n true = (0, 3)
  | [], n, h => by rw [numGo, if_pos rfl]
  | c :: r, n, h => by
    rw [numGo, if_neg (by have := h c (by simp); omega), Bool.true_or, if_pos rfl]
    exact numGo_long B wo r n (fun x hx => h x (by simp [hx]))
theorem numGo_ok (B : Int) (hB : B = 10 ∨ B = 16) (wo : Int → Int) : ∀ (l : List Int) (n : Int), 0 ≤ n → n ≤ 9007199254740991 → (∀ c ∈ l, 0 ≤ wo c) → numGo B wo l n false = if 9007199254740991 < valI B wo l n then (0, 3) else (valI B wo l n, 0)
  | [], n, h0, h1, h => by rw [numGo, if_neg (by decide), valI, if_neg (by omega)]
  | c :: r, n, h0, h1, h => by
    have hc := h c (by simp)
    have hr : ∀ x ∈ r, 0 ≤ wo x := fun x hx => h x (by simp [hx])
    rw [numGo, if_neg (by omega), Bool.false_or, valI]
    have e : ((9007199254740991 - wo c) / B < n) ↔ 9007199254740991 < n * B + wo c := by rcases hB with rfl | rfl <;> omega
    by_cases hg : 9007199254740991 < n * B + wo c
    · rw [if_pos (decide_eq_true (e.2 hg)), numGo_long B wo r n hr]
      have := valI_ge B hB wo r (n * B + wo c) (by omega) hr
      rw [if_pos (by omega)]
    · rw [if_neg (by rw [decide_eq_true_eq]; exact fun h => hg (e.1 h))]
      have h0' : 0 ≤ n * B + wo c := by rcases hB with rfl | rfl <;> omega
      exact numGo_ok B hB wo r (n * B + wo c) h0' (by omega) hr
theorem isEmpty_size (s : ByteArray) : s.toList.isEmpty = decide (s.size = 0) := by
  rw [ByteArray.toList_eq, Bool.eq_iff_iff, List.isEmpty_iff, decide_eq_true_eq]
  constructor
  · intro h
    have : s.data.toList.length = 0 := by rw [h]; rfl
    rwa [Array.length_toList] at this
  · intro h
    apply List.eq_nil_of_length_eq_zero
    rw [Array.length_toList]; exact h
theorem numB_tells (B : Int) (hB : B = 10 ∨ B = 16) (wo : Int → Int) (s : ByteArray) : numB B wo s = if s.size = 0 then (0, 5) else if ∃ c ∈ bytesOf s, wo c < 0 then (0, 5) else if 9007199254740991 < valI B wo (bytesOf s) 0 then (0, 3) else (valI B wo (bytesOf s) 0, 0) := by
  unfold numB
  rw [isEmpty_size]
  by_cases h0 : s.size = 0
  · rw [if_pos (decide_eq_true h0), if_pos h0]
  · rw [decide_eq_false h0, if_neg (by decide), if_neg h0]
    by_cases hb : ∃ c ∈ bytesOf s, wo c < 0
    · rw [if_pos hb, numGo_bad B wo _ _ _ hb]
    · rw [if_neg hb]
      exact numGo_ok B hB wo _ 0 (by omega) (by omega) (fun c hc => by
        by_cases h : wo c < 0
        · exact absurd ⟨c, hc, h⟩ hb
        · omega)

/-- The second scan of the reference: the digits behind the noughts. -/
theorem refRead_l2 (B : Int) (hB : B = 10 ∨ B = 16) (wo : Int → Int) (hw : WoOk wo) (hdig : ∀ c, 0 ≤ c → c ≤ 255 → Ev (fun k => tollhouseref03_digit.f k c B) (wo c)) (s : ByteArray) (hs : s.size < 140737488355328) (hall : ∀ c ∈ bytesOf s, 0 ≤ wo c) :
    ∀ (d i : Nat), s.size - i = d → i ≤ s.size → valI B wo ((bytesOf s).take i) 0 ≤ 9007199254740991 → Ev (fun k => tollhouseref03_read.l2 k s B (valI B wo ((bytesOf s).take i) 0) (i : Int)) (if 9007199254740991 < valI B wo (bytesOf s) 0 then (0, 3) else (valI B wo (bytesOf s) 0, 0)) := by
  have hlen := bytes_len s
  intro d
  induction d with
  | zero =>
    intro i hd hi hv
    have hie : i = s.size := by omega
    subst hie
    rw [List.take_of_length_le (by omega)] at hv ⊢
    rw [if_neg (by omega)]
    exact Ev.step (f := fun _ => some (valI B wo (bytesOf s) 0, 0)) (fun k => by rw [tollhouseref03_read.l2, if_neg (by omega)]) (Ev.now _)
  | succ d ih =>
    intro i hd hi hv
    have hlt : i < s.size := by omega
    have hl : i < (bytesOf s).length := by omega
    have hmem : (bytesOf s)[i] ∈ bytesOf s := List.getElem_mem hl
    have hr := bytes_range hmem
    have hw0 := hall _ hmem
    have hw1 := hw.top (bytesOf s)[i]
    have hsn : valI B wo ((bytesOf s).take (i + 1)) 0 = valI B wo ((bytesOf s).take i) 0 * B + wo (bytesOf s)[i] := by
      rw [List.take_succ_eq_append_getElem hl, valI_append]; rfl
    have hsp : valI B wo (bytesOf s) 0 = valI B wo ((bytesOf s).drop (i + 1)) (valI B wo ((bytesOf s).take (i + 1)) 0) := by
      rw [← valI_append, List.take_append_drop]
    have hn0 := valI_ge B hB wo ((bytesOf s).take i) 0 (by omega) (fun c hc => hall c (List.mem_of_mem_take hc))
    have hwrap : IntKind.u64.wrap ((IntKind.u64.wrap (B * valI B wo ((bytesOf s).take i) 0)) + (IntKind.u64.wrap (wo (bytesOf s)[i]))) = valI B wo ((bytesOf s).take (i + 1)) 0 := by
      rw [hsn]
      generalize valI B wo ((bytesOf s).take i) 0 = n at *
      generalize wo (bytesOf s)[i] = c at *
      have e : ∀ x : Int, 0 ≤ x → x < 18446744073709551616 → IntKind.u64.wrap x = x := fun x h1 h2 => by
        have e64 : (2 : Int) ^ IntKind.u64.bits = 18446744073709551616 := by decide
        simp [IntKind.wrap, IntKind.signed, e64]
        omega
      rcases hB with rfl | rfl
      · rw [e (10 * n) (by omega) (by omega), e c (by omega) (by omega), e _ (by omega) (by omega)]; omega
      · rw [e (16 * n) (by omega) (by omega), e c (by omega) (by omega), e _ (by omega) (by omega)]; omega
    have hge := valI_ge B hB wo ((bytesOf s).drop (i + 1)) (valI B wo ((bytesOf s).take (i + 1)) 0) (by rw [hsn]; rcases hB with rfl | rfl <;> omega) (fun c hc => hall c (List.mem_of_mem_drop hc))
    refine Ev.step (f := fun k => (tollhouseref03_digit.f k (bytesOf s)[i] B).bind fun t152 => (if (IntKind.u64.wrap ((IntKind.u64.wrap (B * valI B wo ((bytesOf s).take i) 0)) + (IntKind.u64.wrap (t152)))) > 9007199254740991 then (some (0, 3)) else (tollhouseref03_read.l2 k s B (IntKind.u64.wrap ((IntKind.u64.wrap (B * valI B wo ((bytesOf s).take i) 0)) + (IntKind.u64.wrap (t152)))) (wrap64 ((i : Int) + 1))))) (fun k => by rw [tollhouseref03_read.l2, if_pos (by omega), if_pos (by omega), bt_bytes s i hl]) ?_
    refine Ev.bind (hdig _ hr.1 hr.2) ?_
    rw [hwrap, w64n i (by omega)]
    by_cases hg : valI B wo ((bytesOf s).take (i + 1)) 0 > 9007199254740991
    · rw [if_pos (show 9007199254740991 < valI B wo (bytesOf s) 0 by omega)]
      exact Ev.congr (fun k => by rw [if_pos hg]) (Ev.now _)
    · exact Ev.congr (fun k => by rw [if_neg hg]) (ih (i + 1) (by omega) (by omega) (by omega))
/-- The noughts ahead. -/
theorem refRead_l1 (B : Int) (hB : B = 10 ∨ B = 16) (wo : Int → Int) (hw : WoOk wo) (hz : ∀ c, 0 ≤ c → c ≤ 255 → (wo c = 0 ↔ c = 48)) (hdig : ∀ c, 0 ≤ c → c ≤ 255 → Ev (fun k => tollhouseref03_digit.f k c B) (wo c)) :
    ∀ (d : Nat) (s : ByteArray), s.size = d + 1 → s.size < 140737488355328 → (∀ c ∈ bytesOf s, 0 ≤ wo c) → Ev (fun k => tollhouseref03_read.l1 k s B) (if 9007199254740991 < valI B wo (bytesOf s) 0 then (0, 3) else (valI B wo (bytesOf s) 0, 0)) := by
  have fin : ∀ (s : ByteArray), s.size < 140737488355328 → (∀ c ∈ bytesOf s, 0 ≤ wo c) → 0 < s.size → (1 < s.size → ∀ h : 0 < (bytesOf s).length, (bytesOf s)[0] ≠ 48) → Ev (fun k => tollhouseref03_read.j2 k s B) (if 9007199254740991 < valI B wo (bytesOf s) 0 then (0, 3) else (valI B wo (bytesOf s) 0, 0)) := by
    intro s hs hall h0 hf
    have hlen := bytes_len s
    by_cases h16 : s.size > 16
    · obtain ⟨c, r, hcr⟩ : ∃ c r, bytesOf s = c :: r := by cases hb : bytesOf s with | nil => rw [hb] at hlen; simp at hlen; omega | cons c r => exact ⟨c, r, rfl⟩
      have h48 : c ≠ 48 := by have := hf (by omega) (by omega); simp only [hcr, List.getElem_cons_zero] at this; exact this
      have hcm : c ∈ bytesOf s := by rw [hcr]; simp
      have hcr' := bytes_range hcm
      have hc1 : 1 ≤ wo c := by
        have h1 := hall c hcm
        have h2 := mt (hz c hcr'.1 hcr'.2).1 h48
        omega
      have hbig : 9007199254740991 < valI B wo (bytesOf s) 0 := by
        rw [hcr, valI]
        have hl : r.length = s.size - 1 := by rw [hcr] at hlen; simp at hlen; omega
        have h2 := valI_big B hB wo 16 (r.take 16) (0 * B + wo c) 1 (by rw [List.length_take]; omega) (by omega) (by omega) (fun x hx => hall x (by rw [hcr]; simp [List.mem_of_mem_take hx]))
        have h3 := valI_ge B hB wo (r.drop 16) (valI B wo (r.take 16) (0 * B + wo c)) (by omega) (fun x hx => hall x (by rw [hcr]; simp [List.mem_of_mem_drop hx]))
        rw [← valI_append, List.take_append_drop] at h3
        have e : (1 : Int) * 10 ^ 16 = 10000000000000000 := by decide
        rw [e] at h2
        omega
      rw [if_pos hbig]
      exact Ev.step (f := fun _ => some (0, 3)) (fun k => by rw [tollhouseref03_read.j2, if_pos (by omega)]) (Ev.now _)
    · refine Ev.step (f := fun k => tollhouseref03_read.l2 k s B 0 0) (fun k => by rw [tollhouseref03_read.j2, if_neg (by omega)]) ?_
      have := refRead_l2 B hB wo hw hdig s hs hall s.size 0 (by omega) (by omega) (by simp [valI])
      simpa [valI] using this
  intro d
  induction d with
  | zero =>
    intro s hsz hs hall
    refine Ev.step (f := fun k => tollhouseref03_read.j2 k s B) (fun k => by rw [tollhouseref03_read.l1, if_neg (by omega)]) ?_
    exact fin s hs hall (by omega) (fun h => by omega)
  | succ d ih =>
    intro s hsz hs hall
    have hlen := bytes_len s
    have hl : 0 < (bytesOf s).length := by omega
    have hb0 : bt s 0 = (bytesOf s)[0] := bt_bytes s 0 hl
    by_cases h48 : (bytesOf s)[0] = 48
    · refine Ev.step (f := fun k => tollhouseref03_read.l1 k (s.extract 1 s.size) B) (fun k => by rw [tollhouseref03_read.l1, if_pos (by omega), if_pos (by omega), hb0, if_pos h48, if_pos (by omega)]) ?_
      have hx : bytesOf (s.extract 1 s.size) = (bytesOf s).drop 1 := by rw [ext_lists, List.take_of_length_le (by omega)]
      have hval : valI B wo (bytesOf s) 0 = valI B wo ((bytesOf s).drop 1) 0 := by
        have : bytesOf s = (bytesOf s)[0] :: (bytesOf s).drop 1 := by
          have := List.drop_eq_getElem_cons hl
          simpa using this
        conv => lhs; rw [this]
        rw [valI, h48, (hz 48 (by omega) (by omega)).2 rfl]
        simp
      have := ih (s.extract 1 s.size) (by rw [ByteArray.size_extract]; omega) (by rw [ByteArray.size_extract]; omega) (fun c hc => hall c (by rw [hx] at hc; exact List.mem_of_mem_drop hc))
      rw [hx] at this
      rw [hval]
      exact this
    · refine Ev.step (f := fun k => tollhouseref03_read.j2 k s B) (fun k => by rw [tollhouseref03_read.l1, if_pos (by omega), if_pos (by omega), hb0, if_neg h48]) ?_
      exact fin s hs hall (by omega) (fun _ _ => h48)
/-- The first scan. -/
theorem refRead_l0 (B : Int) (hB : B = 10 ∨ B = 16) (wo : Int → Int) (hw : WoOk wo) (hz : ∀ c, 0 ≤ c → c ≤ 255 → (wo c = 0 ↔ c = 48)) (hdig : ∀ c, 0 ≤ c → c ≤ 255 → Ev (fun k => tollhouseref03_digit.f k c B) (wo c)) (s : ByteArray) (h0 : 0 < s.size) (hs : s.size < 140737488355328) :
    ∀ (d i : Nat), s.size - i = d → i ≤ s.size → (∀ c ∈ (bytesOf s).take i, 0 ≤ wo c) → Ev (fun k => tollhouseref03_read.l0 k s B (i : Int)) (numB B wo s) := by
  have hlen := bytes_len s
  intro d
  induction d with
  | zero =>
    intro i hd hi hok
    rw [List.take_of_length_le (by omega)] at hok
    refine Ev.step (f := fun k => tollhouseref03_read.l1 k s B) (fun k => by rw [tollhouseref03_read.l0, if_neg (by omega)]) ?_
    rw [numB_tells B hB, if_neg (by omega), if_neg (by rintro ⟨c, hc, h⟩; have := hok c hc; omega)]
    exact refRead_l1 B hB wo hw hz hdig (s.size - 1) s (by omega) hs hok
  | succ d ih =>
    intro i hd hi hok
    have hl : i < (bytesOf s).length := by omega
    have hmem : (bytesOf s)[i] ∈ bytesOf s := List.getElem_mem hl
    have hr := bytes_range hmem
    refine Ev.step (f := fun k => (tollhouseref03_digit.f k (bytesOf s)[i] B).bind fun t151 => (if t151 < 0 then (some (0, 5)) else (tollhouseref03_read.l0 k s B (wrap64 ((i : Int) + 1))))) (fun k => by rw [tollhouseref03_read.l0, if_pos (by omega), if_pos (by omega), bt_bytes s i hl]) ?_
    refine Ev.bind (hdig _ hr.1 hr.2) ?_
    by_cases hneg : wo (bytesOf s)[i] < 0
    · rw [numB_tells B hB, if_neg (by omega), if_pos ⟨_, hmem, hneg⟩]
      exact Ev.congr (fun k => by rw [if_pos hneg]) (Ev.now _)
    · refine Ev.congr (fun k => by rw [if_neg hneg, w64n i (by omega)]) (ih (i + 1) (by omega) (by omega) ?_)
      intro c hc
      rw [List.take_succ_eq_append_getElem hl] at hc
      rcases List.mem_append.1 hc with hc | hc
      · exact hok c hc
      · rw [List.mem_singleton.1 hc]; omega
theorem refRead_ok (B : Int) (hB : B = 10 ∨ B = 16) (wo : Int → Int) (hw : WoOk wo) (hz : ∀ c, 0 ≤ c → c ≤ 255 → (wo c = 0 ↔ c = 48)) (hdig : ∀ c, 0 ≤ c → c ≤ 255 → Ev (fun k => tollhouseref03_digit.f k c B) (wo c)) (s : ByteArray) (hs : s.size < 140737488355328) : Ev (fun k => tollhouseref03_read.f k s B) (numB B wo s) := by
  unfold tollhouseref03_read.f
  by_cases h0 : s.size = 0
  · rw [numB_tells B hB, if_pos h0]
    exact Ev.congr (fun k => by rw [if_pos (by omega)]) (Ev.now _)
  · exact Ev.congr (fun k => by rw [if_neg (by omega)]; rfl) (refRead_l0 B hB wo hw hz hdig s (by omega) hs s.size 0 (by omega) (by omega) (by simp))

theorem decDigit_fin : ∀ n : Fin 256, tollhouseref03_digit.f 10 ((n.val : Nat) : Int) 10 = some (decW ((n.val : Nat) : Int)) := by decide +kernel
theorem decDigit (c : Int) (h0 : 0 ≤ c) (h1 : c ≤ 255) : Ev (fun k => tollhouseref03_digit.f k c 10) (decW c) := by
  have := decDigit_fin ⟨c.toNat, by omega⟩
  simp only [Int.toNat_of_nonneg h0] at this
  exact Ev.of (fun k => tollhouseref03_digit.mono _ _ k) this
theorem refDecimal_ok (s : ByteArray) (hs : s.size < 140737488355328) : Ev (fun k => tollhouseref03_Decimal.f k s) (numB 10 decW s) := by
  unfold tollhouseref03_Decimal.f
  exact Ev.bind (refRead_ok 10 (.inl rfl) decW decOk (fun c h0 h1 => by unfold decW; split <;> omega) decDigit s hs) (Ev.now _)
end Go.Proofs.YtcamdfjjdigaeaaDoor.P
