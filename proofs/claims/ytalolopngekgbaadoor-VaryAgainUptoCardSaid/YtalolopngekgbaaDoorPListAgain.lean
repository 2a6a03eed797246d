/- An element that is listed, with small letters, is listed again, alone: behind a blank, a comma and a blank. -/
import Derived.Test.YtalolopngekgbaaDoorPNames16
set_option linter.unusedVariables false
set_option linter.unusedSimpArgs false
namespace Go.Proofs.YtalolopngekgbaaDoor.P
open Go.RowKit Go.Proofs.YtalolopngekgbaaDoorW.PrintWords Go.Proofs.YtalolopngekgbaaDoorW.PrintLast Go.Proofs.YtalolopngekgbaaDoorW.PrintMore

/-- One byte of an element: quoted, masked; none where it would end. -/
def scan1 (st : Bool × Bool) (c : UInt8) : Option (Bool × Bool) :=
  if st.2 then some (st.1, false)
  else if st.1 && c.toNat == 92 then some (st.1, true)
  else if c.toNat == 34 then some (!st.1, false)
  else if c.toNat == 44 && !st.1 then none
  else some (st.1, false)
def scan : List UInt8 → Bool × Bool → Option (Bool × Bool)
  | [], st => some st
  | c :: r, st => (scan1 st c).bind (scan r)
theorem scan_append : ∀ (a b : List UInt8) (st : Bool × Bool), scan (a ++ b) st = (scan a st).bind (scan b)
  | [], b, st => rfl
  | c :: r, b, st => by
    show (scan1 st c).bind (scan (r ++ b)) = ((scan1 st c).bind (scan r)).bind (scan b)
    cases h : scan1 st c with
    | none => rfl
    | some s => exact scan_append r b s
def isBl (c : UInt8) : Bool := ([32, 9] : List UInt8).contains c
theorem scan_blank {c : UInt8} (h : isBl c = true) : scan1 (false, false) c = some (false, false) := by
  have : c = 32 ∨ c = 9 := by simpa [isBl] using h
  rcases this with rfl | rfl <;> rfl
theorem scan_blanks : ∀ (l : List UInt8), (∀ c ∈ l, isBl c = true) → scan l (false, false) = some (false, false)
  | [], _ => rfl
  | c :: r, h => by
    show (scan1 (false, false) c).bind (scan r) = _
    rw [scan_blank (h c (by simp))]
    exact scan_blanks r (fun x hx => h x (List.mem_cons_of_mem _ hx))
/-- What trimming leaves. -/
theorem dropWhile_split (p : UInt8 → Bool) : ∀ l : List UInt8, ∃ a, l = a ++ l.dropWhile p ∧ (∀ c ∈ a, p c = true)
  | [] => ⟨[], rfl, by simp⟩
  | c :: r => by
    rw [List.dropWhile_cons]
    split
    · rename_i hc
      obtain ⟨a, h1, h2⟩ := dropWhile_split p r
      refine ⟨c :: a, by rw [List.cons_append, ← h1], fun x hx => ?_⟩
      rcases List.mem_cons.1 hx with rfl | hx
      · exact hc
      · exact h2 x hx
    · exact ⟨[], rfl, by simp⟩
theorem dropWhile_head (p : UInt8 → Bool) : ∀ l : List UInt8, l.dropWhile p = [] ∨ ∃ c r, l.dropWhile p = c :: r ∧ p c = false
  | [] => .inl rfl
  | c :: r => by
    rw [List.dropWhile_cons]
    split
    · exact dropWhile_head p r
    · rename_i hc; exact .inr ⟨c, r, rfl, by simpa using hc⟩
theorem trimS_eq (l : List UInt8) : Lib.trimS l [32, 9] = ((l.reverse.dropWhile isBl).reverse).dropWhile isBl := rfl
theorem trimS_split (l : List UInt8) : ∃ a b, l = a ++ Lib.trimS l [32, 9] ++ b ∧ (∀ c ∈ a, isBl c = true) := by
  obtain ⟨b, h1, _⟩ := dropWhile_split isBl l.reverse
  obtain ⟨a, h3, h4⟩ := dropWhile_split isBl ((l.reverse.dropWhile isBl).reverse)
  refine ⟨a, b.reverse, ?_, h4⟩
  rw [trimS_eq, ← h3, ← List.reverse_append, ← h1, List.reverse_reverse]
/-- Trimmed: no blank at either end. -/
def Tidy (t : List UInt8) : Prop := (t.reverse.dropWhile isBl).reverse = t ∧ t.dropWhile isBl = t
theorem dropWhile_of_head {p : UInt8 → Bool} {c : UInt8} {r : List UInt8} (h : p c = false) : (c :: r).dropWhile p = c :: r := by rw [List.dropWhile_cons, if_neg (by simp [h])]
theorem trimS_tidy (l : List UInt8) : Tidy (Lib.trimS l [32, 9]) := by
  rw [trimS_eq]
  generalize hu : (l.reverse.dropWhile isBl) = u
  have hul : u = [] ∨ ∃ c r, u = c :: r ∧ isBl c = false := by rw [← hu]; exact dropWhile_head isBl _
  obtain ⟨a, h1, h2⟩ := dropWhile_split isBl u.reverse
  rcases dropWhile_head isBl u.reverse with h | ⟨c, r, h, hc⟩
  · rw [h]; exact ⟨rfl, rfl⟩
  · refine ⟨?_, by rw [h]; exact dropWhile_of_head hc⟩
    -- the last of it is the last of u.reverse
    rcases hul with h0 | ⟨d, s, h0, hd⟩
    · rw [h0] at h; simp at h
    · have e1 : u = (u.reverse.dropWhile isBl).reverse ++ a.reverse := by rw [← List.reverse_append, ← h1, List.reverse_reverse]
      rw [h0] at e1
      cases ht : ((d :: s).reverse.dropWhile isBl).reverse with
      | nil => rw [h0] at h; rw [h] at ht; simp at ht
      | cons x y =>
        rw [ht, List.cons_append] at e1
        injection e1 with e1 _
        rw [h0, ht, dropWhile_of_head (by rw [← e1]; exact hd), ← ht, List.reverse_reverse]
theorem trimS_of_tidy {t : List UInt8} (h : Tidy t) : Lib.trimS t [32, 9] = t := by rw [trimS_eq, h.1, h.2]
theorem lowU_bl (c : UInt8) : isBl (lowU c) = isBl c := by
  have : ∀ n : Fin 256, isBl (lowU (UInt8.ofNat n.val)) = isBl (UInt8.ofNat n.val) := by decide +kernel
  have h := this ⟨c.toNat, c.toNat_lt⟩
  rwa [UInt8.ofNat_toNat] at h
theorem lowU_scan (st : Bool × Bool) (c : UInt8) : scan1 st (lowU c) = scan1 st c := by
  have : ∀ (n : Fin 256) (a b : Bool), scan1 (a, b) (lowU (UInt8.ofNat n.val)) = scan1 (a, b) (UInt8.ofNat n.val) := by decide +kernel
  have h := this ⟨c.toNat, c.toNat_lt⟩ st.1 st.2
  rwa [UInt8.ofNat_toNat] at h
theorem dropWhile_low : ∀ l : List UInt8, (l.map lowU).dropWhile isBl = (l.dropWhile isBl).map lowU
  | [] => rfl
  | c :: r => by
    rw [List.map_cons, List.dropWhile_cons, List.dropWhile_cons, lowU_bl]
    split
    · exact dropWhile_low r
    · rfl
theorem tidy_low {t : List UInt8} (h : Tidy t) : Tidy (t.map lowU) := by
  refine ⟨?_, by rw [dropWhile_low, h.2]⟩
  rw [← List.map_reverse, dropWhile_low, ← List.map_reverse, h.1]
theorem scan_low : ∀ (l : List UInt8) (st : Bool × Bool), scan (l.map lowU) st = scan l st
  | [], _ => rfl
  | c :: r, st => by
    show (scan1 st (lowU c)).bind (scan (r.map lowU)) = (scan1 st c).bind (scan r)
    rw [lowU_scan]
    cases scan1 st c with
    | none => rfl
    | some s => exact scan_low r s

/-! ### the scan of a text -/
def sub (s : ByteArray) (b e : Nat) : List UInt8 := (s.data.toList.drop b).take (e - b)
theorem sub_extract (s : ByteArray) (b e : Nat) : (s.extract b e).data.toList = sub s b e := by
  unfold sub
  rw [ByteArray.data_extract, Array.toList_extract]
theorem sub_nil (s : ByteArray) (b : Nat) : sub s b b = [] := by simp [sub]
theorem get_list (s : ByteArray) (pos : Nat) (h : pos < s.size) : s.data.toList[pos]'(by rw [Array.length_toList]; exact h) = s.get! pos := by
  rw [get_at' s pos h]
  simp
  rfl
theorem sub_snoc (s : ByteArray) (b pos : Nat) (hb : b ≤ pos) (h : pos < s.size) : sub s b (pos + 1) = sub s b pos ++ [s.get! pos] := by
  have hl : s.data.toList.length = s.size := Array.length_toList
  unfold sub
  rw [show pos + 1 - b = (pos - b) + 1 by omega, List.take_succ_eq_append_getElem (by rw [List.length_drop, hl]; omega)]
  congr 2
  rw [List.getElem_drop, ← get_list s pos h]
  congr 1
  omega
theorem sub_cons (s : ByteArray) (pos : Nat) (h : pos < s.size) : sub s pos s.size = s.get! pos :: sub s (pos + 1) s.size := by
  have hl : s.data.toList.length = s.size := Array.length_toList
  unfold sub
  rw [List.drop_eq_getElem_cons (by rw [hl]; exact h), get_list s pos h, show s.size - pos = (s.size - (pos + 1)) + 1 by omega, List.take_succ_cons]
theorem lsEnd_scan {s : ByteArray} {acc : List ByteArray} {b e : Nat} {x : ByteArray} (h : x ∈ lsEnd s acc b e) : x ∈ acc ∨ (x = trimB (s.extract b e) ∧ x.data.toList ≠ []) := by
  unfold lsEnd at h
  split at h
  · exact .inl h
  · rename_i hn
    rcases List.mem_append.1 h with h | h
    · exact .inl h
    · rw [List.mem_singleton.1 h]
      exact .inr ⟨rfl, fun e => hn (by rw [e]; rfl)⟩
theorem lsGo_scan (s : ByteArray) : ∀ (d pos b : Nat) (q m : Bool) (acc : List ByteArray) (x : ByteArray), b ≤ pos → pos + d = s.size → scan (sub s b pos) (false, false) = some (q, m) → x ∈ lsGo s d pos b q m acc →
    x ∈ acc ∨ ∃ b e, (scan (sub s b e) (false, false)).isSome = true ∧ x = trimB (s.extract b e) ∧ x.data.toList ≠ []
  | 0, pos, b, q, m, acc, x, hb, hp, hs, hx => by
    rw [lsGo] at hx
    rcases lsEnd_scan hx with hx | hx
    · exact .inl hx
    · refine .inr ⟨b, s.size, ?_, hx⟩
      rw [show s.size = pos by omega, hs]; rfl
  | d + 1, pos, b, q, m, acc, x, hb, hp, hs, hx => by
    have hn : scan (sub s b (pos + 1)) (false, false) = scan1 (q, m) (s.get! pos) := by
      rw [sub_snoc s b pos hb (by omega), scan_append, hs]
      show (scan1 (q, m) (s.get! pos)).bind (scan []) = _
      cases scan1 (q, m) (s.get! pos) <;> rfl
    rw [lsGo] at hx
    unfold scan1 at hn
    split at hx
    · rename_i h1
      rw [if_pos h1] at hn
      exact lsGo_scan s d _ _ _ _ _ x (by omega) (by omega) hn hx
    · rename_i h1
      rw [if_neg h1] at hn
      split at hx
      · rename_i h2
        rw [if_pos h2] at hn
        exact lsGo_scan s d _ _ _ _ _ x (by omega) (by omega) hn hx
      · rename_i h2
        rw [if_neg h2] at hn
        split at hx
        · rename_i h3
          rw [if_pos h3] at hn
          exact lsGo_scan s d _ _ _ _ _ x (by omega) (by omega) hn hx
        · rename_i h3
          rw [if_neg h3] at hn
          split at hx
          · rename_i h4
            have hq : q = false := by
              rw [Bool.and_eq_true] at h4
              simpa using h4.2
            rcases lsGo_scan s d _ _ _ _ _ x (Nat.le_refl _) (by omega) (by rw [sub_nil, hq]; rfl) hx with hx | hx
            · rcases lsEnd_scan hx with hx | hx
              · exact .inl hx
              · refine .inr ⟨b, pos, ?_, hx⟩
                rw [hs]; rfl
            · exact .inr hx
          · rename_i h4
            rw [if_neg h4] at hn
            exact lsGo_scan s d _ _ _ _ _ x (by omega) (by omega) hn hx
/-- An element: trimmed, not empty, and the scan of it ends nowhere. -/
structure Elem (x : ByteArray) : Prop where
  tidy : Tidy x.data.toList
  scans : (scan x.data.toList (false, false)).isSome = true
  some_ : x.data.toList ≠ []
theorem listB_elem {v x : ByteArray} (h : x ∈ listB v) : Elem x := by
  rcases lsGo_scan v v.size 0 0 false false [] x (Nat.le_refl _) (by omega) (by rw [sub_nil]; rfl) h with h | ⟨b, e, h1, h2, h3⟩
  · cases h
  · have hd : x.data.toList = Lib.trimS (sub v b e) [32, 9] := by
      rw [h2]
      show (List.toArray _).toList = _
      rw [sub_extract]
    refine ⟨by rw [hd]; exact trimS_tidy _, ?_, h3⟩
    obtain ⟨a, c, e1, e2⟩ := trimS_split (sub v b e)
    rw [hd]
    rw [e1, List.append_assoc, scan_append, scan_blanks a e2] at h1
    rw [Option.bind_some, scan_append] at h1
    cases hs : scan (Lib.trimS (sub v b e) [32, 9]) (false, false) with
    | none => rw [hs] at h1; cases h1
    | some y => rfl
theorem Elem.low {x : ByteArray} (h : Elem x) : Elem (lowB x) := by
  have hd : (lowB x).data.toList = x.data.toList.map lowU := rfl
  exact ⟨by rw [hd]; exact tidy_low h.tidy, by rw [hd, scan_low]; exact h.scans, by rw [hd]; simpa using h.some_⟩
theorem lsGo_whole (s : ByteArray) : ∀ (d pos b : Nat) (q m : Bool) (acc : List ByteArray), pos + d = s.size → (scan (sub s pos s.size) (q, m)).isSome = true → lsGo s d pos b q m acc = lsEnd s acc b s.size
  | 0, _, b, _, _, acc, _, _ => rfl
  | d + 1, pos, b, q, m, acc, hp, hs => by
    rw [sub_cons s pos (by omega)] at hs
    have hs' : ((scan1 (q, m) (s.get! pos)).bind (scan (sub s (pos + 1) s.size))).isSome = true := hs
    unfold scan1 at hs'
    rw [lsGo]
    split
    · rename_i h1
      rw [if_pos h1] at hs'
      exact lsGo_whole s d _ _ _ _ _ (by omega) hs'
    · rename_i h1
      rw [if_neg h1] at hs'
      split
      · rename_i h2
        rw [if_pos h2] at hs'
        exact lsGo_whole s d _ _ _ _ _ (by omega) hs'
      · rename_i h2
        rw [if_neg h2] at hs'
        split
        · rename_i h3
          rw [if_pos h3] at hs'
          exact lsGo_whole s d _ _ _ _ _ (by omega) hs'
        · rename_i h3
          rw [if_neg h3] at hs'
          split
          · rename_i h4
            rw [if_pos h4] at hs'
            cases hs'
          · rename_i h4
            rw [if_neg h4] at hs'
            exact lsGo_whole s d _ _ _ _ _ (by omega) hs'
theorem list_again {n : ByteArray} (h : Elem n) : listB ((⟨#[32, 44, 32]⟩ : ByteArray) ++ n) = [n] := by
  generalize hs : (⟨#[32, 44, 32]⟩ : ByteArray) ++ n = s
  have hsz : s.size = n.size + 1 + 1 + 1 := by rw [← hs, ByteArray.size_append]; show 3 + _ = _; omega
  have hd : s.data.toList = 32 :: 44 :: 32 :: n.data.toList := by rw [← hs, ByteArray.data_append]; simp
  have g0 : s.get! 0 = 32 := by rw [← get_list s 0 (by omega)]; simp [hd]
  have g1 : s.get! 1 = 44 := by rw [← get_list s 1 (by omega)]; simp [hd]
  have g2 : s.get! 2 = 32 := by rw [← get_list s 2 (by omega)]; simp [hd]
  have e0 : lsEnd s [] 0 1 = [] := by
    unfold lsEnd
    rw [if_pos]
    unfold trimB
    rw [sub_extract]
    unfold sub
    rw [hd]
    rfl
  have hl : n.data.toList.length = n.size := Array.length_toList
  have s3 : sub s 3 s.size = n.data.toList := by
    unfold sub
    rw [hd]
    show n.data.toList.take _ = _
    exact List.take_of_length_le (by omega)
  have s2 : sub s 2 s.size = 32 :: n.data.toList := by
    unfold sub
    rw [hd]
    show (32 :: n.data.toList).take _ = _
    exact List.take_of_length_le (by rw [List.length_cons]; omega)
  unfold listB
  rw [hsz, lsGo, g0]
  simp only [show ((32 : UInt8).toNat == 92) = false from rfl, show ((32 : UInt8).toNat == 34) = false from rfl, show ((32 : UInt8).toNat == 44) = false from rfl, Bool.false_and, Bool.and_false, if_neg Bool.false_ne_true]
  rw [lsGo, g1]
  simp only [show ((44 : UInt8).toNat == 92) = false from rfl, show ((44 : UInt8).toNat == 34) = false from rfl, show ((44 : UInt8).toNat == 44) = true from rfl, Bool.false_and, Bool.and_false, Bool.true_and, Bool.not_false, if_neg Bool.false_ne_true, if_pos, e0]
  rw [lsGo, g2]
  simp only [show ((32 : UInt8).toNat == 92) = false from rfl, show ((32 : UInt8).toNat == 34) = false from rfl, show ((32 : UInt8).toNat == 44) = false from rfl, Bool.false_and, Bool.and_false, if_neg Bool.false_ne_true]
  rw [lsGo_whole s n.size 3 2 false false [] (by omega) (by rw [s3]; exact h.scans)]
  have ht : trimB (s.extract 2 s.size) = n := by
    unfold trimB
    rw [sub_extract, s2]
    apply ByteArray.ext
    apply Array.toList_inj.1
    show (List.toArray _).toList = _
    show Lib.trimS (32 :: n.data.toList) [32, 9] = n.data.toList
    rw [trimS_eq, List.reverse_cons]
    have h1 := h.tidy.1
    cases hr : n.data.toList.reverse with
    | nil => exact absurd (by simpa using hr) h.some_
    | cons c r =>
      rw [hr] at h1
      by_cases hc : isBl c = true
      · exfalso
        rw [List.dropWhile_cons, if_pos hc] at h1
        have h3 := congrArg List.length h1
        have h2 := (List.dropWhile_sublist isBl (l := r)).length_le
        have h4 := congrArg List.length hr
        rw [List.length_reverse] at h3 h4
        rw [List.length_cons] at h4
        omega
      · rw [List.cons_append, dropWhile_of_head (by simpa using hc), ← List.cons_append, ← hr, List.reverse_append, List.reverse_reverse]
        show (32 :: n.data.toList).dropWhile isBl = _
        rw [List.dropWhile_cons, if_pos (by rfl)]
        exact h.tidy.2
  unfold lsEnd
  have hne : ¬ (n.data.toList.isEmpty = true) := fun e => h.some_ (by simpa using e)
  rw [ht, if_neg hne]
  rfl
end Go.Proofs.YtalolopngekgbaaDoor.P
