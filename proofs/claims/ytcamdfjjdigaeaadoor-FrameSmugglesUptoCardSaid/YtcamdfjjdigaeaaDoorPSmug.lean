/- Texts whose only element is 'chunked': it stands there once, among blanks and commas. -/
import Derived.Test.YtcamdfjjdigaeaaDoorFBulkA
import Derived.Lib.IndexMore
import Derived.Lib.Join
import Derived.Lib.Case
set_option linter.unusedVariables false
set_option linter.unusedSimpArgs false
namespace Go.Proofs.YtcamdfjjdigaeaaDoor.P
open Go.RowKit Go.Proofs.YtcamdfjjdigaeaaDoorW.PrintWords Go.Proofs.YtcamdfjjdigaeaaDoorW.PrintLast Go.Proofs.YtcamdfjjdigaeaaDoorW.PrintMore

/-- A blank or a comma. -/
def wc (c : UInt8) : Bool := c == 32 || (c == 9 || c == 44)
def blS (c : UInt8) : Bool := ([32, 9] : List UInt8).contains c
theorem bl_wc {c : UInt8} (h : blS c = true) : wc c = true := by
  unfold blS at h
  unfold wc
  simp at h ⊢
  rcases h with h | h <;> simp [h]
/-- What is neither. -/
def flt (l : List UInt8) : List UInt8 := l.filter fun c => !wc c
theorem flt_app (a b : List UInt8) : flt (a ++ b) = flt a ++ flt b := List.filter_append ..
theorem flt_drop : ∀ l : List UInt8, flt (l.dropWhile blS) = flt l
  | [] => rfl
  | c :: r => by
    rw [List.dropWhile_cons]
    split
    · rename_i h
      rw [flt_drop r]
      unfold flt
      rw [List.filter_cons_of_neg (by rw [bl_wc h]; decide)]
    · rfl
theorem flt_rev (l : List UInt8) : flt l.reverse = (flt l).reverse := by unfold flt; rw [List.filter_reverse]
theorem trim_eq (l : List UInt8) : Lib.trimS l [32, 9] = ((l.reverse.dropWhile blS).reverse).dropWhile blS := rfl
theorem flt_trim (l : List UInt8) : flt (Lib.trimS l [32, 9]) = flt l := by
  rw [trim_eq, flt_drop, flt_rev, flt_drop, flt_rev, List.reverse_reverse]
theorem drop_part (p : UInt8 → Bool) : ∀ l : List UInt8, ∃ a, l = a ++ l.dropWhile p
  | [] => ⟨[], rfl⟩
  | c :: r => by
    rw [List.dropWhile_cons]
    split
    · obtain ⟨a, e⟩ := drop_part p r
      exact ⟨c :: a, by rw [List.cons_append, ← e]⟩
    · exact ⟨[], rfl⟩
theorem trim_part (l : List UInt8) : ∃ a b, l = a ++ (Lib.trimS l [32, 9] ++ b) := by
  rw [trim_eq]
  obtain ⟨a, ea⟩ := drop_part blS l.reverse
  have e1 : l = (l.reverse.dropWhile blS).reverse ++ a.reverse := by
    have := congrArg List.reverse ea
    rw [List.reverse_reverse, List.reverse_append] at this
    exact this
  obtain ⟨b, eb⟩ := drop_part blS (l.reverse.dropWhile blS).reverse
  refine ⟨b, a.reverse, ?_⟩
  rw [← List.append_assoc, ← eb]
  exact e1
theorem mem_trim {c : UInt8} {l : List UInt8} (h : c ∈ l) (hc : wc c = false) : c ∈ Lib.trimS l [32, 9] := by
  have h1 : c ∈ flt l := List.mem_filter.2 ⟨h, by rw [hc]; rfl⟩
  rw [← flt_trim] at h1
  exact (List.mem_filter.1 h1).1
/-! ### the scan -/
def subS (s : ByteArray) (b e : Nat) : List UInt8 := (s.data.toList.drop b).take (e - b)
theorem subS_ext (s : ByteArray) (b e : Nat) : (s.extract b e).data.toList = subS s b e := by
  unfold subS
  rw [ByteArray.data_extract, Array.toList_extract]
theorem getS (s : ByteArray) (pos : Nat) (h : pos < s.size) : s.data.toList[pos]'(by rw [Array.length_toList]; exact h) = s.get! pos := by
  rw [Go.Proofs.YtcamdfjjdigaeaaDoor.P.get_at' s pos h]
  simp
  rfl
theorem subS_snoc (s : ByteArray) (b pos : Nat) (hb : b ≤ pos) (h : pos < s.size) : subS s b (pos + 1) = subS s b pos ++ [s.get! pos] := by
  have hl : s.data.toList.length = s.size := Array.length_toList
  unfold subS
  rw [show pos + 1 - b = (pos - b) + 1 by omega, List.take_succ_eq_append_getElem (by rw [List.length_drop, hl]; omega)]
  congr 2
  rw [List.getElem_drop, ← getS s pos h]
  congr 1
  omega
theorem subS_cons (s : ByteArray) (pos : Nat) (h : pos < s.size) : subS s pos s.size = s.get! pos :: subS s (pos + 1) s.size := by
  have hl : s.data.toList.length = s.size := Array.length_toList
  unfold subS
  rw [List.drop_eq_getElem_cons (by rw [hl]; exact h), getS s pos h, show s.size - pos = (s.size - (pos + 1)) + 1 by omega, List.take_succ_cons]
theorem subS_cut (s : ByteArray) (b pos : Nat) (hb : b ≤ pos) (h : pos ≤ s.size) : subS s b s.size = subS s b pos ++ subS s pos s.size := by
  unfold subS
  have e : s.size - b = (pos - b) + (s.size - pos) := by omega
  rw [e, List.take_add, List.drop_drop, show b + (pos - b) = pos by omega]
theorem subS_whole (s : ByteArray) : subS s 0 s.size = s.data.toList := by
  unfold subS
  rw [List.drop_zero, List.take_of_length_le (by rw [Array.length_toList]; exact Nat.le_refl _)]
theorem subS_part (s : ByteArray) (b e : Nat) : ∃ a c, s.data.toList = a ++ (subS s b e ++ c) := by
  refine ⟨s.data.toList.take b, (s.data.toList.drop b).drop (e - b), ?_⟩
  unfold subS
  rw [List.take_append_drop, List.take_append_drop]
theorem trimB_l (x : ByteArray) : (trimB x).data.toList = Lib.trimS x.data.toList [32, 9] := rfl
theorem keep_mem (s : ByteArray) : ∀ (d pos b : Nat) (q m : Bool) (acc : List ByteArray) (x : ByteArray), x ∈ acc → x ∈ lsGo s d pos b q m acc := by
  have he : ∀ (acc : List ByteArray) (b e : Nat) (x : ByteArray), x ∈ acc → x ∈ lsEnd s acc b e := by
    intro acc b e x h
    unfold lsEnd
    split
    · exact h
    · exact List.mem_append_left _ h
  intro d
  induction d with
  | zero => intro pos b q m acc x h; exact he acc b s.size x h
  | succ d ih =>
    intro pos b q m acc x h
    rw [lsGo]
    split
    · exact ih _ _ _ _ _ _ h
    split
    · exact ih _ _ _ _ _ _ h
    split
    · exact ih _ _ _ _ _ _ h
    split
    · exact ih _ _ _ _ _ _ (he _ _ _ _ h)
    · exact ih _ _ _ _ _ _ h
theorem end_quote (s : ByteArray) (acc : List ByteArray) (b e : Nat) (h : (34 : UInt8) ∈ subS s b e) : ∃ x ∈ lsEnd s acc b e, (34 : UInt8) ∈ x.data.toList := by
  have hm : (34 : UInt8) ∈ (trimB (s.extract b e)).data.toList := by
    rw [trimB_l, subS_ext]
    exact mem_trim h (by decide)
  unfold lsEnd
  rw [if_neg (by intro h'; rw [List.isEmpty_iff] at h'; rw [h'] at hm; cases hm)]
  exact ⟨_, List.mem_append_right _ (List.mem_singleton.2 rfl), hm⟩
theorem quote_elem (s : ByteArray) : ∀ (d pos b : Nat) (q m : Bool) (acc : List ByteArray), b ≤ pos → pos + d = s.size → (34 : UInt8) ∈ subS s b s.size → ∃ x ∈ lsGo s d pos b q m acc, (34 : UInt8) ∈ x.data.toList := by
  intro d
  induction d with
  | zero =>
    intro pos b q m acc hb hd h
    exact end_quote s acc b s.size h
  | succ d ih =>
    intro pos b q m acc hb hd h
    have step : ∀ (q m : Bool), ∃ x ∈ lsGo s d (pos + 1) b q m acc, (34 : UInt8) ∈ x.data.toList := fun q m => ih (pos + 1) b q m acc (by omega) (by omega) h
    rw [lsGo]
    split
    · exact step _ _
    split
    · exact step _ _
    split
    · exact step _ _
    split
    · rename_i h34 h44
      have hne : s.get! pos ≠ 34 := by
        intro e; rw [e] at h34; exact h34 rfl
      rw [subS_cut s b pos hb (by omega), subS_cons s pos (by omega), List.mem_append, List.mem_cons] at h
      rcases h with h | h | h
      · obtain ⟨x, hx, hq⟩ := end_quote s acc b pos h
        exact ⟨x, keep_mem s _ _ _ _ _ _ _ hx, hq⟩
      · exact absurd h.symm hne
      · exact ih (pos + 1) (pos + 1) q false (lsEnd s acc b pos) (Nat.le_refl _) (by omega) h
    · exact step _ _
theorem quote_list (v : ByteArray) (h : (34 : UInt8) ∈ v.data.toList) : ∃ x ∈ listB v, (34 : UInt8) ∈ x.data.toList :=
  quote_elem v v.size 0 0 false false [] (Nat.le_refl _) (by omega) (by rw [subS_whole]; exact h)
def fltAll (l : List ByteArray) : List UInt8 := l.flatMap fun x => flt x.data.toList
theorem fltAll_end (s : ByteArray) (acc : List ByteArray) (b e : Nat) : fltAll (lsEnd s acc b e) = fltAll acc ++ flt (subS s b e) := by
  have ht : flt (trimB (s.extract b e)).data.toList = flt (subS s b e) := by rw [trimB_l, flt_trim, subS_ext]
  unfold lsEnd
  split
  · rename_i h
    rw [List.isEmpty_iff] at h
    rw [← ht, h]
    unfold flt
    simp
  · unfold fltAll
    rw [List.flatMap_append, List.flatMap_cons, List.flatMap_nil, List.append_nil, ht]
theorem flt_scan (s : ByteArray) : ∀ (d pos b : Nat) (acc : List ByteArray), b ≤ pos → pos + d = s.size → (34 : UInt8) ∉ subS s pos s.size → fltAll (lsGo s d pos b false false acc) = fltAll acc ++ flt (subS s b s.size) := by
  intro d
  induction d with
  | zero =>
    intro pos b acc hb hd h
    exact fltAll_end s acc b s.size
  | succ d ih =>
    intro pos b acc hb hd h
    rw [subS_cons s pos (by omega), List.mem_cons, not_or] at h
    have h34 : ((s.get! pos).toNat == 34) = false := by
      rw [beq_eq_false_iff_ne]
      intro e
      exact h.1 (UInt8.toNat_inj.1 (by rw [e]; rfl))
    rw [lsGo, if_neg (by decide), if_neg (by simp), if_neg (by rw [h34]; decide)]
    split
    · rename_i hc
      have h44 : s.get! pos = 44 := by
        have : (s.get! pos).toNat = 44 := by simpa using hc
        exact UInt8.toNat_inj.1 (by rw [this]; rfl)
      rw [ih (pos + 1) (pos + 1) _ (Nat.le_refl _) (by omega) h.2, fltAll_end, subS_cut s b pos hb (by omega), subS_cons s pos (by omega), flt_app, h44, List.append_assoc]
      congr 2
    · exact ih (pos + 1) b acc (by omega) (by omega) h.2
theorem flt_list (v : ByteArray) (h : (34 : UInt8) ∉ v.data.toList) : fltAll (listB v) = flt v.data.toList := by
  have := flt_scan v v.size 0 0 [] (Nat.le_refl _) (by omega) (by rw [subS_whole]; exact h)
  rw [subS_whole] at this
  exact this
theorem part_elem (s : ByteArray) : ∀ (d pos b : Nat) (q m : Bool) (acc : List ByteArray) (x : ByteArray), x ∈ lsGo s d pos b q m acc → x ∈ acc ∨ ∃ a c, s.data.toList = a ++ (x.data.toList ++ c) := by
  have he : ∀ (acc : List ByteArray) (b e : Nat) (x : ByteArray), x ∈ lsEnd s acc b e → x ∈ acc ∨ ∃ a c, s.data.toList = a ++ (x.data.toList ++ c) := by
    intro acc b e x h
    unfold lsEnd at h
    split at h
    · exact .inl h
    · rcases List.mem_append.1 h with h | h
      · exact .inl h
      · right
        rw [List.mem_singleton.1 h, trimB_l, subS_ext]
        obtain ⟨a, c, e1⟩ := subS_part s b e
        obtain ⟨a2, c2, e2⟩ := trim_part (subS s b e)
        refine ⟨a ++ a2, c2 ++ c, ?_⟩
        rw [e1]
        conv => lhs; rw [e2]
        simp only [List.append_assoc]
  intro d
  induction d with
  | zero => intro pos b q m acc x h; exact he acc b s.size x h
  | succ d ih =>
    intro pos b q m acc x h
    rw [lsGo] at h
    split at h
    · exact ih _ _ _ _ _ _ h
    split at h
    · exact ih _ _ _ _ _ _ h
    split at h
    · exact ih _ _ _ _ _ _ h
    split at h
    · rcases ih _ _ _ _ _ _ h with h | h
      · exact he _ _ _ _ h
      · exact .inr h
    · exact ih _ _ _ _ _ _ h
theorem part_list {v x : ByteArray} (h : x ∈ listB v) : ∃ a c, v.data.toList = a ++ (x.data.toList ++ c) := by
  rcases part_elem v _ _ _ _ _ _ _ h with h | h
  · cases h
  · exact h
/-! ### 'chunked' once -/
def chL : List UInt8 := [99, 104, 117, 110, 107, 101, 100]
theorem index_wc : ∀ l : List UInt8, l.all wc = true → Lib.index l chL = -1
  | [], _ => rfl
  | c :: r, h => by
    rw [List.all_cons, Bool.and_eq_true] at h
    have hc : (99 == c) = false := by
      rw [beq_eq_false_iff_ne]
      rintro rfl
      exact absurd h.1 (by decide)
    unfold Lib.index
    rw [if_neg (by unfold chL; rw [List.isPrefixOf_cons_cons, hc, Bool.false_and]; exact Bool.false_ne_true), index_wc r h.2]
    rfl
theorem index_at (b : List UInt8) : ∀ a : List UInt8, a.all wc = true → Lib.index (a ++ (chL ++ b)) chL = (a.length : Int)
  | [], _ => by
    have : chL.isPrefixOf (chL ++ b) = true := by rw [List.isPrefixOf_iff_prefix]; exact List.prefix_append _ _
    show (if chL.isPrefixOf (chL ++ b) = true then (0 : Int) else _) = _
    exact (if_pos this).trans rfl
  | c :: r, h => by
    rw [List.all_cons, Bool.and_eq_true] at h
    have hc : (99 == c) = false := by
      rw [beq_eq_false_iff_ne]
      rintro rfl
      exact absurd h.1 (by decide)
    rw [List.cons_append]
    unfold Lib.index
    rw [if_neg (by unfold chL; rw [List.isPrefixOf_cons_cons, hc, Bool.false_and]; exact Bool.false_ne_true), index_at b r h.2, if_neg (by rw [Bool.not_eq_true, beq_eq_false_iff_ne]; omega), List.length_cons]
    omega
theorem count_one (a b : List UInt8) (ha : a.all wc = true) (hb : b.all wc = true) : Lib.count (a ++ (chL ++ b)) chL = 1 := by
  unfold Lib.count
  rw [Lib.countFrom, index_at b a ha, if_neg (by rw [Bool.not_eq_true, beq_eq_false_iff_ne]; omega)]
  have e : (a ++ (chL ++ b)).drop (((a.length : Int)).toNat + chL.length) = b := by
    rw [Int.toNat_natCast, ← List.append_assoc, List.drop_left' (by rw [List.length_append])]
  rw [e]
  have : ∀ n, Lib.countFrom chL n b = 0 := by
    intro n
    cases n with
    | zero => rfl
    | succ n => rw [Lib.countFrom, index_wc b hb, if_pos (by rfl)]
  rw [this]
end Go.Proofs.YtcamdfjjdigaeaaDoor.P
