/- Plain laws of the document's text functions: Lower, Same, Trim, Equal. -/
import Derived.Test.YtcamdfjjdigaeaaDoorPBase
import Derived.Test.YtcamdfjjdigaeaaDoorFtextTrim
import Derived.Test.YtcamdfjjdigaeaaDoorQRef02
set_option linter.unusedVariables false
set_option linter.unusedSimpArgs false
namespace Go.Proofs.YtcamdfjjdigaeaaDoor.P
open Go.RowKit Go.Proofs.YtcamdfjjdigaeaaDoorW.PrintWords Go.Proofs.YtcamdfjjdigaeaaDoorW.PrintLast Go.Proofs.YtcamdfjjdigaeaaDoorW.PrintMore

theorem w64n (i : Nat) (h : i < 9223372036854775807) : wrap64 ((i : Int) + 1) = ((i + 1 : Nat) : Int) := by unfold wrap64; omega
theorem w64s (i : Nat) (h : 0 < i) (h2 : i < 9223372036854775807) : wrap64 ((i : Int) - 1) = ((i - 1 : Nat) : Int) := by unfold wrap64; omega
theorem strNums_bytes (s : ByteArray) : strOfNums (bytesOf s) = s := by
  unfold strOfNums bytesOf
  rw [List.map_map]
  have : (fun n : Int => UInt8.ofNat n.toNat) ∘ (fun b : UInt8 => ((b.toNat : Nat) : Int)) = id := by
    funext b; simp
  rw [this, List.map_id]
theorem bytes_strNums (l : List Int) (h : ∀ x ∈ l, 0 ≤ x ∧ x ≤ 255) : bytesOf (strOfNums l) = l := by
  unfold strOfNums bytesOf
  rw [show (ByteArray.mk (l.map fun n => UInt8.ofNat n.toNat).toArray).data.toList = l.map fun n => UInt8.ofNat n.toNat from by simp, List.map_map]
  conv => rhs; rw [← List.map_id l]
  apply List.map_congr_left
  intro x hx
  have := h x hx
  simp
  omega
theorem bytes_inj {a b : ByteArray} (h : bytesOf a = bytesOf b) : a = b := by rw [← strNums_bytes a, ← strNums_bytes b, h]
theorem bytes_len (s : ByteArray) : (bytesOf s).length = s.size := bytesOf_length s
theorem bt_bytes (s : ByteArray) (i : Nat) (h : i < (bytesOf s).length) : bt s (i : Int) = (bytesOf s)[i] := by
  rw [← rd_bytesOf]; unfold rd; rw [Int.toNat_natCast, List.getD_eq_getElem?_getD, List.getElem?_eq_getElem h]; rfl
theorem bytes_range {s : ByteArray} {x : Int} (h : x ∈ bytesOf s) : 0 ≤ x ∧ x ≤ 255 := by
  unfold bytesOf at h
  obtain ⟨b, _, rfl⟩ := List.mem_map.1 h
  have := b.toNat_lt
  omega
theorem bytes_lowB (s : ByteArray) : bytesOf (lowB s) = (bytesOf s).map lowI := by
  unfold bytesOf lowB
  rw [show (ByteArray.mk (s.data.toList.map lowU).toArray).data.toList = s.data.toList.map lowU from by simp, List.map_map, List.map_map]
  apply List.map_congr_left
  intro c _
  exact (lowI_U c).symm
theorem ext_lists {s : ByteArray} (i j : Nat) : bytesOf (s.extract i j) = ((bytesOf s).take j).drop i := by
  unfold bytesOf
  rw [show (s.extract i j).data = s.data.extract i j from by simp [ByteArray.data_extract]]
  simp [List.extract_eq_take_drop, List.map_drop, List.map_take, List.drop_take]

theorem refLower_from (s : ByteArray) (hs : s.size < 140737488355328) : ∀ (d i : Nat) (acc : List Int), s.size - i = d → i ≤ s.size → acc = ((bytesOf s).take i).map lowI → Ev (fun k => tollhouseref02_Lower.l0 k s acc (i : Int)) (lowB s) := by
  intro d
  induction d with
  | zero =>
    intro i acc hd hi ha
    refine Ev.step (f := fun _ => some (strOfNums acc)) (fun k => ?_) ?_
    · rw [tollhouseref02_Lower.l0, if_neg (by omega)]
    · rw [ha, List.take_of_length_le (by rw [bytes_len]; omega), ← bytes_lowB, strNums_bytes]
      exact Ev.now _
  | succ d ih =>
    intro i acc hd hi ha
    have hlt : i < (bytesOf s).length := by rw [bytes_len]; omega
    have hal : acc.length = i := by rw [ha, List.length_map, List.length_take]; omega
    have hb := bt_bytes s i hlt
    have hr := bytes_range (List.getElem_mem hlt)
    refine Ev.step (f := fun k => tollhouseref02_Lower.l0 k s (acc ++ [lowI (bytesOf s)[i]]) ((i + 1 : Nat) : Int)) (fun k => ?_) ?_
    · rw [tollhouseref02_Lower.l0, if_pos (by rw [bytes_len] at hlt; omega), if_pos (by omega), hb, w64n i (by omega)]
      rw [if_pos (show acc.length < 140737488355328 by omega), if_pos (show acc.length < 140737488355328 by omega)]
      unfold lowI
      by_cases h1 : (bytesOf s)[i] ≥ 65
      · rw [if_pos h1]
        by_cases h2 : (bytesOf s)[i] ≤ 90
        · rw [if_pos h2, if_pos ⟨h1, h2⟩, show ((bytesOf s)[i] + 32) % 256 = (bytesOf s)[i] + 32 by omega]
        · rw [if_neg h2, if_neg (fun h => h2 h.2)]
      · rw [if_neg h1, if_neg (fun h => h1 h.1)]
    · refine ih (i + 1) _ (by omega) (by rw [bytes_len] at hlt; omega) ?_
      rw [ha, List.take_succ_eq_append_getElem hlt, List.map_append]
      rfl
theorem refLower_ok (s : ByteArray) (hs : s.size < 140737488355328) : Ev (fun k => tollhouseref02_Lower.f k s) (lowB s) := by
  unfold tollhouseref02_Lower.f
  exact refLower_from s hs s.size 0 [] (by omega) (Nat.zero_le _) (by simp)
theorem refSame02_ok (a b : ByteArray) (ha : a.size < 140737488355328) (hb : b.size < 140737488355328) : Ev (fun k => tollhouseref02_Same.f k a b) (sameB a b) := by
  unfold tollhouseref02_Same.f
  refine Ev.bind (refLower_ok a ha) (Ev.bind (refLower_ok b hb) ?_)
  rw [show sameB a b = ((lowB a).toList == (lowB b).toList) by unfold sameB; rw [ByteArray.toList_eq, ByteArray.toList_eq]]
  exact Ev.now _

/-- Is a whole number a blank? -/
def blankI (c : Int) : Bool := c == 32 || c == 9
theorem blank_U (b : UInt8) : ([32, 9] : List UInt8).contains b = blankI (b.toNat : Int) := by
  have h : ∀ n : Fin 256, ([32, 9] : List UInt8).contains (UInt8.ofNat n.val) = blankI ((n.val : Nat) : Int) := by decide +kernel
  simpa using h ⟨b.toNat, b.toNat_lt⟩
/-- A text without blanks at both ends. -/
def trimL (l : List Int) : List Int := (l.reverse.dropWhile blankI).reverse.dropWhile blankI
theorem bytes_trimB (s : ByteArray) : bytesOf (trimB s) = trimL (bytesOf s) := by
  unfold trimB trimL bytesOf Lib.trimS Lib.trimLeftS Lib.trimRightS
  rw [show ∀ l : List UInt8, (ByteArray.mk l.toArray).data.toList = l from fun l => by simp]
  have h : (fun b : UInt8 => ([32, 9] : List UInt8).contains b) = blankI ∘ (fun b : UInt8 => ((b.toNat : Nat) : Int)) := funext blank_U
  simp only [h, ← List.map_reverse, List.dropWhile_map]
theorem dropEnd (p : Int → Bool) (l : List Int) (x : Int) (h : p x = true) : ((l ++ [x]).reverse.dropWhile p).reverse = (l.reverse.dropWhile p).reverse := by
  rw [List.reverse_append, List.reverse_singleton, List.singleton_append, List.dropWhile_cons_of_pos h]
theorem keepEnd (p : Int → Bool) (l : List Int) (x : Int) (h : p x = false) : ((l ++ [x]).reverse.dropWhile p).reverse = l ++ [x] := by
  rw [List.reverse_append, List.reverse_singleton, List.singleton_append, List.dropWhile_cons_of_neg (by simp [h]), List.reverse_cons, List.reverse_reverse]
theorem dropW_all (p : Int → Bool) : ∀ l : List Int, l.all p = true → l.dropWhile p = []
  | [], _ => rfl
  | x :: r, h => by
    rw [List.all_cons, Bool.and_eq_true] at h
    rw [List.dropWhile_cons_of_pos h.1]
    exact dropW_all p r h.2
theorem dropW_some (p : Int → Bool) : ∀ l m : List Int, l.all p = false → (l ++ m).dropWhile p = l.dropWhile p ++ m
  | [], _, h => by simp at h
  | x :: r, m, h => by
    by_cases hx : p x = true
    · rw [List.cons_append, List.dropWhile_cons_of_pos hx, List.dropWhile_cons_of_pos hx]
      exact dropW_some p r m (by rw [List.all_cons, hx, Bool.true_and] at h; exact h)
    · rw [List.cons_append, List.dropWhile_cons_of_neg hx, List.dropWhile_cons_of_neg hx, List.cons_append]
theorem dropW_pre (p : Int → Bool) : ∀ l m : List Int, l.all p = true → (l ++ m).dropWhile p = m.dropWhile p
  | [], _, _ => rfl
  | x :: r, m, h => by
    rw [List.all_cons, Bool.and_eq_true] at h
    rw [List.cons_append, List.dropWhile_cons_of_pos h.1]
    exact dropW_pre p r m h.2
/-- From the right, from the left: in either order. -/
theorem trimR_from : ∀ l : List Int, trimL l = ((l.dropWhile blankI).reverse.dropWhile blankI).reverse
  | [] => rfl
  | x :: r => by
    by_cases hx : blankI x = true
    · rw [List.dropWhile_cons_of_pos hx, ← trimR_from r]
      unfold trimL
      rw [List.reverse_cons]
      by_cases ha : r.reverse.all blankI = true
      · rw [dropW_pre _ _ _ ha, dropW_all _ _ ha, List.dropWhile_cons_of_pos hx]; rfl
      · rw [dropW_some _ _ _ (by simpa using ha), List.reverse_append, List.reverse_singleton, List.singleton_append, List.dropWhile_cons_of_pos hx]
    · rw [List.dropWhile_cons_of_neg hx]
      unfold trimL
      rw [List.reverse_cons]
      by_cases ha : r.reverse.all blankI = true
      · rw [dropW_pre _ _ _ ha, List.dropWhile_cons_of_neg hx, List.reverse_singleton, List.dropWhile_cons_of_neg hx]
      · rw [dropW_some _ _ _ (by simpa using ha), List.reverse_append, List.reverse_singleton, List.singleton_append, List.dropWhile_cons_of_neg hx]

theorem refTrim_l1 (s : ByteArray) (hs : s.size < 140737488355328) (x3 : Nat) : ∀ (d x4 : Nat), x4 - x3 = d → x3 ≤ x4 → x4 ≤ s.size →
    ∀ r, bytesOf r = ((((bytesOf s).take x4).drop x3).reverse.dropWhile blankI).reverse → Ev (fun k => tollhouseref02_Trim.l1 k s (x3 : Int) (x4 : Int)) r := by
  intro d
  induction d with
  | zero =>
    intro x4 hd h1 h2 r hr
    have he : x3 = x4 := by omega
    refine Ev.step (f := fun _ => some (s.extract x3 x4)) (fun k => ?_) ?_
    · rw [tollhouseref02_Trim.l1, if_neg (by omega), if_pos (by omega), if_pos (by omega), if_pos (by omega)]; rfl
    · have : r = s.extract x3 x4 := by
        apply bytes_inj
        rw [hr, ext_lists, he, List.drop_eq_nil_of_le (by rw [List.length_take]; omega)]; rfl
      rw [this]; exact Ev.now _
  | succ d ih =>
    intro x4 hd h1 h2 r hr
    have hlt : x4 - 1 < (bytesOf s).length := by rw [bytes_len]; omega
    have hb := bt_bytes s (x4 - 1) hlt
    have ht : ((bytesOf s).take x4).drop x3 = ((bytesOf s).take (x4 - 1)).drop x3 ++ [(bytesOf s)[x4 - 1]] := by
      have e := List.take_succ_eq_append_getElem hlt
      rw [show x4 - 1 + 1 = x4 by omega] at e
      rw [e, List.drop_append, show x3 - ((bytesOf s).take (x4 - 1)).length = 0 by rw [List.length_take]; omega]
      rfl
    rw [ht] at hr
    by_cases hbl : blankI (bytesOf s)[x4 - 1] = true
    · rw [dropEnd _ _ _ hbl] at hr
      refine Ev.step (f := fun k => tollhouseref02_Trim.l1 k s (x3 : Int) ((x4 - 1 : Nat) : Int)) (fun k => ?_) (ih (x4 - 1) (by omega) (by omega) (by omega) r hr)
      rw [tollhouseref02_Trim.l1, if_pos (by omega), w64s x4 (by omega) (by omega), if_pos (by omega), if_pos (by omega), hb]
      unfold blankI at hbl
      by_cases h32 : (bytesOf s)[x4 - 1] = 32
      · rw [if_pos h32]
      · rw [if_neg h32, if_pos (by simpa [h32] using hbl)]
    · rw [keepEnd _ _ _ (by simpa using hbl), ← ht] at hr
      refine Ev.step (f := fun _ => some (s.extract x3 x4)) (fun k => ?_) ?_
      · rw [tollhouseref02_Trim.l1, if_pos (by omega), w64s x4 (by omega) (by omega), if_pos (by omega), if_pos (by omega), hb]
        unfold blankI at hbl
        rw [if_neg (fun h => hbl (by rw [h]; rfl)), if_neg (fun h => hbl (by rw [h]; rfl)), if_pos (by omega), if_pos (by omega), if_pos (by omega)]; rfl
      · have : r = s.extract x3 x4 := by
          apply bytes_inj
          rw [hr, ext_lists]
        rw [this]; exact Ev.now _
theorem refTrim_l0 (s : ByteArray) (hs : s.size < 140737488355328) : ∀ (d x3 : Nat), s.size - x3 = d → x3 ≤ s.size → ((bytesOf s).take x3).all blankI = true →
    Ev (fun k => tollhouseref02_Trim.l0 k s (x3 : Int) (s.size : Int)) (trimB s) := by
  have hend : ∀ x3 : Nat, x3 ≤ s.size → ((bytesOf s).drop x3) = (bytesOf s).dropWhile blankI → Ev (fun k => tollhouseref02_Trim.j1 k s (x3 : Int) (s.size : Int)) (trimB s) := by
    intro x3 h1 h2
    refine Ev.step (f := fun k => tollhouseref02_Trim.l1 k s (x3 : Int) (s.size : Int)) (fun k => by rw [tollhouseref02_Trim.j1]) ?_
    refine refTrim_l1 s hs x3 _ s.size rfl h1 (Nat.le_refl _) _ ?_
    rw [bytes_trimB, trimR_from, List.take_of_length_le (by rw [bytes_len]; omega), h2]
  have hdw : ∀ x3 : Nat, ((bytesOf s).take x3).all blankI = true → (bytesOf s).dropWhile blankI = ((bytesOf s).drop x3).dropWhile blankI := by
    intro x3 h
    conv => lhs; rw [← List.take_append_drop x3 (bytesOf s)]
    exact dropW_pre _ _ _ h
  intro d
  induction d with
  | zero =>
    intro x3 hd h1 h2
    refine Ev.step (f := fun k => tollhouseref02_Trim.j1 k s (x3 : Int) (s.size : Int)) (fun k => by rw [tollhouseref02_Trim.l0, if_neg (by omega)]) (hend x3 h1 ?_)
    rw [hdw x3 h2, List.drop_eq_nil_of_le (by rw [bytes_len]; omega)]; rfl
  | succ d ih =>
    intro x3 hd h1 h2
    have hlt : x3 < (bytesOf s).length := by rw [bytes_len]; omega
    have hb := bt_bytes s x3 hlt
    have hlt' : x3 < s.size := by rw [bytes_len] at hlt; exact hlt
    by_cases hbl : blankI (bytesOf s)[x3] = true
    · refine Ev.step (f := fun k => tollhouseref02_Trim.l0 k s ((x3 + 1 : Nat) : Int) (s.size : Int)) (fun k => ?_) (ih (x3 + 1) (by omega) (by omega) ?_)
      · rw [tollhouseref02_Trim.l0, if_pos (by omega), if_pos (by omega), if_pos (by omega), hb, w64n x3 (by omega)]
        unfold blankI at hbl
        by_cases h32 : (bytesOf s)[x3] = 32
        · rw [if_pos h32]
        · rw [if_neg h32, if_pos (by simpa [h32] using hbl)]
      · rw [List.take_succ_eq_append_getElem hlt, List.all_append, h2]; simp [hbl]
    · refine Ev.step (f := fun k => tollhouseref02_Trim.j1 k s (x3 : Int) (s.size : Int)) (fun k => ?_) (hend x3 h1 ?_)
      · rw [tollhouseref02_Trim.l0, if_pos (by omega), if_pos (by omega), if_pos (by omega), hb]
        unfold blankI at hbl
        rw [if_neg (fun h => hbl (by rw [h]; rfl)), if_neg (fun h => hbl (by rw [h]; rfl))]
      · rw [hdw x3 h2, List.drop_eq_getElem_cons hlt, List.dropWhile_cons_of_neg hbl]
theorem refTrim_ok (s : ByteArray) (hs : s.size < 140737488355328) : Ev (fun k => tollhouseref02_Trim.f k s) (trimB s) := by
  unfold tollhouseref02_Trim.f
  exact refTrim_l0 s hs s.size 0 (by omega) (Nat.zero_le _) rfl

theorem rdOf_at (l : List ByteArray) (i : Nat) (h : i < l.length) : rdOf ByteArray.empty l (i : Int) = l[i] := by
  unfold rdOf
  rw [Int.toNat_natCast, List.getD_eq_getElem?_getD, List.getElem?_eq_getElem h]
  rfl
theorem toList_inj' {a b : ByteArray} (h : a.toList = b.toList) : a = b := by
  rw [ByteArray.toList_eq, ByteArray.toList_eq] at h
  cases a; cases b
  congr 1
  exact Array.toList_inj.1 h
end Go.Proofs.YtcamdfjjdigaeaaDoor.P
