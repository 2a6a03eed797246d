/- Plain laws of layer 5's contracts: Get, the document's Same, Drop, With. -/
import Derived.Test.YtdofgilfmgdpkaaDoorPBase
import Derived.Test.YtdofgilfmgdpkaaDoorQheadGet
import Derived.Test.YtdofgilfmgdpkaaDoorQRef05
import Derived.Test.YtdofgilfmgdpkaaDoorFheadDrop
import Derived.Test.YtdofgilfmgdpkaaDoorQheadWith
set_option linter.unusedVariables false
set_option linter.unusedSimpArgs false
namespace Go.Proofs.YtdofgilfmgdpkaaDoor.P
open Go.RowKit Go.Proofs.YtdofgilfmgdpkaaDoorW.PrintWords Go.Proofs.YtdofgilfmgdpkaaDoorW.PrintLast Go.Proofs.YtdofgilfmgdpkaaDoorW.PrintMore

/-- What Get tells. -/
def getB (l : List S45) (n : ByteArray) : List ByteArray := (l.filter fun x => sameB x.f0 n).map (·.f1)
theorem getB_cons (x : S45) (r : List S45) (n : ByteArray) : getB (x :: r) n = if sameB x.f0 n = true then x.f1 :: getB r n else getB r n := by
  unfold getB
  simp only [List.filter_cons]
  split <;> rfl
theorem rd_at (l : List S45) (i : Nat) (h : i < l.length) : rd_T45 l (i : Int) = l[i] := by
  unfold rd_T45
  rw [Int.toNat_natCast, List.getD_eq_getElem?_getD, List.getElem?_eq_getElem h]
  rfl
theorem get_from (l : List S45) (n : ByteArray) (hl : l.length < 8796093022208) (hx : ∀ x ∈ l, x.f0.size ≤ 9223372036854775807) (hn : n.size ≤ 9223372036854775807) :
    ∀ (k i : Nat) (acc : List ByteArray), i ≤ l.length → acc.length ≤ i → l.length - i < k → head_Get.l0 k n acc l (l.length : Int) (i : Int) = some (acc ++ getB (l.drop i) n) := by
  intro k
  induction k with
  | zero => intro i acc _ _ h; omega
  | succ k ih =>
    intro i acc hi ha hk
    rw [head_Get.l0]
    by_cases hlt : i < l.length
    · rw [if_pos (show (i : Int) < (l.length : Int) by omega), if_pos (show (0 : Int) ≤ (i : Int) by omega), if_pos (show (i : Int) < (l.length : Int) by omega), rd_at l i hlt, textSame_ok _ _ (hx _ (List.getElem_mem hlt)) hn]
      have hw : wrap64 ((i : Int) + 1) = ((i + 1 : Nat) : Int) := by unfold wrap64; omega
      rw [hw]
      have hd : l.drop i = l[i] :: l.drop (i + 1) := List.drop_eq_getElem_cons hlt
      simp only [Option.bind_some]
      by_cases hs : sameB l[i].f0 n = true
      · rw [if_pos hs, if_pos (show acc.length < 8796093022208 by omega), ih (i + 1) (acc ++ [l[i].f1]) (by omega) (by rw [List.length_append]; simp; omega) (by omega)]
        have e1 : getB (l.drop i) n = l[i].f1 :: getB (l.drop (i + 1)) n := by rw [hd, getB_cons, if_pos hs]
        rw [e1, List.append_assoc]
        rfl
      · rw [if_neg hs, ih (i + 1) acc (by omega) (by omega) (by omega)]
        have e1 : getB (l.drop i) n = getB (l.drop (i + 1)) n := by rw [hd, getB_cons, if_neg hs]
        rw [e1]
    · rw [if_neg (show ¬ (i : Int) < (l.length : Int) by omega), List.drop_eq_nil_of_le (by omega)]
      simp [getB]
theorem get_ok (k : Nat) (l : List S45) (n : ByteArray) (hl : l.length < 8796093022208) (hx : ∀ x ∈ l, x.f0.size ≤ 9223372036854775807) (hn : n.size ≤ 9223372036854775807) (hk : l.length < k) : head_Get.f k l n = some (getB l n) := by
  unfold head_Get.f
  have := get_from l n hl hx hn k 0 [] (Nat.zero_le _) (Nat.zero_le _) (by omega)
  simpa using this
theorem field_eta (x y : S45) (h0 : x.f0 = y.f0) (h1 : x.f1 = y.f1) : x = y := by cases x; cases y; simp_all
theorem toList_inj {a b : ByteArray} (h : a.toList = b.toList) : a = b := by
  rw [ByteArray.toList_eq, ByteArray.toList_eq] at h
  cases a; cases b
  congr 1
  exact Array.toList_inj.1 h
theorem same_from (a b : List S45) (he : a.length = b.length) (hl : a.length < 9223372036854775807) :
    ∀ (k i : Nat), i ≤ a.length → a.length - i < k → a.take i = b.take i → tollhouseref05_Same.l0 k a b (i : Int) = some (decide (a = b)) := by
  intro k
  induction k with
  | zero => intro i _ h; omega
  | succ k ih =>
    intro i hi hk ht
    rw [tollhouseref05_Same.l0]
    by_cases hlt : i < a.length
    · have hltb : i < b.length := by omega
      rw [if_pos (show (i : Int) < (a.length : Int) by omega), if_pos (show (0 : Int) ≤ (i : Int) by omega), if_pos (show (i : Int) < (b.length : Int) by omega), rd_at a i hlt, rd_at b i hltb]
      have hw : wrap64 ((i : Int) + 1) = ((i + 1 : Nat) : Int) := by unfold wrap64; omega
      rw [hw]
      by_cases hs : (!(a[i].f0.toList == b[i].f0.toList) || !(a[i].f1.toList == b[i].f1.toList)) = true
      · rw [if_pos hs]
        have hne : a ≠ b := by
          intro e
          subst e
          simp at hs
        rw [decide_eq_false hne]
      · rw [if_neg hs]
        rw [Bool.not_eq_true, Bool.or_eq_false_iff, Bool.not_eq_false', Bool.not_eq_false', beq_iff_eq, beq_iff_eq] at hs
        have e : a[i] = b[i] := field_eta _ _ (toList_inj hs.1) (toList_inj hs.2)
        refine ih (i + 1) (by omega) (by omega) ?_
        rw [List.take_succ_eq_append_getElem hlt, List.take_succ_eq_append_getElem hltb, ht, e]
    · rw [if_neg (show ¬ (i : Int) < (a.length : Int) by omega)]
      have : a = b := by
        rw [List.take_of_length_le (by omega), List.take_of_length_le (by omega)] at ht
        exact ht
      rw [decide_eq_true this]
theorem refSame_ok (k : Nat) (a b : List S45) (hl : a.length < 9223372036854775807) (hk : a.length < k) : tollhouseref05_Same.f k a b = some (decide (a = b)) := by
  unfold tollhouseref05_Same.f
  by_cases he : a.length = b.length
  · rw [if_pos (by omega)]
    exact same_from a b he hl k 0 (Nat.zero_le _) (by omega) rfl
  · rw [if_neg (by omega), decide_eq_false (fun e => he (by rw [e]))]
theorem drop_ok (l : List S45) (ns : List ByteArray) (hl : l.length * 32 ≤ 140737488355328) (hx : ∀ x ∈ l, x.f0.size ≤ 9223372036854775807) (hn : ∀ n ∈ ns, n.size ≤ 9223372036854775807) : head_Drop.f l ns = some (dropB l ns) := by
  unfold head_Drop.f
  rw [if_pos ⟨hl, List.all_eq_true.2 fun x h => decide_eq_true (hx x h), List.all_eq_true.2 fun x h => decide_eq_true (hn x h)⟩]
theorem dropB_le (l : List S45) (ns : List ByteArray) : (dropB l ns).length ≤ l.length := List.length_filter_le _ _
theorem dropB_mem {l : List S45} {ns : List ByteArray} {x : S45} (h : x ∈ dropB l ns) : x ∈ l ∧ hasName ns x = false := by
  have := List.mem_filter.1 h
  exact ⟨this.1, by simpa using this.2⟩
theorem hasName_one (n : ByteArray) (x : S45) : hasName [n] x = sameB x.f0 n := by simp [hasName]
theorem with_ok (l : List S45) (n v : ByteArray) (hl : l.length * 32 < 140737488355328) (hx : ∀ x ∈ l, x.f0.size ≤ 9223372036854775807) (hn : n.size ≤ 9223372036854775807) : head_With.f l n v = some (dropB l [n] ++ [⟨n, v⟩]) := by
  unfold head_With.f
  rw [drop_ok l [n] (by omega) hx (by intro m hm; rw [List.mem_singleton.1 hm]; exact hn)]
  have := dropB_le l [n]
  simp only [Option.bind_some]
  rw [if_pos (by omega)]
end Go.Proofs.YtdofgilfmgdpkaaDoor.P
