/- Plain law: head.Get. -/
import Derived.Test.YtcamdfjjdigaeaaDoorPBase
import Derived.Test.YtcamdfjjdigaeaaDoorQheadGet
set_option linter.unusedVariables false
set_option linter.unusedSimpArgs false
namespace Go.Proofs.YtcamdfjjdigaeaaDoor.P
open Go.RowKit Go.Proofs.YtcamdfjjdigaeaaDoorW.PrintWords Go.Proofs.YtcamdfjjdigaeaaDoorW.PrintLast Go.Proofs.YtcamdfjjdigaeaaDoorW.PrintMore

/-- What Get tells. -/
def getB (l : List S34) (n : ByteArray) : List ByteArray := (l.filter fun x => sameB x.f0 n).map (·.f1)
theorem getB_cons (x : S34) (r : List S34) (n : ByteArray) : getB (x :: r) n = if sameB x.f0 n = true then x.f1 :: getB r n else getB r n := by
  unfold getB
  simp only [List.filter_cons]
  split <;> rfl
theorem rd_at (l : List S34) (i : Nat) (h : i < l.length) : rd_T34 l (i : Int) = l[i] := by
  unfold rd_T34
  rw [Int.toNat_natCast, List.getD_eq_getElem?_getD, List.getElem?_eq_getElem h]
  rfl
theorem get_from (l : List S34) (n : ByteArray) (hl : l.length < 8796093022208) (hx : ∀ x ∈ l, x.f0.size ≤ 9223372036854775807) (hn : n.size ≤ 9223372036854775807) :
    ∀ (k i : Nat) (acc : List ByteArray), i ≤ l.length → acc.length ≤ i → l.length - i < k → head_Get.l0 k n acc l (l.length : Int) (i : Int) = some (acc ++ getB (l.drop i) n) := by
  intro k
  induction k with
  | zero => intro i acc _ _ h; omega
  | succ k ih =>
    intro i acc hi ha hk
    rw [head_Get.l0]
    by_cases hlt : i < l.length
    · rw [if_pos (show (i : Int) < (l.length : Int) by omega), if_pos (show (0 : Int) ≤ (i : Int) by omega), if_pos (show (i : Int) < (l.length : Int) by omega), rd_at l i hlt, textSame_ok _ _ (hx _ (List.getElem_mem hlt)) hn]
      have hw : wrap64 ((i : Int) + 1) = ((i + 1 : Nat) : Int) := by unfold wrap64; omega
      rw [hw]
      have hd : l.drop i = l[i] :: l.drop (i + 1) := List.drop_eq_getElem_cons hlt
      simp only [Option.bind_some]
      by_cases hs : sameB l[i].f0 n = true
      · rw [if_pos hs, if_pos (show acc.length < 8796093022208 by omega), ih (i + 1) (acc ++ [l[i].f1]) (by omega) (by rw [List.length_append]; simp; omega) (by omega)]
        have e1 : getB (l.drop i) n = l[i].f1 :: getB (l.drop (i + 1)) n := by rw [hd, getB_cons, if_pos hs]
        rw [e1, List.append_assoc]
        rfl
      · rw [if_neg hs, ih (i + 1) acc (by omega) (by omega) (by omega)]
        have e1 : getB (l.drop i) n = getB (l.drop (i + 1)) n := by rw [hd, getB_cons, if_neg hs]
        rw [e1]
    · rw [if_neg (show ¬ (i : Int) < (l.length : Int) by omega), List.drop_eq_nil_of_le (by omega)]
      simp [getB]
theorem get_ok (k : Nat) (l : List S34) (n : ByteArray) (hl : l.length < 8796093022208) (hx : ∀ x ∈ l, x.f0.size ≤ 9223372036854775807) (hn : n.size ≤ 9223372036854775807) (hk : l.length < k) : head_Get.f k l n = some (getB l n) := by
  unfold head_Get.f
  have := get_from l n hl hx hn k 0 [] (Nat.zero_le _) (Nat.zero_le _) (by omega)
  simpa using this

end Go.Proofs.YtcamdfjjdigaeaaDoor.P
