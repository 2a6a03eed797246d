/- Plain law: the document's Same. -/
import Derived.Test.YtegdblnalpfndaaDoorPGet
import Derived.Test.YtegdblnalpfndaaDoorQRef05
set_option linter.unusedVariables false
set_option linter.unusedSimpArgs false
namespace Go.Proofs.YtegdblnalpfndaaDoor.P
open Go.RowKit Go.Proofs.YtegdblnalpfndaaDoorW.PrintWords Go.Proofs.YtegdblnalpfndaaDoorW.PrintLast Go.Proofs.YtegdblnalpfndaaDoorW.PrintMore

theorem field_eta (x y : S32) (h0 : x.f0 = y.f0) (h1 : x.f1 = y.f1) : x = y := by cases x; cases y; simp_all
theorem toList_inj {a b : ByteArray} (h : a.toList = b.toList) : a = b := by
  rw [ByteArray.toList_eq, ByteArray.toList_eq] at h
  cases a; cases b
  congr 1
  exact Array.toList_inj.1 h
theorem same_from (a b : List S32) (he : a.length = b.length) (hl : a.length < 9223372036854775807) :
    ∀ (k i : Nat), i ≤ a.length → a.length - i < k → a.take i = b.take i → tollhouseref05_Same.l0 k a b (i : Int) = some (decide (a = b)) := by
  intro k
  induction k with
  | zero => intro i _ h; omega
  | succ k ih =>
    intro i hi hk ht
    rw [tollhouseref05_Same.l0]
    by_cases hlt : i < a.length
    · have hltb : i < b.length := by omega
      rw [if_pos (show (i : Int) < (a.length : Int) by omega), if_pos (show (0 : Int) ≤ (i : Int) by omega), if_pos (show (i : Int) < (b.length : Int) by omega), rd_at a i hlt, rd_at b i hltb]
      have hw : wrap64 ((i : Int) + 1) = ((i + 1 : Nat) : Int) := by unfold wrap64; omega
      rw [hw]
      by_cases hs : (!(a[i].f0.toList == b[i].f0.toList) || !(a[i].f1.toList == b[i].f1.toList)) = true
      · rw [if_pos hs]
        have hne : a ≠ b := by
          intro e
          subst e
          simp at hs
        rw [decide_eq_false hne]
      · rw [if_neg hs]
        rw [Bool.not_eq_true, Bool.or_eq_false_iff, Bool.not_eq_false', Bool.not_eq_false', beq_iff_eq, beq_iff_eq] at hs
        have e : a[i] = b[i] := field_eta _ _ (toList_inj hs.1) (toList_inj hs.2)
        refine ih (i + 1) (by omega) (by omega) ?_
        rw [List.take_succ_eq_append_getElem hlt, List.take_succ_eq_append_getElem hltb, ht, e]
    · rw [if_neg (show ¬ (i : Int) < (a.length : Int) by omega)]
      have : a = b := by
        rw [List.take_of_length_le (by omega), List.take_of_length_le (by omega)] at ht
        exact ht
      rw [decide_eq_true this]
theorem refSame_ok (k : Nat) (a b : List S32) (hl : a.length < 9223372036854775807) (hk : a.length < k) : tollhouseref05_Same.f k a b = some (decide (a = b)) := by
  unfold tollhouseref05_Same.f
  by_cases he : a.length = b.length
  · rw [if_pos (by omega)]
    exact same_from a b he hl k 0 (Nat.zero_le _) (by omega) rfl
  · rw [if_neg (by omega), decide_eq_false (fun e => he (by rw [e]))]

end Go.Proofs.YtegdblnalpfndaaDoor.P
