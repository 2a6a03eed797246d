/- Plain law: the kind of a body, by the program and by the document. -/
import Derived.Test.YtcamdfjjdigaeaaDoorPRef03
import Derived.Test.YtcamdfjjdigaeaaDoorFframelength
import Derived.Test.YtcamdfjjdigaeaaDoorQframeRequest
import Derived.Test.YtcamdfjjdigaeaaDoorQframeResponse
import Derived.Test.YtcamdfjjdigaeaaDoorQtollhouseref07Request
import Derived.Test.YtcamdfjjdigaeaaDoorQtollhouseref07Response
set_option linter.unusedVariables false
set_option linter.unusedSimpArgs false
namespace Go.Proofs.YtcamdfjjdigaeaaDoor.P
open Go.RowKit Go.Proofs.YtcamdfjjdigaeaaDoorW.PrintWords Go.Proofs.YtcamdfjjdigaeaaDoorW.PrintLast Go.Proofs.YtcamdfjjdigaeaaDoorW.PrintMore

def clS : ByteArray := ⟨#[99, 111, 110, 116, 101, 110, 116, 45, 108, 101, 110, 103, 116, 104]⟩
def teS : ByteArray := ⟨#[116, 114, 97, 110, 115, 102, 101, 114, 45, 101, 110, 99, 111, 100, 105, 110, 103]⟩
def nB (x : ByteArray) : Int × Int := numB 10 decW x
theorem nB_err (x : ByteArray) : ((nB x).2 = 0) ∨ (nB x = (0, 3)) ∨ (nB x = (0, 5)) := by
  unfold nB
  rw [numB_tells 10 (.inl rfl)]
  repeat' split
  · exact .inr (.inr rfl)
  · exact .inr (.inr rfl)
  · exact .inr (.inl rfl)
  · exact .inl rfl
theorem nB_pos (x : ByteArray) : 0 ≤ (nB x).1 := by
  unfold nB
  rw [numB_tells 10 (.inl rfl)]
  repeat' split
  · exact Int.le_refl _
  · exact Int.le_refl _
  · exact Int.le_refl _
  · rename_i h _
    exact valI_ge 10 (.inl rfl) decW _ 0 (Int.le_refl _) (fun c hc => by
      by_cases hn : decW c < 0
      · exact absurd ⟨c, hc, hn⟩ h
      · omega)
/-- All lengths say what the first one says. -/
def okLen (x : ByteArray) (r : List ByteArray) : Bool := r.all fun y => decide (nB y = nB x) && (!decide ((nB x).2 = 3) || decide (y.toList = x.toList))
/-- Are the lengths sure? -/
def sureR (minor : Int) (l : List S34) : Bool :=
  if getB l clS ≠ [] ∧ getB l teS ≠ [] then false
  else if getB l teS ≠ [] then decide (minor = 1) && (match elemsB l teS with | [x] => sameB x chunkedS | _ => false)
  else if getB l clS = [] then true
  else match elemsB l clS with | [] => false | x :: r => !decide ((nB x).2 = 5) && okLen x r
/-- The kind of a body whose lengths are sure. -/
def bodyR (l : List S34) : Int × Int × Int :=
  if getB l teS ≠ [] then (2, 0, 0)
  else match elemsB l clS with | [] => (0, 0, 0) | x :: _ => if (nB x).2 = 0 then (if (nB x).1 > 4096 then (0, 0, 21) else (1, (nB x).1, 0)) else (0, 0, 21)
def badMinor (minor : Int) : Prop := minor ≠ 0 ∧ minor ≠ 1
instance (m : Int) : Decidable (badMinor m) := by unfold badMinor; infer_instance
def reqR (minor : Int) (l : List S34) : Int × Int × Int := if badMinor minor then (0, 0, 1) else if sureR minor l = false then (0, 0, 22) else bodyR l
def headS : List UInt8 := [72, 69, 65, 68]
def connS : List UInt8 := [67, 79, 78, 78, 69, 67, 84]
/-- Has a response none by its status or method? -/
def bareR (status : Int) (method : ByteArray) : Prop := method.toList = headS ∨ status < 200 ∨ status = 204 ∨ status = 304 ∨ (method.toList = connS ∧ status < 300)
instance (s : Int) (m : ByteArray) : Decidable (bareR s m) := by unfold bareR; infer_instance
def closeR (q : Int × Int × Int) : Int × Int × Int := if q.2.2 = 0 ∧ q.1 = 0 then (3, q.2.1, q.2.2) else q
def respR (status : Int) (method : ByteArray) (minor : Int) (l : List S34) : Int × Int × Int :=
  if badMinor minor then (0, 0, 1) else if status < 100 ∨ status > 599 then (0, 0, 1) else if sureR minor l = false then (0, 0, 22) else if bareR status method then (0, 0, 0) else closeR (bodyR l)

/-! ### The reference -/
theorem refEls_from (l : List S34) (n : ByteArray) (hl : bulkL l ≤ 1073741824) (hn : n.size ≤ 1073741824) : ∀ (d i : Nat), l.length - i = d → i ≤ l.length → Ev (fun k => tollhouseref07_elements.l0 k l n (elemsB (l.take i) n) ((getB (l.take i) n).length : Int) (i : Int)) (elemsB l n, ((getB l n).length : Int)) := by
  have hlen := bulkL_len l
  have bt : ∀ i, bulkL (l.take i) ≤ bulkL l := fun i => by
    conv => rhs; rw [← List.take_append_drop i l]
    rw [bulkL_append]; omega
  intro d
  induction d with
  | zero =>
    intro i hd hi
    rw [List.take_of_length_le (by omega)]
    exact Ev.step (f := fun _ => some (elemsB l n, ((getB l n).length : Int))) (fun k => by rw [tollhouseref07_elements.l0, if_neg (by omega)]) (Ev.now _)
  | succ d ih =>
    intro i hd hi
    have hlt : i < l.length := by omega
    have hmem : l[i] ∈ l := List.getElem_mem hlt
    have hsz := bulkL_mem hmem
    have hsn : l.take (i + 1) = l.take i ++ [l[i]] := List.take_succ_eq_append_getElem hlt
    have hgn : getB (l.take (i + 1)) n = getB (l.take i) n ++ getB [l[i]] n := by rw [hsn]; unfold getB; rw [List.filter_append, List.map_append]
    have hgl := getB_length (l.take i) n
    rw [List.length_take] at hgl
    refine Ev.step (f := fun k => (tollhouseref02_Same.f k l[i].f0 n).bind fun t143 => (if t143 = true then ((tollhouseref02_List.f k l[i].f1).bind fun t145 => (if (elemsB (l.take i) n).length + t145.length < 8796093022208 then (tollhouseref07_elements.l0 k l n (elemsB (l.take i) n ++ t145) (wrap64 (((getB (l.take i) n).length : Int) + 1)) (wrap64 ((i : Int) + 1))) else (none))) else (tollhouseref07_elements.l0 k l n (elemsB (l.take i) n) ((getB (l.take i) n).length : Int) (wrap64 ((i : Int) + 1))))) (fun k => by rw [tollhouseref07_elements.l0, if_pos (by omega), if_pos (by omega), rd_at l i hlt]) ?_
    refine Ev.bind (refSame02_ok _ _ (by omega) (by omega)) ?_
    rw [w64n i (by omega)]
    by_cases hs : sameB l[i].f0 n = true
    · have hg1 : getB [l[i]] n = [l[i].f1] := by rw [getB_cons, if_pos hs]; rfl
      have he : elemsB (l.take (i + 1)) n = elemsB (l.take i) n ++ listB l[i].f1 := by unfold elemsB; rw [hgn, hg1, elsB_append, elsB_one]
      have h1 := elemsB_length (l.take i) n
      have h2 := bt i
      have h3 := listB_length l[i].f1
      refine Ev.congr (fun k => by rw [if_pos hs]) (Ev.bind (refList_ok _ (by omega)) (Ev.congr (fun k => by rw [if_pos (by omega), wrap1 _ (by omega)]) ?_))
      have := ih (i + 1) (by omega) (by omega)
      rw [he, hgn, hg1, List.length_append] at this
      exact this
    · have hg1 : getB [l[i]] n = [] := by rw [getB_cons, if_neg hs]; rfl
      have he : elemsB (l.take (i + 1)) n = elemsB (l.take i) n := by unfold elemsB; rw [hgn, hg1, List.append_nil]
      refine Ev.congr (fun k => by rw [if_neg hs]) ?_
      have := ih (i + 1) (by omega) (by omega)
      rw [he, hgn, hg1, List.append_nil] at this
      exact this
theorem refEls_ok (l : List S34) (n : ByteArray) (hl : bulkL l ≤ 1073741824) (hn : n.size ≤ 1073741824) : Ev (fun k => tollhouseref07_elements.f k l n) (elemsB l n, ((getB l n).length : Int)) := by
  have := refEls_from l n hl hn l.length 0 (by omega) (Nat.zero_le _)
  simpa [tollhouseref07_elements.f, elemsB, elsB, getB] using this
theorem refSure_l0 (x : ByteArray) (r : List ByteArray) (hl : (x :: r).length ≤ 1073741824) (hx : ∀ y ∈ x :: r, y.size ≤ 1073741824) : ∀ (d i : Nat), (x :: r).length - i = d → 1 ≤ i → i ≤ (x :: r).length → okLen x (r.take (i - 1)) = true → Ev (fun k => tollhouseref07_Sure.l0 k (x :: r) (nB x).1 (nB x).2 (i : Int)) (okLen x r) := by
  intro d
  induction d with
  | zero =>
    intro i hd h1 hi hok
    rw [List.take_of_length_le (by simp at hd hi ⊢; omega)] at hok
    rw [hok]
    exact Ev.step (f := fun _ => some true) (fun k => by rw [tollhouseref07_Sure.l0, if_neg (by omega)]) (Ev.now _)
  | succ d ih =>
    intro i hd h1 hi hok
    have hlt : i < (x :: r).length := by omega
    have hltr : i - 1 < r.length := by simp at hlt; omega
    have hy : (x :: r)[i] = r[i - 1] := by
      obtain ⟨j, rfl⟩ : ∃ j, i = j + 1 := ⟨i - 1, by omega⟩
      simp
    have hmem : (x :: r)[i] ∈ x :: r := List.getElem_mem hlt
    have hsz := hx _ hmem
    have hsn : r.take i = r.take (i - 1) ++ [(x :: r)[i]] := by
      rw [hy]
      obtain ⟨j, rfl⟩ : ∃ j, i = j + 1 := ⟨i - 1, by omega⟩
      exact List.take_succ_eq_append_getElem hltr
    have hrm : (x :: r)[i] ∈ r := by rw [hy]; exact List.getElem_mem hltr
    generalize hyy : (x :: r)[i] = y at *
    have hbad : (decide (nB y = nB x) && (!decide ((nB x).2 = 3) || decide (y.toList = x.toList))) = false → okLen x r = false := fun h => by
      unfold okLen
      rw [List.all_eq_false]
      exact ⟨y, hrm, by rw [h]; decide⟩
    have hgood : (decide (nB y = nB x) && (!decide ((nB x).2 = 3) || decide (y.toList = x.toList))) = true → Ev (fun k => tollhouseref07_Sure.l0 k (x :: r) (nB x).1 (nB x).2 (wrap64 ((i : Int) + 1))) (okLen x r) := fun h => by
      rw [w64n i (by omega)]
      refine ih (i + 1) (by omega) (by omega) (by omega) ?_
      rw [Nat.add_sub_cancel, hsn]
      unfold okLen at hok ⊢
      rw [List.all_append, hok, Bool.true_and, List.all_cons, List.all_nil, Bool.and_true]
      exact h
    refine Ev.step (f := fun k => (tollhouseref03_Decimal.f k y).bind fun bt169 => (if bt169.2 = (nB x).2 then (tollhouseref07_Sure.j2 k (x :: r) (nB x).1 (nB x).2 (i : Int) (bt169.1 != (nB x).1)) else (tollhouseref07_Sure.j2 k (x :: r) (nB x).1 (nB x).2 (i : Int) true))) (fun k => by rw [tollhouseref07_Sure.l0, if_pos (by omega), if_pos (by omega), rdOf_at _ i hlt, hyy]) ?_
    refine Ev.bind (refDecimal_ok y (by omega)) ?_
    change Ev (fun k => if (nB y).2 = (nB x).2 then (tollhouseref07_Sure.j2 k (x :: r) (nB x).1 (nB x).2 (i : Int) ((nB y).1 != (nB x).1)) else (tollhouseref07_Sure.j2 k (x :: r) (nB x).1 (nB x).2 (i : Int) true)) (okLen x r)
    have hfalse : okLen x r = false → Ev (fun k => tollhouseref07_Sure.j2 k (x :: r) (nB x).1 (nB x).2 (i : Int) true) (okLen x r) := fun h => by
      rw [h]
      exact Ev.step (f := fun _ => some false) (fun k => by rw [tollhouseref07_Sure.j2, if_pos rfl]) (Ev.now _)
    by_cases h2 : (nB y).2 = (nB x).2
    · by_cases h1' : (nB y).1 = (nB x).1
      · have he : nB y = nB x := Prod.ext h1' h2
        have eb : ((nB y).1 != (nB x).1) = false := by rw [h1']; simp
        refine Ev.congr (fun k => by rw [if_pos h2, eb]) ?_
        by_cases h3 : (nB x).2 = 3
        · by_cases ht : y.toList = x.toList
          · refine Ev.step (f := fun k => tollhouseref07_Sure.l0 k (x :: r) (nB x).1 (nB x).2 (wrap64 ((i : Int) + 1))) (fun k => by rw [tollhouseref07_Sure.j2, if_neg (by decide), if_pos h3, if_pos (by omega), if_pos (by omega), if_pos (by simp only [List.length_cons]; omega), rdOf_at _ i hlt, hyy, show rdOf ByteArray.empty (x :: r) 0 = x from rfl, if_pos ht]) ?_
            exact hgood (by simp [he, ht])
          · rw [hbad (by simp [ht, h3])]
            exact Ev.step (f := fun _ => some false) (fun k => by rw [tollhouseref07_Sure.j2, if_neg (by decide), if_pos h3, if_pos (by omega), if_pos (by omega), if_pos (by simp only [List.length_cons]; omega), rdOf_at _ i hlt, hyy, show rdOf ByteArray.empty (x :: r) 0 = x from rfl, if_neg ht]) (Ev.now _)
        · refine Ev.step (f := fun k => tollhouseref07_Sure.l0 k (x :: r) (nB x).1 (nB x).2 (wrap64 ((i : Int) + 1))) (fun k => by rw [tollhouseref07_Sure.j2, if_neg (by decide), if_neg h3]) ?_
          exact hgood (by simp [he, h3])
      · have eb : ((nB y).1 != (nB x).1) = true := by simp [h1']
        refine Ev.congr (fun k => by rw [if_pos h2, eb]) (hfalse (hbad ?_))
        have : nB y ≠ nB x := fun e => h1' (by rw [e])
        simp [this]
    · refine Ev.congr (fun k => by rw [if_neg h2]) (hfalse (hbad ?_))
      have : nB y ≠ nB x := fun e => h2 (by rw [e])
      simp [this]
theorem len_pos_iff {α : Type} (l : List α) : ((l.length : Int) > 0) ↔ l ≠ [] := by
  cases l <;> simp
theorem refSure_ok (minor : Int) (l : List S34) (hl : bulkL l ≤ 1073741824) : Ev (fun k => tollhouseref07_Sure.f k minor l) (sureR minor l) := by
  have hE1 := refEls_ok l clS hl (by decide)
  have hE2 := refEls_ok l teS hl (by decide)
  unfold tollhouseref07_Sure.f
  refine Ev.bind hE1 (Ev.bind hE2 ?_)
  dsimp only
  have p1 := len_pos_iff (getB l clS)
  have p2 := len_pos_iff (getB l teS)
  unfold sureR
  by_cases h1 : getB l clS = []
  · refine Ev.congr (fun k => if_neg (by rw [p1]; simp [h1])) ?_
    rw [if_neg (by simp [h1])]
    by_cases h2 : getB l teS = []
    · rw [if_neg (by simp [h2]), if_pos h1]
      refine Ev.step (f := fun _ => some true) (fun k => ?_) (Ev.now _)
      rw [tollhouseref07_Sure.j0, if_neg (by decide), if_neg (by rw [p2]; simp [h2]), if_pos (by simp [h1])]
    · rw [if_pos h2]
      by_cases hm : minor = 1
      · have hEl := elemsB_length l teS
        cases hx : elemsB l teS with
        | nil =>
          refine Ev.step (f := fun _ => some false) (fun k => ?_) (by rw [hm]; exact Ev.now _)
          rw [tollhouseref07_Sure.j0, if_neg (by decide), if_pos (by rw [p2]; exact h2), if_pos hm, if_neg (by simp)]
        | cons x r =>
          have hxs : x.size ≤ bulkL l := (elemsB_mem (n := teS) (by rw [hx]; simp)).1
          cases r with
          | nil =>
            refine Ev.step (f := fun k => (tollhouseref02_Same.f k x chunkedS).bind fun t164 => some t164) (fun k => ?_) ?_
            · rw [tollhouseref07_Sure.j0, if_neg (by decide), if_pos (by rw [p2]; exact h2), if_pos hm, if_pos (by simp), if_pos (by simp)]
              rfl
            · rw [hm]
              exact Ev.bind (refSame02_ok _ _ (by omega) (by decide)) (by simpa using Ev.now _)
          | cons y r =>
            refine Ev.step (f := fun _ => some false) (fun k => ?_) (by rw [hm]; exact Ev.now _)
            rw [tollhouseref07_Sure.j0, if_neg (by decide), if_pos (by rw [p2]; exact h2), if_pos hm, if_neg (by simp only [List.length_cons]; omega)]
      · rw [decide_eq_false hm, Bool.false_and]
        refine Ev.step (f := fun _ => some false) (fun k => ?_) (Ev.now _)
        rw [tollhouseref07_Sure.j0, if_neg (by decide), if_pos (by rw [p2]; exact h2), if_neg hm]
  · refine Ev.congr (fun k => if_pos (p1.2 h1)) ?_
    by_cases h2 : getB l teS = []
    · rw [if_neg (by simp [h2]), if_neg (by simp [h2]), if_neg h1]
      have hd : decide (((getB l teS).length : Int) > 0) = false := decide_eq_false (by rw [p2]; simp [h2])
      rw [hd]
      cases hx : elemsB l clS with
      | nil =>
        refine Ev.step (f := fun _ => some false) (fun k => ?_) (Ev.now _)
        rw [tollhouseref07_Sure.j0, if_neg (by decide), if_neg (by rw [p2]; simp [h2]), if_neg (by have := p1.2 h1; omega), if_pos (by simp)]
      | cons x r =>
        have hxs : ∀ y ∈ x :: r, y.size ≤ bulkL l := fun y hy => (elemsB_mem (n := clS) (by rw [hx]; exact hy)).1
        have hEl := elemsB_length l clS
        rw [hx] at hEl
        refine Ev.step (f := fun k => (tollhouseref03_Decimal.f k x).bind fun bt166 => (if bt166.2 = 5 then (some false) else (tollhouseref07_Sure.l0 k (x :: r) bt166.1 bt166.2 1))) (fun k => ?_) ?_
        · rw [tollhouseref07_Sure.j0, if_neg (by decide), if_neg (by rw [p2]; simp [h2]), if_neg (by have := p1.2 h1; omega), if_neg (by simp only [List.length_cons]; omega), if_pos (by simp only [List.length_cons]; omega)]
          rfl
        · refine Ev.bind (refDecimal_ok x (by have := hxs x (by simp); omega)) ?_
          show Ev _ (!decide ((nB x).2 = 5) && okLen x r)
          by_cases h5 : (nB x).2 = 5
          · rw [decide_eq_true h5]
            exact Ev.congr (fun k => if_pos h5) (Ev.now _)
          · rw [decide_eq_false h5, Bool.not_false, Bool.true_and]
            exact Ev.congr (fun k => if_neg h5) (refSure_l0 x r (by omega) (fun y hy => by have := hxs y hy; omega) _ 1 rfl (Nat.le_refl _) (by simp) (by simp [okLen]))
    · rw [if_pos ⟨h1, h2⟩]
      have hd : decide (((getB l teS).length : Int) > 0) = true := decide_eq_true (p2.2 h2)
      rw [hd]
      exact Ev.step (f := fun _ => some false) (fun k => by rw [tollhouseref07_Sure.j0, if_pos rfl]) (Ev.now _)
theorem refBody_ok (l : List S34) (hl : bulkL l ≤ 1073741824) : Ev (fun k => tollhouseref07_body.f k l) (bodyR l) := by
  have hE1 := refEls_ok l clS hl (by decide)
  have hE2 := refEls_ok l teS hl (by decide)
  have p2 := len_pos_iff (getB l teS)
  unfold tollhouseref07_body.f bodyR
  refine Ev.bind hE2 ?_
  dsimp only
  by_cases h2 : getB l teS = []
  · refine Ev.congr (fun k => if_neg (by rw [p2]; simp [h2])) (Ev.bind hE1 ?_)
    dsimp only
    rw [if_neg (by simp [h2])]
    cases hx : elemsB l clS with
    | nil => exact Ev.congr (fun k => if_pos (by simp)) (Ev.now _)
    | cons x r =>
      have hxs : x.size ≤ bulkL l := (elemsB_mem (n := clS) (by rw [hx]; simp)).1
      refine Ev.congr (f := fun k => (tollhouseref03_Decimal.f k x).bind fun bt182 => (if bt182.2 = 0 then (if bt182.1 > 4096 then (some (0, 0, 21)) else (some (1, bt182.1, 0))) else (some (0, 0, 21)))) (fun k => by rw [if_neg (by simp only [List.length_cons]; omega), if_pos (by simp only [List.length_cons]; omega)]; rfl) (Ev.bind (refDecimal_ok x (by omega)) ?_)
      change Ev (fun _ => if (nB x).2 = 0 then (if (nB x).1 > 4096 then (some (0, 0, 21)) else (some (1, (nB x).1, 0))) else (some (0, 0, 21))) (if (nB x).2 = 0 then (if (nB x).1 > 4096 then (0, 0, 21) else (1, (nB x).1, 0)) else (0, 0, 21))
      by_cases h0 : (nB x).2 = 0
      · by_cases h4 : (nB x).1 > 4096
        · rw [if_pos h0, if_pos h4]; exact Ev.congr (fun _ => by rw [if_pos h0, if_pos h4]) (Ev.now _)
        · rw [if_pos h0, if_neg h4]; exact Ev.congr (fun _ => by rw [if_pos h0, if_neg h4]) (Ev.now _)
      · rw [if_neg h0]; exact Ev.congr (fun _ => by rw [if_neg h0]) (Ev.now _)
  · rw [if_pos h2]
    exact Ev.congr (fun k => if_pos (p2.2 h2)) (Ev.now _)
theorem refReq_ok (minor : Int) (l : List S34) (hl : bulkL l ≤ 1073741824) : Ev (fun k => tollhouseref07_Request.f k minor l) (reqR minor l) := by
  have core : Ev (fun k => tollhouseref07_Request.j0 k minor l false) (if sureR minor l = false then (0, 0, 22) else bodyR l) := by
    refine Ev.step (f := fun k => (tollhouseref07_Sure.f k minor l).bind fun t184 => (if t184 = true then ((tollhouseref07_body.f k l).bind fun bt185 => (some (bt185.1, bt185.2.1, bt185.2.2))) else (some (0, 0, 22)))) (fun k => by rw [tollhouseref07_Request.j0, if_neg (by decide)]) (Ev.bind (refSure_ok minor l hl) ?_)
    cases sureR minor l with
    | true => exact Ev.bind (refBody_ok l hl) (Ev.now _)
    | false => exact Ev.now _
  unfold tollhouseref07_Request.f reqR
  by_cases h0 : minor = 0
  · rw [if_neg (show ¬ badMinor minor from fun h => h.1 h0)]
    exact Ev.congr (fun k => if_pos h0) core
  · by_cases h1 : minor = 1
    · rw [if_neg (show ¬ badMinor minor from fun h => h.2 h1)]
      refine Ev.congr (fun k => if_neg h0) ?_
      have e : (minor != 1) = false := by simp [h1]
      rw [e]; exact core
    · rw [if_pos (show badMinor minor from ⟨h0, h1⟩)]
      refine Ev.congr (fun k => if_neg h0) ?_
      have e : (minor != 1) = true := by simp [h1]
      rw [e]
      exact Ev.step (f := fun _ => some (0, 0, 1)) (fun k => by rw [tollhouseref07_Request.j0, if_pos rfl]) (Ev.now _)
theorem refResp_ok (status : Int) (method : ByteArray) (minor : Int) (l : List S34) (hl : bulkL l ≤ 1073741824) : Ev (fun k => tollhouseref07_Response.f k status method minor l) (respR status method minor l) := by
  have h3f : Ev (fun k => tollhouseref07_Response.j3 k l false) (closeR (bodyR l)) := by
    refine Ev.step (f := fun k => (tollhouseref07_body.f k l).bind fun bt196 => (if bt196.2.2 = 0 then (if bt196.1 = 0 then (some (3, bt196.2.1, bt196.2.2)) else (some (bt196.1, bt196.2.1, bt196.2.2))) else (some (bt196.1, bt196.2.1, bt196.2.2)))) (fun k => by rw [tollhouseref07_Response.j3, if_neg (by decide)]) (Ev.bind (refBody_ok l hl) ?_)
    generalize bodyR l = q
    obtain ⟨a, b, c⟩ := q
    unfold closeR
    dsimp only
    by_cases hc : c = 0
    · by_cases ha : a = 0
      · rw [if_pos hc, if_pos ha, if_pos ⟨hc, ha⟩]; exact Ev.now _
      · rw [if_pos hc, if_neg ha, if_neg (fun h => ha h.2)]; exact Ev.now _
    · rw [if_neg hc, if_neg (fun h => hc h.1)]; exact Ev.now _
  have h3t : Ev (fun k => tollhouseref07_Response.j3 k l true) ((0, 0, 0) : Int × Int × Int) := Ev.step (f := fun _ => some (0, 0, 0)) (fun k => by rw [tollhouseref07_Response.j3, if_pos rfl]) (Ev.now _)
  have h2t : Ev (fun k => tollhouseref07_Response.j2 k status method l true) ((0, 0, 0) : Int × Int × Int) := Ev.step (f := fun _ => some (0, 0, 0)) (fun k => by rw [tollhouseref07_Response.j2, if_pos rfl]) (Ev.now _)
  have h2f : ¬ status < 200 → Ev (fun k => tollhouseref07_Response.j2 k status method l false) (if method.toList = connS ∧ status < 300 then (0, 0, 0) else closeR (bodyR l)) := fun hst => by
    refine Ev.step (f := fun k => if method.toList = connS then (if status ≥ 200 then (tollhouseref07_Response.j3 k l (decide (status < 300))) else (tollhouseref07_Response.j3 k l false)) else (tollhouseref07_Response.j3 k l false)) (fun k => by rw [tollhouseref07_Response.j2, if_neg (by decide)]; rfl) ?_
    by_cases hm : method.toList = connS
    · refine Ev.congr (fun k => by rw [if_pos hm, if_pos (by omega)]) ?_
      by_cases h3 : status < 300
      · rw [if_pos ⟨hm, h3⟩, decide_eq_true h3]; exact h3t
      · rw [if_neg (fun h => h3 h.2), decide_eq_false h3]; exact h3f
    · rw [if_neg (fun h => hm h.1)]
      exact Ev.congr (fun k => if_neg hm) h3f
  have core : Ev (fun k => tollhouseref07_Response.j1 k status method minor l false) (if sureR minor l = false then (0, 0, 22) else if bareR status method then (0, 0, 0) else closeR (bodyR l)) := by
    refine Ev.step (f := fun k => (tollhouseref07_Sure.f k minor l).bind fun t195 => (if t195 = true then (if method.toList = headS then (tollhouseref07_Response.j2 k status method l true) else (if status < 200 then (tollhouseref07_Response.j2 k status method l true) else (if status = 204 then (tollhouseref07_Response.j2 k status method l true) else (tollhouseref07_Response.j2 k status method l (status == 304))))) else (some (0, 0, 22)))) (fun k => by rw [tollhouseref07_Response.j1, if_neg (by decide)]; rfl) (Ev.bind (refSure_ok minor l hl) ?_)
    cases sureR minor l with
    | false => exact Ev.now _
    | true =>
      rw [if_neg (by decide)]
      refine Ev.congr (fun k => if_pos rfl) ?_
      by_cases a : method.toList = headS
      · rw [if_pos (show bareR status method from .inl a)]; exact Ev.congr (fun k => if_pos a) h2t
      · by_cases b : status < 200
        · rw [if_pos (show bareR status method from .inr (.inl b))]; exact Ev.congr (fun k => by rw [if_neg a, if_pos b]) h2t
        · by_cases c : status = 204
          · rw [if_pos (show bareR status method from .inr (.inr (.inl c)))]; exact Ev.congr (fun k => by rw [if_neg a, if_neg b, if_pos c]) h2t
          · by_cases d : status = 304
            · rw [if_pos (show bareR status method from .inr (.inr (.inr (.inl d))))]
              exact Ev.congr (fun k => by rw [if_neg a, if_neg b, if_neg c, show (status == 304) = true by simp [d]]) h2t
            · refine Ev.congr (f := fun k => tollhouseref07_Response.j2 k status method l false) (fun k => by rw [if_neg a, if_neg b, if_neg c, show (status == 304) = false by simp [d]]) ?_
              have := h2f b
              by_cases e : method.toList = connS ∧ status < 300
              · rw [if_pos e] at this
                rw [if_pos (show bareR status method from .inr (.inr (.inr (.inr e))))]
                exact this
              · rw [if_neg e] at this
                rw [if_neg (show ¬ bareR status method by unfold bareR; rintro (h | h | h | h | h); exact a h; exact b h; exact c h; exact d h; exact e h)]
                exact this
  have j0f : Ev (fun k => tollhouseref07_Response.j0 k status method minor l false) (if status < 100 ∨ status > 599 then (0, 0, 1) else if sureR minor l = false then (0, 0, 22) else if bareR status method then (0, 0, 0) else closeR (bodyR l)) := by
    have h1t : Ev (fun k => tollhouseref07_Response.j1 k status method minor l true) ((0, 0, 1) : Int × Int × Int) := Ev.step (f := fun _ => some (0, 0, 1)) (fun k => by rw [tollhouseref07_Response.j1, if_pos rfl]) (Ev.now _)
    refine Ev.step (f := fun k => if status < 100 then (tollhouseref07_Response.j1 k status method minor l true) else (tollhouseref07_Response.j1 k status method minor l (decide (status > 599)))) (fun k => by rw [tollhouseref07_Response.j0, if_neg (by decide)]) ?_
    by_cases a : status < 100
    · rw [if_pos (.inl a)]; exact Ev.congr (fun k => if_pos a) h1t
    · refine Ev.congr (fun k => if_neg a) ?_
      by_cases b : status > 599
      · rw [if_pos (.inr b), decide_eq_true b]; exact h1t
      · rw [if_neg (by omega), decide_eq_false b]; exact core
  unfold tollhouseref07_Response.f respR
  by_cases h0 : minor = 0
  · rw [if_neg (show ¬ badMinor minor from fun h => h.1 h0)]
    exact Ev.congr (fun k => if_pos h0) j0f
  · by_cases h1 : minor = 1
    · rw [if_neg (show ¬ badMinor minor from fun h => h.2 h1)]
      refine Ev.congr (fun k => if_neg h0) ?_
      have e : (minor != 1) = false := by simp [h1]
      rw [e]; exact j0f
    · rw [if_pos (show badMinor minor from ⟨h0, h1⟩)]
      refine Ev.congr (fun k => if_neg h0) ?_
      have e : (minor != 1) = true := by simp [h1]
      rw [e]
      exact Ev.step (f := fun _ => some (0, 0, 1)) (fun k => by rw [tollhouseref07_Response.j0, if_pos rfl]) (Ev.now _)

/-! ### The program -/
theorem get_ev07 (l : List S34) (n : ByteArray) (hl : bulkL l ≤ 1073741824) (hn : n.size ≤ 1073741824) : Ev (fun k => head_Get.f k l n) (getB l n) := ⟨l.length + 1, fun k hk => get_ok k l n (by have := bulkL_len l; omega) (fun x hx => by have := bulkL_mem hx; omega) (by omega) (by omega)⟩
theorem chunk_tells (minor : Int) (vs : List ByteArray) : chunkB minor vs = (decide (minor = 1) && (match elsB vs with | [x] => sameB x chunkedS | _ => false)) := by
  unfold chunkB
  have w1 : wrap64 ((0 : Int) + 1) = 1 := by unfold wrap64; omega
  have w2 : wrap64 ((1 : Int) + 1) = 2 := by unfold wrap64; omega
  have s0 : ∀ x, chunkStep 0 x = (if sameB x chunkedS = true then 0 else 22, 1) := fun x => by unfold chunkStep; rw [w1, if_neg (by decide)]
  have s1 : ∀ x, chunkStep 1 x = (22, 2) := fun x => by unfold chunkStep; rw [w2, if_pos (by decide)]
  cases elsB vs with
  | nil => simp [foldE]
  | cons x r =>
    rw [foldE, s0 x]
    cases hs : sameB x chunkedS with
    | false =>
      simp only [Bool.false_eq_true, if_false]
      cases r <;> simp [hs]
    | true =>
      simp only [if_true]
      cases r with
      | nil => simp [foldE, hs]
      | cons y r => rw [foldE, s1 y]; simp
theorem len_step (x y : ByteArray) (h5 : (nB x).2 ≠ 5) : lenStep ⟨(nB x).1, x, !decide ((nB x).2 = 0), true⟩ y = (if (decide (nB y = nB x) && (!decide ((nB x).2 = 3) || decide (y.toList = x.toList))) = true then 0 else 22, ⟨(nB x).1, x, !decide ((nB x).2 = 0), true⟩) := by
  unfold lenStep
  change (if (nB y).2 = 5 then _ else if true = false then (0, (⟨(nB y).1, y, !decide ((nB y).2 = 0), true⟩ : LnSt)) else if ((!decide ((nB x).2 = 0)) != !decide ((nB y).2 = 0)) = true then _ else if (nB y).1 ≠ (nB x).1 then _ else if (!decide ((nB x).2 = 0)) = false then _ else if y.toList = x.toList then _ else _) = _
  have hx := nB_err x
  have hy := nB_err y
  generalize nB x = a at *
  generalize nB y = b at *
  obtain ⟨a1, a2⟩ := a
  obtain ⟨b1, b2⟩ := b
  dsimp only at *
  rcases hx with hx | hx | hx
  · subst hx
    rcases hy with hy | hy | hy
    · subst hy
      by_cases e : b1 = a1 <;> simp [e]
    · obtain ⟨rfl, rfl⟩ := Prod.mk.inj hy
      simp
    · obtain ⟨rfl, rfl⟩ := Prod.mk.inj hy
      simp
  · obtain ⟨rfl, rfl⟩ := Prod.mk.inj hx
    rcases hy with hy | hy | hy
    · subst hy
      simp
    · obtain ⟨rfl, rfl⟩ := Prod.mk.inj hy
      by_cases e : y.toList = x.toList <;> simp [e]
    · obtain ⟨rfl, rfl⟩ := Prod.mk.inj hy
      simp
  · obtain ⟨rfl, rfl⟩ := Prod.mk.inj hx
    exact absurd rfl h5
theorem len_fold (x : ByteArray) (h5 : (nB x).2 ≠ 5) : ∀ r : List ByteArray, foldE lenStep ⟨(nB x).1, x, !decide ((nB x).2 = 0), true⟩ r = (if okLen x r = true then 0 else 22, ⟨(nB x).1, x, !decide ((nB x).2 = 0), true⟩)
  | [] => rfl
  | y :: r => by
    rw [foldE, len_step x y h5]
    have ih := len_fold x h5 r
    have e : okLen x (y :: r) = ((decide (nB y = nB x) && (!decide ((nB x).2 = 3) || decide (y.toList = x.toList))) && okLen x r) := rfl
    rw [e]
    cases (decide (nB y = nB x) && (!decide ((nB x).2 = 3) || decide (y.toList = x.toList))) with
    | true => rw [if_pos rfl, if_pos rfl, ih, Bool.true_and]
    | false => rfl
theorem len_tells (vs : List ByteArray) : lengthB vs = match elsB vs with | [] => (0, false, 22) | x :: r => if (nB x).2 = 5 then (0, false, 22) else ((nB x).1, !decide ((nB x).2 = 0), if okLen x r = true then 0 else 22) := by
  unfold lengthB
  cases elsB vs with
  | nil => rfl
  | cons x r =>
    dsimp only
    have s0 : lenStep ln0 x = if (nB x).2 = 5 then (22, ln0) else (0, ⟨(nB x).1, x, !decide ((nB x).2 = 0), true⟩) := rfl
    rw [foldE, s0]
    by_cases h5 : (nB x).2 = 5
    · rw [if_pos h5, if_pos h5]; rfl
    · rw [if_neg h5, if_neg h5, if_pos rfl, len_fold x h5 r]
      rfl
/-- What a message's fields say of its body. -/
def sureB (minor : Int) (l : List S34) : Int × Int × Bool × Int :=
  if getB l clS ≠ [] ∧ getB l teS ≠ [] then (0, 0, false, 22)
  else if getB l teS ≠ [] then (if chunkB minor (getB l teS) = true then (2, 0, false, 0) else (0, 0, false, 22))
  else if getB l clS ≠ [] then (1, (lengthB (getB l clS)).1, (lengthB (getB l clS)).2.1, (lengthB (getB l clS)).2.2) else (0, 0, false, 0)
def fitsB (q : Int × Int × Bool × Int) : Int × Int × Int := if q.2.2.2 = 0 then (if q.2.2.1 = true ∨ q.2.1 > 4096 then (0, 0, 21) else (q.1, q.2.1, 0)) else (0, 0, q.2.2.2)
theorem sure_ok (minor : Int) (l : List S34) (hl : bulkL l ≤ 1073741824) : Ev (fun k => frame_sure.f k minor l) (sureB minor l) := by
  have p1 := len_pos_iff (getB l clS)
  have p2 := len_pos_iff (getB l teS)
  have b1 := getB_sum l clS
  have b2 := getB_sum l teS
  unfold frame_sure.f sureB
  refine Ev.bind (get_ev07 l clS hl (by decide)) (Ev.bind (get_ev07 l teS hl (by decide)) ?_)
  have core : ¬ (getB l clS ≠ [] ∧ getB l teS ≠ []) → Ev (fun k => frame_sure.j0 k minor (getB l clS) (getB l teS) false) (if getB l teS ≠ [] then (if chunkB minor (getB l teS) = true then (2, 0, false, 0) else (0, 0, false, 22)) else if getB l clS ≠ [] then (1, (lengthB (getB l clS)).1, (lengthB (getB l clS)).2.1, (lengthB (getB l clS)).2.2) else (0, 0, false, 0)) := fun _ => by
    refine Ev.step (f := fun k => if ((getB l teS).length : Int) > 0 then ((frame_chunked.f minor (getB l teS)).bind fun t115 => (if t115 = true then (some (2, 0, false, 0)) else (some (0, 0, false, 22)))) else (if ((getB l clS).length : Int) > 0 then ((frame_length.f (getB l clS)).bind fun bt116 => (some (1, bt116.1, bt116.2.1, bt116.2.2))) else (some (0, 0, false, 0)))) (fun k => by rw [frame_sure.j0, if_neg (by decide)]) ?_
    by_cases h2 : getB l teS = []
    · rw [if_neg (show ¬ getB l teS ≠ [] from fun h => h h2)]
      refine Ev.congr (fun k => if_neg (by rw [p2]; simp [h2])) ?_
      by_cases h1 : getB l clS = []
      · rw [if_neg (show ¬ getB l clS ≠ [] from fun h => h h1)]
        exact Ev.congr (fun k => if_neg (by rw [p1]; simp [h1])) (Ev.now _)
      · rw [if_pos (show getB l clS ≠ [] from h1)]
        refine Ev.congr (fun k => if_pos (p1.2 h1)) ?_
        unfold frame_length.f
        rw [if_pos (by omega), Option.bind_some]
        exact Ev.now _
    · rw [if_pos (show getB l teS ≠ [] from h2)]
      refine Ev.congr (fun k => if_pos (p2.2 h2)) ?_
      unfold frame_chunked.f
      rw [if_pos (by omega), Option.bind_some]
      cases chunkB minor (getB l teS)
      · exact Ev.now _
      · exact Ev.now _
  by_cases h1 : getB l clS = []
  · rw [if_neg (show ¬ (getB l clS ≠ [] ∧ getB l teS ≠ []) from fun h => h.1 h1)]
    exact Ev.congr (fun k => if_neg (by show ¬ ((getB l clS).length : Int) > 0; rw [p1]; simp [h1])) (core (by simp [h1]))
  · refine Ev.congr (fun k => if_pos (p1.2 h1)) ?_
    by_cases h2 : getB l teS = []
    · rw [if_neg (show ¬ (getB l clS ≠ [] ∧ getB l teS ≠ []) from fun h => h.2 h2), show decide (((getB l teS).length : Int) > 0) = false from decide_eq_false (by rw [p2]; simp [h2])]
      exact core (by simp [h2])
    · rw [if_pos (show getB l clS ≠ [] ∧ getB l teS ≠ [] from ⟨h1, h2⟩), show decide (((getB l teS).length : Int) > 0) = true from decide_eq_true (p2.2 h2)]
      exact Ev.step (f := fun _ => some (0, 0, false, 22)) (fun k => by rw [frame_sure.j0, if_pos rfl]) (Ev.now _)
theorem fits_ok (a0 a1 : Int) (a2 : Bool) (a3 : Int) : Ev (fun k => frame_fits.f k a0 a1 a2 a3) (fitsB (a0, a1, a2, a3)) := by
  have jt : Ev (fun k => frame_fits.j0 k a0 a1 a3 true) ((0, 0, 21) : Int × Int × Int) := Ev.step (f := fun _ => some (0, 0, 21)) (fun k => by rw [frame_fits.j0, if_pos rfl]; rfl) (Ev.now _)
  have jf : Ev (fun k => frame_fits.j0 k a0 a1 a3 false) (if a3 = 0 then (a0, a1, 0) else (0, 0, a3)) := by
    refine Ev.step (f := fun _ => if a3 = 0 then (some (a0, a1, 0)) else (some (0, 0, a3))) (fun k => by rw [frame_fits.j0, if_neg (by decide)]) ?_
    split
    · exact Ev.now _
    · exact Ev.now _
  unfold frame_fits.f fitsB
  dsimp only
  by_cases h3 : a3 = 0
  · rw [if_pos h3] at jf ⊢
    refine Ev.congr (fun k => if_pos h3) ?_
    cases a2 with
    | true => exact Ev.congr (fun k => if_pos rfl) jt
    | false =>
      refine Ev.congr (fun k => if_neg (by decide)) ?_
      by_cases h4 : a1 > 4096
      · rw [if_pos (.inr h4), decide_eq_true h4]; exact jt
      · rw [if_neg (show ¬ (false = true ∨ a1 > 4096) from fun h => h.elim (fun h => absurd h (by decide)) h4), decide_eq_false h4]; exact jf
  · rw [if_neg h3] at jf ⊢
    exact Ev.congr (fun k => if_neg h3) jf
theorem elemsB_none {l : List S34} {n : ByteArray} (h : getB l n = []) : elemsB l n = [] := by unfold elemsB; rw [h]; rfl
/-- The two tell the same. -/
theorem sure_same (minor : Int) (l : List S34) : (sureR minor l = false ∧ (sureB minor l).2.2.2 = 22) ∨ (sureR minor l = true ∧ (sureB minor l).2.2.2 = 0 ∧ fitsB (sureB minor l) = bodyR l ∧ ((sureB minor l).1 = 0 → bodyR l = (0, 0, 0)) ∧ ((sureB minor l).1 ≠ 0 → (bodyR l).1 = 0 → (bodyR l).2.2 ≠ 0)) := by
  by_cases h2 : getB l teS = []
  · have n2 : ¬ getB l teS ≠ [] := fun h => h h2
    have nb : ¬ (getB l clS ≠ [] ∧ getB l teS ≠ []) := fun h => n2 h.2
    by_cases h1 : getB l clS = []
    · have eR : sureR minor l = true := by unfold sureR; rw [if_neg nb, if_neg n2, if_pos h1]
      have eB : sureB minor l = (0, 0, false, 0) := by unfold sureB; rw [if_neg nb, if_neg n2, if_neg (fun h => h h1)]
      have eD : bodyR l = (0, 0, 0) := by unfold bodyR; rw [if_neg n2, elemsB_none h1]
      rw [eR, eB, eD]
      exact .inr ⟨rfl, rfl, rfl, fun _ => rfl, fun h => absurd rfl h⟩
    · have eR : sureR minor l = match elemsB l clS with | [] => false | x :: r => !decide ((nB x).2 = 5) && okLen x r := by unfold sureR; rw [if_neg nb, if_neg n2, if_neg h1]
      have eB : sureB minor l = (1, (lengthB (getB l clS)).1, (lengthB (getB l clS)).2.1, (lengthB (getB l clS)).2.2) := by unfold sureB; rw [if_neg nb, if_neg n2, if_pos h1]
      have eD : bodyR l = match elemsB l clS with | [] => (0, 0, 0) | x :: _ => if (nB x).2 = 0 then (if (nB x).1 > 4096 then (0, 0, 21) else (1, (nB x).1, 0)) else (0, 0, 21) := by unfold bodyR; rw [if_neg n2]
      rw [eR, eB, eD, len_tells]
      unfold elemsB
      cases elsB (getB l clS) with
      | nil => exact .inl ⟨rfl, rfl⟩
      | cons x r =>
        dsimp only
        by_cases h5 : (nB x).2 = 5
        · rw [decide_eq_true h5, if_pos h5]
          exact .inl ⟨rfl, rfl⟩
        · rw [decide_eq_false h5, if_neg h5, Bool.not_false, Bool.true_and]
          cases okLen x r with
          | false => exact .inl ⟨rfl, rfl⟩
          | true =>
            refine .inr ⟨rfl, rfl, ?_, fun h => absurd h (by decide), fun _ => ?_⟩
            · unfold fitsB
              dsimp only
              rw [if_pos rfl, if_pos rfl]
              by_cases h0 : (nB x).2 = 0
              · rw [if_pos h0]
                by_cases h4 : (nB x).1 > 4096
                · rw [if_pos h4, if_pos (.inr h4)]
                · rw [if_neg h4, if_neg (fun h => h.elim (fun h => by simp [h0] at h) h4)]
              · rw [if_neg h0, if_pos (.inl (by simp [h0]))]
            · by_cases h0 : (nB x).2 = 0
              · rw [if_pos h0]
                by_cases h4 : (nB x).1 > 4096
                · rw [if_pos h4]; intro _; decide
                · rw [if_neg h4]; intro h; exact absurd h (by show ¬ ((1 : Int) = 0); decide)
              · rw [if_neg h0]; intro _; decide
  · by_cases h1 : getB l clS = []
    · have nb : ¬ (getB l clS ≠ [] ∧ getB l teS ≠ []) := fun h => h.1 h1
      have eR : sureR minor l = (decide (minor = 1) && (match elsB (getB l teS) with | [x] => sameB x chunkedS | _ => false)) := by unfold sureR; rw [if_neg nb, if_pos h2]; rfl
      have eB : sureB minor l = if (decide (minor = 1) && (match elsB (getB l teS) with | [x] => sameB x chunkedS | _ => false)) = true then (2, 0, false, 0) else (0, 0, false, 22) := by unfold sureB; rw [if_neg nb, if_pos h2, chunk_tells]
      have eD : bodyR l = (2, 0, 0) := by unfold bodyR; rw [if_pos h2]
      rw [eR, eB, eD]
      cases (decide (minor = 1) && (match elsB (getB l teS) with | [x] => sameB x chunkedS | _ => false)) with
      | false => exact .inl ⟨rfl, rfl⟩
      | true => exact .inr ⟨rfl, rfl, rfl, fun h => absurd h (by decide), fun _ h => absurd h (by decide)⟩
    · have eR : sureR minor l = false := by unfold sureR; rw [if_pos ⟨h1, h2⟩]
      have eB : sureB minor l = (0, 0, false, 22) := by unfold sureB; rw [if_pos ⟨h1, h2⟩]
      rw [eR, eB]
      exact .inl ⟨rfl, rfl⟩
theorem req_ok (minor : Int) (l : List S34) (hl : bulkL l ≤ 1073741824) : Ev (fun k => frame_Request.f k minor l) (reqR minor l) := by
  have core : Ev (fun k => frame_Request.j0 k minor l false) (if sureR minor l = false then (0, 0, 22) else bodyR l) := by
    refine Ev.step (f := fun k => (frame_sure.f k minor l).bind fun bt119 => ((frame_fits.f k bt119.1 bt119.2.1 bt119.2.2.1 bt119.2.2.2).bind fun bt123 => (some (bt123.1, bt123.2.1, bt123.2.2)))) (fun k => by rw [frame_Request.j0, if_neg (by decide)]) (Ev.bind (sure_ok minor l hl) ?_)
    have hf := fits_ok (sureB minor l).1 (sureB minor l).2.1 (sureB minor l).2.2.1 (sureB minor l).2.2.2
    have e : fitsB (sureB minor l) = if sureR minor l = false then (0, 0, 22) else bodyR l := by
      rcases sure_same minor l with ⟨h1, h2⟩ | ⟨h1, h2, h3, _⟩
      · rw [if_pos h1]; unfold fitsB; rw [h2, if_neg (by decide)]
      · rw [h1, if_neg (by decide)]; exact h3
    rw [← e]
    exact Ev.bind hf (Ev.now _)
  unfold frame_Request.f reqR
  by_cases h0 : minor = 0
  · rw [if_neg (show ¬ badMinor minor from fun h => h.1 h0)]
    exact Ev.congr (fun k => if_pos h0) core
  · by_cases h1 : minor = 1
    · rw [if_neg (show ¬ badMinor minor from fun h => h.2 h1)]
      refine Ev.congr (fun k => if_neg h0) ?_
      have e : (minor != 1) = false := by simp [h1]
      rw [e]; exact core
    · rw [if_pos (show badMinor minor from ⟨h0, h1⟩)]
      refine Ev.congr (fun k => if_neg h0) ?_
      have e : (minor != 1) = true := by simp [h1]
      rw [e]
      exact Ev.step (f := fun _ => some (0, 0, 1)) (fun k => by rw [frame_Request.j0, if_pos rfl]) (Ev.now _)
theorem resp_ok (status : Int) (method : ByteArray) (minor : Int) (l : List S34) (hl : bulkL l ≤ 1073741824) : Ev (fun k => frame_Response.f k status method minor l) (respR status method minor l) := by
  have core : Ev (fun k => frame_Response.j0 k status method minor l false) (if sureR minor l = false then (0, 0, 22) else if bareR status method then (0, 0, 0) else closeR (bodyR l)) := by
    have hf := fits_ok (sureB minor l).1 (sureB minor l).2.1 (sureB minor l).2.2.1 (sureB minor l).2.2.2
    have hs := sure_ok minor l hl
    have hss := sure_same minor l
    generalize sureB minor l = q at *
    obtain ⟨q0, q1, q2, q3⟩ := q
    dsimp only at *
    refine Ev.step (f := fun k => (frame_sure.f k minor l).bind fun bt188 => (if bt188.2.2.2 = 0 then (if method.toList = headS then (frame_Response.j1 k bt188.1 bt188.2.1 bt188.2.2.1 bt188.2.2.2 (method.toList == headS)) else (if status < 200 then (frame_Response.j1 k bt188.1 bt188.2.1 bt188.2.2.1 bt188.2.2.2 (decide (status < 200))) else (if status = 204 then (frame_Response.j1 k bt188.1 bt188.2.1 bt188.2.2.1 bt188.2.2.2 (status == 204)) else (if status = 304 then (frame_Response.j1 k bt188.1 bt188.2.1 bt188.2.2.1 bt188.2.2.2 (status == 304)) else (if method.toList = connS then (frame_Response.j1 k bt188.1 bt188.2.1 bt188.2.2.1 bt188.2.2.2 (decide (status < 300))) else (frame_Response.j1 k bt188.1 bt188.2.1 bt188.2.2.1 bt188.2.2.2 false)))))) else (some (0, 0, bt188.2.2.2)))) (fun k => by rw [frame_Response.j0, if_neg (by decide)]; rfl) (Ev.bind hs ?_)
    dsimp only
    rcases hss with ⟨h1, h2⟩ | ⟨h1, h2, h3, h4, h5⟩
    · rw [if_pos h1, h2]
      exact Ev.congr (fun k => if_neg (by decide)) (Ev.now _)
    · rw [h1, if_neg (by decide)]
      subst h2
      refine Ev.congr (fun k => if_pos rfl) ?_
      have j1t : Ev (fun k => frame_Response.j1 k q0 q1 q2 0 true) ((0, 0, 0) : Int × Int × Int) := Ev.step (f := fun _ => some (0, 0, 0)) (fun k => by rw [frame_Response.j1, if_pos rfl]) (Ev.now _)
      have j1f : Ev (fun k => frame_Response.j1 k q0 q1 q2 0 false) (closeR (bodyR l)) := by
        refine Ev.step (f := fun k => if q0 = 0 then (some (3, 0, 0)) else ((frame_fits.f k q0 q1 q2 0).bind fun bt192 => (some (bt192.1, bt192.2.1, bt192.2.2)))) (fun k => by rw [frame_Response.j1, if_neg (by decide)]) ?_
        by_cases h0 : q0 = 0
        · rw [h4 h0]
          exact Ev.congr (fun k => if_pos h0) (Ev.now _)
        · refine Ev.congr (fun k => if_neg h0) (Ev.bind hf ?_)
          have e : closeR (bodyR l) = bodyR l := by
            unfold closeR
            rw [if_neg (fun h => h5 h0 h.2 h.1)]
          rw [e, h3]
          exact Ev.now _
      by_cases a : method.toList = headS
      · rw [if_pos (show bareR status method from .inl a)]; exact Ev.congr (fun k => by rw [if_pos a, beq_iff_eq.2 a]) j1t
      · by_cases b : status < 200
        · rw [if_pos (show bareR status method from .inr (.inl b))]; exact Ev.congr (fun k => by rw [if_neg a, if_pos b, decide_eq_true b]) j1t
        · by_cases c : status = 204
          · rw [if_pos (show bareR status method from .inr (.inr (.inl c)))]; exact Ev.congr (fun k => by rw [if_neg a, if_neg b, if_pos c, beq_iff_eq.2 c]) j1t
          · by_cases d : status = 304
            · rw [if_pos (show bareR status method from .inr (.inr (.inr (.inl d))))]
              exact Ev.congr (fun k => by rw [if_neg a, if_neg b, if_neg c, if_pos d, beq_iff_eq.2 d]) j1t
            · by_cases m : method.toList = connS
              · refine Ev.congr (f := fun k => frame_Response.j1 k q0 q1 q2 0 (decide (status < 300))) (fun k => by rw [if_neg a, if_neg b, if_neg c, if_neg d, if_pos m]) ?_
                by_cases e : status < 300
                · rw [if_pos (show bareR status method from .inr (.inr (.inr (.inr ⟨m, e⟩)))), decide_eq_true e]; exact j1t
                · rw [if_neg (show ¬ bareR status method by unfold bareR; simp [a, b, c, d, e]), decide_eq_false e]; exact j1f
              · refine Ev.congr (f := fun k => frame_Response.j1 k q0 q1 q2 0 false) (fun k => by rw [if_neg a, if_neg b, if_neg c, if_neg d, if_neg m]) ?_
                rw [if_neg (show ¬ bareR status method by unfold bareR; simp [a, b, c, d, m])]; exact j1f
  have jt : Ev (fun k => frame_Response.j0 k status method minor l true) ((0, 0, 1) : Int × Int × Int) := Ev.step (f := fun _ => some (0, 0, 1)) (fun k => by rw [frame_Response.j0, if_pos rfl]) (Ev.now _)
  have st : Ev (fun k => if status < 100 then (frame_Response.j0 k status method minor l true) else (frame_Response.j0 k status method minor l (decide (status > 599)))) (if status < 100 ∨ status > 599 then (0, 0, 1) else if sureR minor l = false then (0, 0, 22) else if bareR status method then (0, 0, 0) else closeR (bodyR l)) := by
    by_cases a : status < 100
    · rw [if_pos (.inl a)]; exact Ev.congr (fun k => if_pos a) jt
    · refine Ev.congr (fun k => if_neg a) ?_
      by_cases b : status > 599
      · rw [if_pos (.inr b), decide_eq_true b]; exact jt
      · rw [if_neg (by omega), decide_eq_false b]; exact core
  unfold frame_Response.f respR
  by_cases h0 : minor = 0
  · rw [if_neg (show ¬ badMinor minor from fun h => h.1 h0)]
    exact Ev.congr (fun k => if_pos h0) st
  · by_cases h1 : minor = 1
    · rw [if_neg (show ¬ badMinor minor from fun h => h.2 h1)]
      exact Ev.congr (fun k => by rw [if_neg h0, if_pos h1]) st
    · rw [if_pos (show badMinor minor from ⟨h0, h1⟩)]
      exact Ev.congr (fun k => by rw [if_neg h0, if_neg h1]) jt
end Go.Proofs.YtcamdfjjdigaeaaDoor.P
