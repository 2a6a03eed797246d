/- Plain laws of the document's functions of layer 5: Token, Visible, May, Put, Get, Drop, With. -/
import Derived.Test.YtdofgilfmgdpkaaDoorPRef02
import Derived.Test.YtdofgilfmgdpkaaDoorPHead
import Derived.Test.YtdofgilfmgdpkaaDoorFheadMay
import Derived.Test.YtdofgilfmgdpkaaDoorQheadPut
import Derived.Test.YtdofgilfmgdpkaaDoorQRef02
import Derived.Test.YtdofgilfmgdpkaaDoorQRef05
import Derived.Test.YtdofgilfmgdpkaaDoorQtollhouseref05May
import Derived.Test.YtdofgilfmgdpkaaDoorQtollhouseref05Put
set_option linter.unusedVariables false
set_option linter.unusedSimpArgs false
namespace Go.Proofs.YtdofgilfmgdpkaaDoor.P
open Go.RowKit Go.Proofs.YtdofgilfmgdpkaaDoorW.PrintWords Go.Proofs.YtdofgilfmgdpkaaDoorW.PrintLast Go.Proofs.YtdofgilfmgdpkaaDoorW.PrintMore

theorem ev_if {α : Type} {c : Prop} [Decidable c] {g f : Nat → Option α} {r : α} (h : c → Ev g r) (h' : ¬ c → Ev f r) : Ev (fun k => if c then g k else f k) r := by
  by_cases hc : c
  · exact Ev.congr (fun k => if_pos hc) (h hc)
  · exact Ev.congr (fun k => if_neg hc) (h' hc)

/-! ### Token, Visible -/
def ldI (c : Int) : Bool := (decide (97 ≤ c) && decide (c ≤ 122)) || (decide (65 ≤ c) && decide (c ≤ 90)) || (decide (48 ≤ c) && decide (c ≤ 57))
def signB : ByteArray := ⟨#[33, 35, 36, 37, 38, 39, 42, 43, 45, 46, 94, 95, 96, 124, 126]⟩
theorem tok_split_fin : ∀ n : Fin 256, tokI ((n.val : Nat) : Int) = (ldI ((n.val : Nat) : Int) || (bytesOf signB).any (· == ((n.val : Nat) : Int))) := by decide +kernel
theorem byteRange {c : Int} (h : 0 ≤ c ∧ c ≤ 255) : ∃ n : Fin 256, c = ((n.val : Nat) : Int) := ⟨⟨c.toNat, by omega⟩, by simp; omega⟩
theorem tok_split (c : Int) (h : 0 ≤ c ∧ c ≤ 255) : tokI c = (ldI c || (bytesOf signB).any (· == c)) := by
  obtain ⟨n, rfl⟩ := byteRange h
  exact tok_split_fin n
theorem refTok_l1 (s : ByteArray) (i : Nat) (c : Int) (r : Bool) (hy : Ev (fun k => tollhouseref02_Token.l0 k s signB (wrap64 ((i : Int) + 1))) r) :
    ∀ (d j : Nat) (b : Bool), (bytesOf signB).length - j = d → j ≤ (bytesOf signB).length → Ev (fun k => tollhouseref02_Token.l1 k s signB (i : Int) c b (j : Int)) (if (b || ((bytesOf signB).drop j).any (· == c)) = true then r else false) := by
  have hsz : signB.size = (bytesOf signB).length := (bytes_len _).symm
  have h15 : (bytesOf signB).length = 15 := by decide
  intro d
  induction d with
  | zero =>
    intro j b hd hj
    rw [List.drop_eq_nil_of_le (by omega)]
    cases b with
    | true => exact Ev.step (f := fun k => tollhouseref02_Token.l0 k s signB (wrap64 ((i : Int) + 1))) (fun k => by rw [tollhouseref02_Token.l1, if_neg (by omega), if_pos rfl]) (by simpa using hy)
    | false => exact Ev.step (f := fun _ => some false) (fun k => by rw [tollhouseref02_Token.l1, if_neg (by omega), if_neg (by decide)]) (by simpa using Ev.now false)
  | succ d ih =>
    intro j b hd hj
    have hlt : j < (bytesOf signB).length := by omega
    have hw := w64n j (by omega)
    cases b with
    | true =>
      refine Ev.step (f := fun k => tollhouseref02_Token.l1 k s signB (i : Int) c true ((j + 1 : Nat) : Int)) (fun k => by rw [tollhouseref02_Token.l1, if_pos (by omega), if_pos rfl, hw]) ?_
      simpa using ih (j + 1) true (by omega) (by omega)
    | false =>
      refine Ev.step (f := fun k => tollhouseref02_Token.l1 k s signB (i : Int) c ((bytesOf signB)[j] == c) ((j + 1 : Nat) : Int)) (fun k => by rw [tollhouseref02_Token.l1, if_pos (by omega), if_neg (by decide), if_pos (by omega), hw, bt_bytes signB j hlt]) ?_
      rw [List.drop_eq_getElem_cons hlt, List.any_cons, Bool.false_or]
      exact ih (j + 1) _ (by omega) (by omega)
theorem refTok_l0 (s : ByteArray) (hs : s.size < 140737488355328) : ∀ (d i : Nat), s.size - i = d → i ≤ s.size → Ev (fun k => tollhouseref02_Token.l0 k s signB (i : Int)) (((bytesOf s).drop i).all tokI && decide (0 < s.size)) := by
  intro d
  induction d with
  | zero =>
    intro i hd hi
    rw [List.drop_eq_nil_of_le (by rw [bytes_len]; omega)]
    refine Ev.step (f := fun _ => some (decide ((s.size : Int) > 0))) (fun k => by rw [tollhouseref02_Token.l0, if_neg (by omega)]) ?_
    rw [List.all_nil, Bool.true_and, show decide (0 < s.size) = decide ((s.size : Int) > 0) by congr 1; rw [eq_iff_iff]; omega]
    exact Ev.now _
  | succ d ih =>
    intro i hd hi
    have hlt : i < (bytesOf s).length := by rw [bytes_len]; omega
    have hb := bt_bytes s i hlt
    have hr := bytes_range (List.getElem_mem hlt)
    have hi2 : i < s.size := by omega
    refine Ev.step (f := fun k => tollhouseref02_Token.j1 k s signB (i : Int) (bytesOf s)[i] (ldI (bytesOf s)[i])) (fun k => ?_) ?_
    · rw [tollhouseref02_Token.l0, if_pos (by omega), if_pos (by omega), hb]
      generalize (bytesOf s)[i] = c at hr
      unfold ldI
      repeat' split
      all_goals (congr 1; first | (simp; omega) | (rw [Bool.eq_iff_iff]; simp; omega))
    · refine Ev.step (f := fun k => tollhouseref02_Token.l1 k s signB (i : Int) (bytesOf s)[i] (ldI (bytesOf s)[i]) ((0 : Nat) : Int)) (fun k => by rw [tollhouseref02_Token.j1]; rfl) ?_
      have := refTok_l1 s i (bytesOf s)[i] (((bytesOf s).drop (i + 1)).all tokI && decide (0 < s.size)) (by rw [w64n i (by omega)]; exact ih (i + 1) (by omega) (by omega)) _ 0 (ldI (bytesOf s)[i]) rfl (Nat.zero_le _)
      rw [List.drop_zero, ← tok_split _ hr] at this
      rw [List.drop_eq_getElem_cons hlt, List.all_cons]
      cases ht : tokI (bytesOf s)[i] with
      | true => rw [ht] at this; simpa using this
      | false => rw [ht] at this; simpa using this
theorem refToken_ok (s : ByteArray) (hs : s.size < 140737488355328) : Ev (fun k => tollhouseref02_Token.f k s) (tokenB s) := by
  have := refTok_l0 s hs s.size 0 (by omega) (Nat.zero_le _)
  rw [List.drop_zero] at this
  have he : tokenB s = ((bytesOf s).all tokI && decide (0 < s.size)) := by
    unfold tokenB
    rw [Bool.and_comm]
    congr 1
    have h2 : s.data.toList.length = s.size := by rw [Array.length_toList]; rfl
    cases hl : s.data.toList with
    | nil => rw [hl] at h2; simp at h2; simp [← h2]
    | cons x r => rw [hl] at h2; simp at h2; simp; omega
  rw [he]
  exact this
theorem refShown02_fin : ∀ n : Fin 256, tollhouseref02_shown.f ((n.val : Nat) : Int) = some (shownI ((n.val : Nat) : Int)) := by decide +kernel
theorem refShown02 (c : Int) (h : 0 ≤ c ∧ c ≤ 255) : tollhouseref02_shown.f c = some (shownI c) := by
  obtain ⟨n, rfl⟩ := byteRange h
  exact refShown02_fin n
theorem refVis_l0 (s : ByteArray) (hs : s.size < 140737488355328) : ∀ (d i : Nat), s.size - i = d → i ≤ s.size → Ev (fun k => tollhouseref02_Visible.l0 k s (i : Int)) (((bytesOf s).drop i).all shownI) := by
  intro d
  induction d with
  | zero =>
    intro i hd hi
    rw [List.drop_eq_nil_of_le (by rw [bytes_len]; omega)]
    exact Ev.step (f := fun _ => some true) (fun k => by rw [tollhouseref02_Visible.l0, if_neg (by omega)]) (Ev.now _)
  | succ d ih =>
    intro i hd hi
    have hlt : i < (bytesOf s).length := by rw [bytes_len]; omega
    have hr := bytes_range (List.getElem_mem hlt)
    rw [List.drop_eq_getElem_cons hlt, List.all_cons]
    refine Ev.step (f := fun k => if shownI (bytesOf s)[i] = true then tollhouseref02_Visible.l0 k s ((i + 1 : Nat) : Int) else some false) (fun k => ?_) ?_
    · rw [tollhouseref02_Visible.l0, if_pos (by omega), if_pos (by omega), bt_bytes s i hlt, refShown02 _ hr, w64n i (by omega)]
      rfl
    · refine ev_if (fun h => ?_) (fun h => ?_)
      · rw [h, Bool.true_and]; exact ih (i + 1) (by omega) (by omega)
      · rw [Bool.not_eq_true] at h; rw [h, Bool.false_and]; exact Ev.now _
theorem refVisible_ok (s : ByteArray) (hs : s.size < 140737488355328) : Ev (fun k => tollhouseref02_Visible.f k s) (visB s) := by
  unfold tollhouseref02_Visible.f visB
  have := refVis_l0 s hs s.size 0 (by omega) (Nat.zero_le _)
  rwa [List.drop_zero] at this

/-! ### May, Put -/
theorem plain_take (l : List S45) (i : Nat) (h : i < l.length) : (plainB (l.take (i + 1))).length = (plainB (l.take i)).length + (l[i].f0.size + 2 + l[i].f1.size + 2) := by
  unfold plainB
  rw [List.take_succ_eq_append_getElem h, List.flatMap_append]
  simp only [List.length_append, List.flatMap_cons, List.flatMap_nil, List.append_nil, bytesOf_length, lineB_size]
  omega
theorem plain_mono (l : List S45) (i : Nat) : (plainB (l.take i)).length ≤ (plainB l).length := by
  unfold plainB
  conv => rhs; rw [← List.take_append_drop i l]
  rw [List.flatMap_append]
  simp only [List.length_append]
  omega
theorem refMay_from (l : List S45) (hl : l.length < 4398046511104) (hx : ∀ x ∈ l, x.f0.size ≤ 140737488351232 ∧ x.f1.size ≤ 140737488351232) : ∀ (d i : Nat), l.length - i = d → i ≤ l.length → (l.take i).all okF = true → (plainB (l.take i)).length ≤ 2048 →
    Ev (fun k => tollhouseref05_May.l0 k l ((plainB (l.take i)).length : Int) (i : Int)) (mayB l) := by
  intro d
  induction d with
  | zero =>
    intro i hd hi hk hp
    rw [List.take_of_length_le (by omega)] at hk hp ⊢
    refine Ev.step (f := fun _ => some (decide ((l.length : Int) ≤ 32))) (fun k => by rw [tollhouseref05_May.l0, if_neg (by omega)]) ?_
    have : mayB l = decide ((l.length : Int) ≤ 32) := by
      unfold mayB
      rw [hk, decide_eq_true hp, Bool.and_true, Bool.and_true]
      congr 1
      rw [eq_iff_iff]; omega
    rw [this]; exact Ev.now _
  | succ d ih =>
    intro i hd hi hk hp
    have hlt : i < l.length := by omega
    have hxi := hx _ (List.getElem_mem hlt)
    have hn : wrap64 ((wrap64 ((l[i].f0.size : Int) + 2)) + (l[i].f1.size : Int)) = (l[i].f0.size : Int) + 2 + (l[i].f1.size : Int) := by rw [wrap_in (i := (l[i].f0.size : Int) + 2) (by omega) (by omega), wrap_in (by omega) (by omega)]
    have hbad : okF l[i] = false → Ev (fun _ => some false) (mayB l) := by
      intro hf
      have : mayB l = false := by
        unfold mayB
        have : l.all okF = false := by
          rw [Bool.eq_false_iff]; intro ha; rw [List.all_eq_true.1 ha _ (List.getElem_mem hlt)] at hf; cases hf
        rw [this]; simp
      rw [this]; exact Ev.now _
    have hj1t : okF l[i] = false → Ev (fun k => tollhouseref05_May.j1 k l ((plainB (l.take i)).length : Int) (i : Int) ((l[i].f0.size : Int) + 2 + (l[i].f1.size : Int)) true) (mayB l) := fun hf => Ev.step (f := fun _ => some false) (fun k => by rw [tollhouseref05_May.j1, if_pos rfl]) (hbad hf)
    have hj1f : okF l[i] = true → Ev (fun k => tollhouseref05_May.j1 k l ((plainB (l.take i)).length : Int) (i : Int) ((l[i].f0.size : Int) + 2 + (l[i].f1.size : Int)) false) (mayB l) := by
      intro hf
      have hn5 : l[i].f0.size + 2 + l[i].f1.size ≤ 512 := by
        unfold okF at hf
        simp only [Bool.and_eq_true, decide_eq_true_eq] at hf
        exact hf.2.2.2
      have hpt := plain_take l i hlt
      have hs : wrap64 ((wrap64 (((plainB (l.take i)).length : Int) + ((l[i].f0.size : Int) + 2 + (l[i].f1.size : Int)))) + 2) = ((plainB (l.take (i + 1))).length : Int) := by
        rw [wrap_in (i := ((plainB (l.take i)).length : Int) + ((l[i].f0.size : Int) + 2 + (l[i].f1.size : Int))) (by omega) (by omega), wrap_in (by omega) (by omega)]; omega
      refine Ev.step (f := fun k => if ((plainB (l.take (i + 1))).length : Int) > 2048 then some false else tollhouseref05_May.l0 k l ((plainB (l.take (i + 1))).length : Int) ((i + 1 : Nat) : Int)) (fun k => by rw [tollhouseref05_May.j1, if_neg (by decide), hs, w64n i (by omega)]) ?_
      refine ev_if (fun h => ?_) (fun h => ih (i + 1) (by omega) (by omega) ?_ (by omega))
      · have : mayB l = false := by
          unfold mayB
          have := plain_mono l (i + 1)
          rw [decide_eq_false (show ¬ (plainB l).length ≤ 2048 by omega)]; simp
        rw [this]; exact Ev.now _
      · rw [List.take_succ_eq_append_getElem hlt, List.all_append, hk]; simp [hf]
    refine Ev.step (f := fun k => if ((l[i].f0.size : Int) + 2 + (l[i].f1.size : Int)) > 512 then tollhouseref05_May.j1 k l ((plainB (l.take i)).length : Int) (i : Int) ((l[i].f0.size : Int) + 2 + (l[i].f1.size : Int)) true else (tollhouseref02_Token.f k l[i].f0).bind fun t239 => if t239 = true then (tollhouseref02_Visible.f k l[i].f1).bind fun t241 => if t241 = true then (tollhouseref02_Trim.f k l[i].f1).bind fun t243 => tollhouseref05_May.j1 k l ((plainB (l.take i)).length : Int) (i : Int) ((l[i].f0.size : Int) + 2 + (l[i].f1.size : Int)) (t243.toList != l[i].f1.toList) else tollhouseref05_May.j1 k l ((plainB (l.take i)).length : Int) (i : Int) ((l[i].f0.size : Int) + 2 + (l[i].f1.size : Int)) true else tollhouseref05_May.j1 k l ((plainB (l.take i)).length : Int) (i : Int) ((l[i].f0.size : Int) + 2 + (l[i].f1.size : Int)) true) (fun k => ?_) ?_
    · rw [tollhouseref05_May.l0, if_pos (by omega), if_pos (by omega), rd_at l i hlt, hn]
    · refine ev_if (fun h => hj1t ?_) (fun h => ?_)
      · unfold okF
        rw [decide_eq_false (show ¬ l[i].f0.size + 2 + l[i].f1.size ≤ 512 by omega)]; simp
      refine Ev.bind (refToken_ok _ (by omega)) (ev_if (fun h1 => ?_) (fun h1 => hj1t (by rw [Bool.not_eq_true] at h1; unfold okF; rw [h1]; rfl)))
      refine Ev.bind (refVisible_ok _ (by omega)) (ev_if (fun h2 => ?_) (fun h2 => hj1t (by rw [Bool.not_eq_true] at h2; unfold okF; rw [h2]; simp)))
      refine Ev.bind (refTrim_ok _ (by omega)) ?_
      cases h3 : (trimB l[i].f1).toList != l[i].f1.toList with
      | true => exact hj1t (by unfold okF; rw [← ByteArray.toList_eq, ← ByteArray.toList_eq, show ((trimB l[i].f1).toList == l[i].f1.toList) = false by rw [bne] at h3; simpa using h3]; simp)
      | false => exact hj1f (by unfold okF; rw [h1, h2, ← ByteArray.toList_eq, ← ByteArray.toList_eq, show ((trimB l[i].f1).toList == l[i].f1.toList) = true by rw [bne] at h3; simpa using h3, decide_eq_true (show l[i].f0.size + 2 + l[i].f1.size ≤ 512 by omega)]; rfl)
theorem refMay_ok (l : List S45) (hl : l.length < 4398046511104) (hx : ∀ x ∈ l, x.f0.size ≤ 140737488351232 ∧ x.f1.size ≤ 140737488351232) : Ev (fun k => tollhouseref05_May.f k l) (mayB l) := by
  unfold tollhouseref05_May.f
  exact refMay_from l hl hx l.length 0 (by omega) (Nat.zero_le _) rfl (by rw [List.take_zero]; decide)
theorem may_ok (l : List S45) (hx : ∀ x ∈ l, x.f0.size ≤ 140737488351232 ∧ x.f1.size ≤ 140737488351232) : head_May.f l = some (mayB l) := by
  unfold head_May.f
  rw [if_pos (List.all_eq_true.2 fun x h => by unfold fitF; rw [decide_eq_true (by have := (hx x h).1; omega), decide_eq_true (by have := (hx x h).2; omega)]; rfl)]
/-- What Put tells. -/
def putB (l : List S45) : List Int × Int := if mayB l = true then (plainB l, 0) else ([], 1)
theorem may_plain {l : List S45} (h : mayB l = true) : (plainB l).length ≤ 2048 ∧ l.length ≤ 32 ∧ l.all okF = true := by
  unfold mayB at h
  simp only [Bool.and_eq_true, decide_eq_true_eq] at h
  exact ⟨h.2.2, h.1, h.2.1⟩
theorem put_ok (l : List S45) (hx : ∀ x ∈ l, x.f0.size ≤ 140737488351232 ∧ x.f1.size ≤ 140737488351232) : Ev (fun k => head_Put.f k l) (putB l) := by
  unfold putB
  refine Ev.congr (f := fun k => if mayB l = true then (head_plain.f k l).bind fun t145 => some (t145, 0) else some (([] : List Int), 1)) (fun k => by unfold head_Put.f; rw [may_ok l hx]; rfl) ?_
  refine ev_if (fun h => ?_) (fun h => by rw [if_neg h]; exact Ev.now _)
  rw [if_pos h]
  have hp := may_plain h
  exact Ev.bind ⟨l.length + 1, fun k hk => plain_tells l k (by omega) (by omega)⟩ (Ev.now _)
theorem bytes_append (a b : ByteArray) : bytesOf (a ++ b) = bytesOf a ++ bytesOf b := by
  unfold bytesOf
  rw [ByteArray.data_append, Array.toList_append, List.map_append]
theorem refPut_from (l : List S45) (hm : mayB l = true) : ∀ (d i : Nat) (acc : ByteArray), l.length - i = d → i ≤ l.length → bytesOf acc = (l.take i).flatMap (fun x => bytesOf (lineB x)) →
    Ev (fun k => tollhouseref05_Put.l0 k l acc (i : Int)) (plainB l, 0) := by
  have hp := may_plain hm
  have hacc : ∀ (i : Nat) (acc : ByteArray), bytesOf acc = (l.take i).flatMap (fun x => bytesOf (lineB x)) → acc.size + 2 = (plainB (l.take i)).length := by
    intro i acc h
    rw [← bytes_len, h]; unfold plainB; simp
  intro d
  induction d with
  | zero =>
    intro i acc hd hi ha
    have h1 := hacc i acc ha
    have h2 := plain_mono l i
    refine Ev.step (f := fun _ => some (bytesOf (acc ++ ⟨#[13, 10]⟩), 0)) (fun k => ?_) ?_
    · rw [tollhouseref05_Put.l0, if_neg (by omega), if_pos (by omega)]
      unfold conv.f
      rw [if_pos (by rw [ByteArray.size_append]; show acc.size + 2 ≤ _; omega)]
      rfl
    · rw [bytes_append, ha, List.take_of_length_le (by omega)]
      exact Ev.now _
  | succ d ih =>
    intro i acc hd hi ha
    have hlt : i < l.length := by omega
    have h1 := hacc i acc ha
    have h2 := plain_mono l (i + 1)
    have h3 := plain_take l i hlt
    refine Ev.step (f := fun k => tollhouseref05_Put.l0 k l ((((acc ++ l[i].f0) ++ ⟨#[58, 32]⟩) ++ l[i].f1) ++ ⟨#[13, 10]⟩) ((i + 1 : Nat) : Int)) (fun k => ?_) (ih (i + 1) _ (by omega) (by omega) ?_)
    · rw [tollhouseref05_Put.l0, if_pos (by omega), if_pos (by omega), rd_at l i hlt, w64n i (by omega)]
      rw [if_pos (by omega), if_pos (by rw [ByteArray.size_append]; omega), if_pos (by simp only [ByteArray.size_append]; show _ + 2 + _ ≤ _; omega), if_pos (by simp only [ByteArray.size_append]; show _ + 2 + _ + 2 ≤ _; omega)]
    · rw [List.take_succ_eq_append_getElem hlt, List.flatMap_append, ← ha]
      simp only [bytes_append, List.flatMap_cons, List.flatMap_nil, List.append_nil, lineB, List.append_assoc]
theorem refPut_ok (l : List S45) (hl : l.length < 4398046511104) (hx : ∀ x ∈ l, x.f0.size ≤ 140737488351232 ∧ x.f1.size ≤ 140737488351232) : Ev (fun k => tollhouseref05_Put.f k l) (putB l) := by
  unfold tollhouseref05_Put.f putB
  refine Ev.bind (refMay_ok l hl hx) (ev_if (fun h => ?_) (fun h => by rw [if_neg h]; exact Ev.now _))
  rw [if_pos h]
  exact refPut_from l h l.length 0 ⟨#[]⟩ (by omega) (Nat.zero_le _) rfl

/-! ### Get, Drop, With -/
theorem get_ev (l : List S45) (n : ByteArray) (hl : l.length < 8796093022208) (hx : ∀ x ∈ l, x.f0.size ≤ 9223372036854775807) (hn : n.size ≤ 9223372036854775807) : Ev (fun k => head_Get.f k l n) (getB l n) := ⟨l.length + 1, fun k hk => get_ok k l n hl hx hn (by omega)⟩
theorem refGet_from (l : List S45) (n : ByteArray) (hl : l.length < 8796093022208) (hx : ∀ x ∈ l, x.f0.size < 140737488355328) (hn : n.size < 140737488355328) : ∀ (d i : Nat) (acc : List ByteArray), l.length - i = d → i ≤ l.length → acc.length ≤ i →
    Ev (fun k => tollhouseref05_Get.l0 k l n acc (i : Int)) (acc ++ getB (l.drop i) n) := by
  intro d
  induction d with
  | zero =>
    intro i acc hd hi ha
    rw [List.drop_eq_nil_of_le (by omega)]
    refine Ev.step (f := fun _ => some acc) (fun k => by rw [tollhouseref05_Get.l0, if_neg (by omega)]) ?_
    simpa [getB] using Ev.now acc
  | succ d ih =>
    intro i acc hd hi ha
    have hlt : i < l.length := by omega
    refine Ev.step (f := fun k => (tollhouseref02_Same.f k l[i].f0 n).bind fun t265 => if t265 = true then tollhouseref05_Get.l0 k l n (acc ++ [l[i].f1]) ((i + 1 : Nat) : Int) else tollhouseref05_Get.l0 k l n acc ((i + 1 : Nat) : Int)) (fun k => ?_) ?_
    · rw [tollhouseref05_Get.l0, if_pos (by omega), if_pos (by omega), rd_at l i hlt, w64n i (by omega), if_pos (by omega)]
    · rw [List.drop_eq_getElem_cons hlt, getB_cons]
      refine Ev.bind (refSame02_ok _ _ (hx _ (List.getElem_mem hlt)) hn) (ev_if (fun h => ?_) (fun h => ?_))
      · rw [if_pos h]
        have := ih (i + 1) (acc ++ [l[i].f1]) (by omega) (by omega) (by rw [List.length_append]; simp; omega)
        rwa [List.append_assoc] at this
      · rw [if_neg h]
        exact ih (i + 1) acc (by omega) (by omega) (by omega)
theorem refGet_ok (l : List S45) (n : ByteArray) (hl : l.length < 8796093022208) (hx : ∀ x ∈ l, x.f0.size < 140737488355328) (hn : n.size < 140737488355328) : Ev (fun k => tollhouseref05_Get.f k l n) (getB l n) := by
  unfold tollhouseref05_Get.f
  exact refGet_from l n hl hx hn l.length 0 [] (by omega) (Nat.zero_le _) (Nat.zero_le _)
theorem refDrop_l1 (l : List S45) (ns : List ByteArray) (acc : List S45) (i : Nat) (hi : i < l.length) (hx : l[i].f0.size < 140737488355328) (hn : ∀ n ∈ ns, n.size < 140737488355328) (hnl : ns.length < 8796093022208) (ha : acc.length < 4398046511104) (r : List S45)
    (h0 : Ev (fun k => tollhouseref05_Drop.l0 k l ns acc (wrap64 ((i : Int) + 1))) r → True) :
    ∀ (d j : Nat) (b : Bool), ns.length - j = d → j ≤ ns.length → (Ev (fun k => if (b || (ns.drop j).any (fun n => sameB l[i].f0 n)) = true then tollhouseref05_Drop.l0 k l ns acc (wrap64 ((i : Int) + 1)) else tollhouseref05_Drop.l0 k l ns (acc ++ [l[i]]) (wrap64 ((i : Int) + 1))) r) →
    Ev (fun k => tollhouseref05_Drop.l1 k l ns acc (i : Int) b (j : Int)) r := by
  intro d
  induction d with
  | zero =>
    intro j b hd hj h
    rw [List.drop_eq_nil_of_le (by omega)] at h
    refine Ev.step (f := fun k => if (b || ([] : List ByteArray).any (fun n => sameB l[i].f0 n)) = true then tollhouseref05_Drop.l0 k l ns acc (wrap64 ((i : Int) + 1)) else tollhouseref05_Drop.l0 k l ns (acc ++ [l[i]]) (wrap64 ((i : Int) + 1))) (fun k => ?_) h
    rw [tollhouseref05_Drop.l1, if_neg (by omega), List.any_nil, Bool.or_false, if_pos (show 0 ≤ (i : Int) by omega), if_pos (show (i : Int) < (l.length : Int) by omega), if_pos ha, rd_at l i hi]
  | succ d ih =>
    intro j b hd hj h
    have hlt : j < ns.length := by omega
    rw [List.drop_eq_getElem_cons hlt, List.any_cons] at h
    cases b with
    | true => exact Ev.step (f := fun k => tollhouseref05_Drop.l1 k l ns acc (i : Int) true ((j + 1 : Nat) : Int)) (fun k => by rw [tollhouseref05_Drop.l1, if_pos (by omega), if_pos rfl, w64n j (by omega)]) (ih (j + 1) true (by omega) (by omega) (by simpa using h))
    | false =>
      refine Ev.step (f := fun k => (tollhouseref02_Same.f k l[i].f0 ns[j]).bind fun t272 => tollhouseref05_Drop.l1 k l ns acc (i : Int) t272 ((j + 1 : Nat) : Int)) (fun k => ?_) ?_
      · rw [tollhouseref05_Drop.l1, if_pos (by omega), if_neg (by decide), if_pos (by omega), if_pos (by omega), if_pos (by omega), rd_at l i hi, rdOf_at ns j hlt, w64n j (by omega)]
      · exact Ev.bind (refSame02_ok _ _ hx (hn _ (List.getElem_mem hlt))) (ih (j + 1) _ (by omega) (by omega) (by simpa using h))
theorem refDrop_from (l : List S45) (ns : List ByteArray) (hl : l.length < 4398046511104) (hx : ∀ x ∈ l, x.f0.size < 140737488355328) (hn : ∀ n ∈ ns, n.size < 140737488355328) (hnl : ns.length < 8796093022208) : ∀ (d i : Nat) (acc : List S45), l.length - i = d → i ≤ l.length → acc.length ≤ i →
    Ev (fun k => tollhouseref05_Drop.l0 k l ns acc (i : Int)) (acc ++ dropB (l.drop i) ns) := by
  intro d
  induction d with
  | zero =>
    intro i acc hd hi ha
    rw [List.drop_eq_nil_of_le (by omega)]
    refine Ev.step (f := fun _ => some acc) (fun k => by rw [tollhouseref05_Drop.l0, if_neg (by omega)]) ?_
    simpa [dropB] using Ev.now acc
  | succ d ih =>
    intro i acc hd hi ha
    have hlt : i < l.length := by omega
    refine Ev.step (f := fun k => tollhouseref05_Drop.l1 k l ns acc (i : Int) false ((0 : Nat) : Int)) (fun k => by rw [tollhouseref05_Drop.l0, if_pos (by omega)]; rfl) ?_
    refine refDrop_l1 l ns acc i hlt (hx _ (List.getElem_mem hlt)) hn hnl (by omega) _ (fun _ => trivial) ns.length 0 false (by omega) (Nat.zero_le _) ?_
    rw [List.drop_zero, Bool.false_or, w64n i (by omega), List.drop_eq_getElem_cons hlt]
    unfold dropB
    rw [List.filter_cons]
    refine ev_if (fun h => ?_) (fun h => ?_)
    · rw [if_neg (by unfold hasName; rw [h]; decide)]
      exact ih (i + 1) acc (by omega) (by omega) (by omega)
    · rw [if_pos (by unfold hasName; rw [Bool.not_eq_true] at h; rw [h]; rfl)]
      have := ih (i + 1) (acc ++ [l[i]]) (by omega) (by omega) (by rw [List.length_append]; simp; omega)
      rwa [List.append_assoc] at this
theorem refDrop_ok (l : List S45) (ns : List ByteArray) (hl : l.length < 4398046511104) (hx : ∀ x ∈ l, x.f0.size < 140737488355328) (hn : ∀ n ∈ ns, n.size < 140737488355328) (hnl : ns.length < 8796093022208) : Ev (fun k => tollhouseref05_Drop.f k l ns) (dropB l ns) := by
  unfold tollhouseref05_Drop.f
  exact refDrop_from l ns hl hx hn hnl l.length 0 [] (by omega) (Nat.zero_le _) (Nat.zero_le _)
theorem refWith_ok (l : List S45) (n v : ByteArray) (hl : l.length < 4398046511104) (hx : ∀ x ∈ l, x.f0.size < 140737488355328) (hn : n.size < 140737488355328) : Ev (fun k => tollhouseref05_With.f k l n v) (dropB l [n] ++ [⟨n, v⟩]) := by
  unfold tollhouseref05_With.f
  have := dropB_le l [n]
  refine Ev.bind (refDrop_ok l [n] hl hx (fun m hm => by rw [List.mem_singleton.1 hm]; exact hn) (by simp)) ?_
  exact Ev.congr (fun k => if_pos (by omega)) (Ev.now _)
end Go.Proofs.YtdofgilfmgdpkaaDoor.P
