/- Plain laws of layer 16: the document's Elements, Names, Select, Same; the program's Same. -/
import Derived.Test.YtalolopngekgbaaDoorPRefList
import Derived.Test.YtalolopngekgbaaDoorFvaryNames
import Derived.Test.YtalolopngekgbaaDoorFvarySelect
import Derived.Test.YtalolopngekgbaaDoorQvarySame
import Derived.Test.YtalolopngekgbaaDoorQRef11
import Derived.Test.YtalolopngekgbaaDoorQRef16
set_option linter.unusedVariables false
set_option linter.unusedSimpArgs false
namespace Go.Proofs.YtalolopngekgbaaDoor.P
open Go.RowKit Go.Proofs.YtalolopngekgbaaDoorW.PrintWords Go.Proofs.YtalolopngekgbaaDoorW.PrintLast Go.Proofs.YtalolopngekgbaaDoorW.PrintMore

theorem getB_append' (a b : List S32) (n : ByteArray) : getB (a ++ b) n = getB a n ++ getB b n := by simp [getB]
theorem elsB_append (a b : List ByteArray) : elsB (a ++ b) = elsB a ++ elsB b := by simp [elsB]
theorem elemsB_append (a b : List S32) (n : ByteArray) : elemsB (a ++ b) n = elemsB a n ++ elemsB b n := by unfold elemsB; rw [getB_append', elsB_append]
theorem bulkL_take (l : List S32) (i : Nat) : bulkL (l.take i) ≤ bulkL l := by
  conv => rhs; rw [← List.take_append_drop i l]
  rw [bulkL_append]; omega
theorem refElements_from (l : List S32) (n : ByteArray) (hl : bulkL l ≤ 1073741824) (hn : n.size ≤ 1073741824) : ∀ (d i : Nat), l.length - i = d → i ≤ l.length → Ev (fun k => tollhouseref11_Elements.l0 k l n (elemsB (l.take i) n) (i : Int)) (elemsB l n) := by
  have hll := bulkL_len l
  intro d
  induction d with
  | zero =>
    intro i hd hi
    rw [List.take_of_length_le (by omega)]
    exact Ev.step (f := fun _ => some (elemsB l n)) (fun k => by rw [tollhouseref11_Elements.l0, if_neg (by omega)]) (Ev.now _)
  | succ d ih =>
    intro i hd hi
    have hlt : i < l.length := by omega
    have hx := bulkL_mem (List.getElem_mem hlt)
    have ht : elemsB (l.take (i + 1)) n = elemsB (l.take i) n ++ (if sameB l[i].f0 n = true then listB l[i].f1 else []) := by
      rw [List.take_succ_eq_append_getElem hlt, elemsB_append]
      congr 1
      unfold elemsB
      rw [getB_cons]
      split
      · simp [elsB, getB]
      · simp [elsB, getB]
    have hlen : (elemsB (l.take (i + 1)) n).length ≤ 1073741824 := Nat.le_trans (elemsB_length _ _) (Nat.le_trans (bulkL_take l _) hl)
    refine Ev.step (f := fun k => (tollhouseref02_Same.f k l[i].f0 n).bind fun t136 => if t136 = true then ((tollhouseref02_List.f k l[i].f1).bind fun t138 => if (elemsB (l.take i) n).length + t138.length < 8796093022208 then tollhouseref11_Elements.l0 k l n (elemsB (l.take i) n ++ t138) ((i + 1 : Nat) : Int) else none) else tollhouseref11_Elements.l0 k l n (elemsB (l.take i) n) ((i + 1 : Nat) : Int)) (fun k => ?_) ?_
    · rw [tollhouseref11_Elements.l0, if_pos (by omega), if_pos (by omega), rd_at l i hlt, wrap1 i (by omega)]
    · refine Ev.bind (refSame02_ok _ _ (by omega) (by omega)) (ev_ifL (fun h => ?_) (fun h => ?_))
      · rw [if_pos h] at ht
        refine Ev.bind (refList_ok _ (by omega)) ?_
        rw [ht, List.length_append] at hlen
        refine Ev.congr (fun k => if_pos (by omega)) ?_
        rw [← ht]
        exact ih (i + 1) (by omega) (by omega)
      · rw [if_neg h, List.append_nil] at ht
        rw [← ht]
        exact ih (i + 1) (by omega) (by omega)
theorem refElements_ok (l : List S32) (n : ByteArray) (hl : bulkL l ≤ 1073741824) (hn : n.size ≤ 1073741824) : Ev (fun k => tollhouseref11_Elements.f k l n) (elemsB l n) := by
  unfold tollhouseref11_Elements.f
  have := refElements_from l n hl hn l.length 0 (by omega) (Nat.zero_le _)
  simpa [elemsB, elsB, getB] using this

/-! ### Names -/
theorem star_iff (x : ByteArray) : x.toList = ([42] : List UInt8) ↔ x = starS := by
  rw [ByteArray.toList_eq]
  constructor
  · intro h
    cases x with
    | mk d => unfold starS; congr 1; exact Array.toList_inj.1 h
  · intro h; rw [h]; rfl
theorem refNames_l1 (xs acc : List ByteArray) (st : Bool) (i : Nat) (y : ByteArray) (hi : i < 9223372036854775807) (ha : acc.length < 8796093022208) (r : List ByteArray × Bool) :
    ∀ (d j : Nat) (b : Bool), acc.length - j = d → j ≤ acc.length → Ev (fun k => if (b || (acc.drop j).any (fun z => z.toList == y.toList)) = true then tollhouseref16_Names.l0 k acc st xs ((i + 1 : Nat) : Int) else tollhouseref16_Names.l0 k (acc ++ [y]) st xs ((i + 1 : Nat) : Int)) r →
    Ev (fun k => tollhouseref16_Names.l1 k acc st xs (i : Int) y b (j : Int)) r := by
  intro d
  induction d with
  | zero =>
    intro j b hd hj h
    rw [List.drop_eq_nil_of_le (by omega)] at h
    refine Ev.step (f := fun k => if (b || ([] : List ByteArray).any (fun z => z.toList == y.toList)) = true then tollhouseref16_Names.l0 k acc st xs ((i + 1 : Nat) : Int) else tollhouseref16_Names.l0 k (acc ++ [y]) st xs ((i + 1 : Nat) : Int)) (fun k => ?_) h
    rw [tollhouseref16_Names.l1, if_neg (by omega), List.any_nil, Bool.or_false, if_pos ha, wrap1 i hi]
  | succ d ih =>
    intro j b hd hj h
    have hlt : j < acc.length := by omega
    rw [List.drop_eq_getElem_cons hlt, List.any_cons] at h
    cases b with
    | true => exact Ev.step (f := fun k => tollhouseref16_Names.l1 k acc st xs (i : Int) y true ((j + 1 : Nat) : Int)) (fun k => by rw [tollhouseref16_Names.l1, if_pos (by omega), if_pos rfl, wrap1 j (by omega)]) (ih (j + 1) true (by omega) (by omega) (by simpa using h))
    | false => exact Ev.step (f := fun k => tollhouseref16_Names.l1 k acc st xs (i : Int) y (acc[j].toList == y.toList) ((j + 1 : Nat) : Int)) (fun k => by rw [tollhouseref16_Names.l1, if_pos (by omega), if_neg (by decide), if_pos (by omega), wrap1 j (by omega), rdS_at acc j hlt]) (ih (j + 1) _ (by omega) (by omega) (by rw [Bool.false_or] at h; exact h))
theorem any_mem (acc : List ByteArray) (y : ByteArray) : (acc.any (fun z => z.toList == y.toList)) = decide (y ∈ acc) := by
  rw [Bool.eq_iff_iff, List.any_eq_true, decide_eq_true_eq]
  constructor
  · rintro ⟨z, hz, h⟩
    have : z = y := toList_inj' (by simpa using h)
    rwa [← this]
  · intro h; exact ⟨y, h, by simp⟩
theorem refNames_from (xs : List ByteArray) (hx : xs.length ≤ 1073741824) (hs : ∀ x ∈ xs, x.size ≤ 1073741824) : ∀ (d i : Nat) (st : List ByteArray × Bool), xs.length - i = d → i ≤ xs.length → st.1.length ≤ i → st = (xs.take i).foldl nmStep ([], false) → Ev (fun k => tollhouseref16_Names.l0 k st.1 st.2 xs (i : Int)) (namesB xs) := by
  intro d
  induction d with
  | zero =>
    intro i st hd hi ha he
    rw [List.take_of_length_le (by omega)] at he
    refine Ev.step (f := fun _ => some (st.1, st.2)) (fun k => by rw [tollhouseref16_Names.l0, if_neg (by omega)]) ?_
    unfold namesB
    rw [← he]
    exact Ev.now _
  | succ d ih =>
    intro i st hd hi ha he
    have hlt : i < xs.length := by omega
    have hsz := hs _ (List.getElem_mem hlt)
    have hst : nmStep st xs[i] = (xs.take (i + 1)).foldl nmStep ([], false) := by rw [List.take_succ_eq_append_getElem hlt, List.foldl_append, ← he]; rfl
    have hln := nmStep_len st xs[i]
    have hn := ih (i + 1) (nmStep st xs[i]) (by omega) (by omega) (by omega) hst
    refine Ev.step (f := fun k => (tollhouseref02_Lower.f k xs[i]).bind fun t148 => if t148.toList = ([42] : List UInt8) then tollhouseref16_Names.l0 k st.1 true xs ((i + 1 : Nat) : Int) else tollhouseref16_Names.l1 k st.1 st.2 xs (i : Int) t148 false 0) (fun k => ?_) ?_
    · rw [tollhouseref16_Names.l0, if_pos (by omega), if_pos (by omega), rdS_at xs i hlt, wrap1 i (by omega)]
    · refine Ev.bind (refLower_ok _ (by omega)) (ev_ifL (fun h => ?_) (fun h => ?_))
      · unfold nmStep at hn
        rwa [if_pos ((star_iff _).1 h)] at hn
      · have hne : ¬ lowB xs[i] = starS := fun e => h ((star_iff _).2 e)
        unfold nmStep at hn
        rw [if_neg hne] at hn
        refine refNames_l1 xs st.1 st.2 i (lowB xs[i]) (by omega) (by omega) _ st.1.length 0 false (by omega) (Nat.zero_le _) ?_
        rw [List.drop_zero, Bool.false_or, any_mem]
        refine ev_ifL (fun h => ?_) (fun h => ?_)
        · rwa [if_pos (of_decide_eq_true h)] at hn
        · rwa [if_neg (fun e => h (decide_eq_true e))] at hn
theorem refNames_ok (l : List S32) (hl : bulkL l ≤ 1073741824) : Ev (fun k => tollhouseref16_Names.f k l) (namesB (elemsB l varyS)) := by
  unfold tollhouseref16_Names.f
  refine Ev.bind (refElements_ok l varyS hl (by decide)) ?_
  exact refNames_from _ (Nat.le_trans (elemsB_length _ _) hl) (fun x hx => Nat.le_trans (elemsB_mem hx).1 hl) _ 0 ([], false) rfl (Nat.zero_le _) (Nat.zero_le _) rfl
theorem names_ok (l : List S32) (hl : bulkL l ≤ 1073741824) : vary_Names.f l = some (namesB (elemsB l varyS)) := by unfold vary_Names.f; rw [if_pos hl]

/-! ### Select -/
theorem joinS_nil : joinS [] = ⟨#[]⟩ := rfl
theorem ba_mk (x : ByteArray) : (⟨x.data.toList.toArray⟩ : ByteArray) = x := by cases x; simp
theorem joinL_snoc (sep : List UInt8) (x : List UInt8) : ∀ (vs : List (List UInt8)), vs ≠ [] → Lib.join (vs ++ [x]) sep = Lib.join vs sep ++ (sep ++ x)
  | [], h => absurd rfl h
  | [y], _ => by
    rw [show [y] ++ [x] = y :: x :: [] from rfl, join_two]
    simp [Lib.join, List.intercalate]
  | y :: z :: r, _ => by
    have := joinL_snoc sep x (z :: r) (by simp)
    rw [List.cons_append, List.cons_append, join_two, ← List.cons_append, this, join_two]
    simp
theorem joinS_snoc (vs : List ByteArray) (x : ByteArray) : joinS (vs ++ [x]) = if vs = [] then x else (joinS vs ++ sepS) ++ x := by
  by_cases h : vs = []
  · rw [if_pos h, h]
    show (⟨(Lib.join [x.data.toList] sepS.data.toList).toArray⟩ : ByteArray) = x
    simp [Lib.join, List.intercalate]
  · rw [if_neg h]
    unfold joinS
    rw [List.map_append, List.map_singleton, joinL_snoc _ _ _ (by simpa using h)]
    apply ByteArray.ext
    simp [ByteArray.data_append]
theorem joinS_size (vs : List ByteArray) : (joinS vs).size ≤ 3 * sumS vs := by
  have h1 := join_len sepS.data.toList (vs.map (·.data.toList))
  have h3 : ∀ vs : List ByteArray, ((vs.map (·.data.toList)).map fun x => x.length + sepS.data.toList.length).sum ≤ 3 * sumS vs := fun vs => by
    induction vs with
    | nil => simp [sumS]
    | cons x r ih =>
      rw [sumS_cons, List.map_cons, List.map_cons, List.sum_cons]
      have e1 : x.data.toList.length = x.size := by rw [Array.length_toList]; rfl
      have e2 : sepS.data.toList.length = 2 := rfl
      rw [e1, e2]
      rw [e2] at ih
      omega
  have h4 := h3 vs
  show (List.toArray _).size ≤ _
  rw [List.size_toArray]
  omega
theorem refSel_l1 (ns : List ByteArray) (l acc : List S32) (i : Nat) (hi : i < ns.length) (hil : ns.length < 1073741825) (hl : bulkL l ≤ 1073741824) (hn : ns[i].size ≤ 1073741824) (ha : acc.length < 4398046511104) (r : List S32)
    (h : Ev (fun k => tollhouseref16_Select.l0 k ns l (acc ++ selOne l ns[i]) ((i + 1 : Nat) : Int)) r) :
    ∀ (d j : Nat), l.length - j = d → j ≤ l.length → Ev (fun k => tollhouseref16_Select.l1 k ns l acc (i : Int) (joinS (getB (l.take j) ns[i])) ((getB (l.take j) ns[i]).length : Int) (j : Int)) r := by
  have hll := bulkL_len l
  intro d
  induction d with
  | zero =>
    intro j hd hj
    rw [List.take_of_length_le (by omega)]
    refine Ev.step (f := fun k => tollhouseref16_Select.l0 k ns l (acc ++ selOne l ns[i]) ((i + 1 : Nat) : Int)) (fun k => ?_) h
    rw [tollhouseref16_Select.l1, if_neg (by omega)]
    unfold selOne
    by_cases hg : (getB l ns[i]).isEmpty = true
    · rw [if_pos hg, List.append_nil, if_neg (by rw [List.isEmpty_iff] at hg; rw [hg]; decide), wrap1 i (by omega)]
    · rw [if_neg hg, if_pos (by have : 0 < (getB l ns[i]).length := by cases hq : getB l ns[i] with | nil => rw [hq] at hg; exact absurd rfl hg | cons x r => simp
                                omega), if_pos (by omega), if_pos (by omega), if_pos ha, rdS_at ns i hi, wrap1 i (by omega)]
  | succ d ih =>
    intro j hd hj
    have hlt : j < l.length := by omega
    have hx := bulkL_mem (List.getElem_mem hlt)
    have hgl := getB_length (l.take j) ns[i]
    rw [List.length_take] at hgl
    have hjs : (joinS (getB (l.take j) ns[i])).size ≤ 3 * 1073741824 := Nat.le_trans (joinS_size _) (by have := getB_sum (l.take j) ns[i]; have := bulkL_take l j; omega)
    have ht : getB (l.take (j + 1)) ns[i] = getB (l.take j) ns[i] ++ (if sameB l[j].f0 ns[i] = true then [l[j].f1] else []) := by
      rw [List.take_succ_eq_append_getElem hlt, getB_append', getB_cons]
      split <;> rfl
    have hn' := ih (j + 1) (by omega) (by omega)
    rw [ht] at hn'
    refine Ev.step (f := fun k => (tollhouseref02_Same.f k l[j].f0 ns[i]).bind fun t210 => if t210 = true then (if ((getB (l.take j) ns[i]).length : Int) > 0 then tollhouseref16_Select.l1 k ns l acc (i : Int) ((joinS (getB (l.take j) ns[i]) ++ sepS) ++ l[j].f1) (((getB (l.take j) ns[i]).length + 1 : Nat) : Int) ((j + 1 : Nat) : Int) else tollhouseref16_Select.l1 k ns l acc (i : Int) (joinS (getB (l.take j) ns[i]) ++ l[j].f1) (((getB (l.take j) ns[i]).length + 1 : Nat) : Int) ((j + 1 : Nat) : Int)) else tollhouseref16_Select.l1 k ns l acc (i : Int) (joinS (getB (l.take j) ns[i])) ((getB (l.take j) ns[i]).length : Int) ((j + 1 : Nat) : Int)) (fun k => ?_) ?_
    · rw [tollhouseref16_Select.l1, if_pos (by omega), if_pos (by omega), if_pos (by omega), if_pos (by omega), rd_at l j hlt, rdS_at ns i hi, wrap1 j (by omega), wrap1 _ (by omega)]
      simp only [if_pos (show (joinS (getB (l.take j) ns[i])).size + 2 ≤ 9223372036854775807 by omega), if_pos (show (joinS (getB (l.take j) ns[i]) ++ (⟨#[44, 32]⟩ : ByteArray)).size + l[j].f1.size ≤ 9223372036854775807 by rw [ByteArray.size_append]; show _ + 2 + _ ≤ _; omega), if_pos (show (joinS (getB (l.take j) ns[i])).size + l[j].f1.size ≤ 9223372036854775807 by omega)]
      rfl
    · refine Ev.bind (refSame02_ok _ _ (by omega) (by omega)) (ev_ifL (fun h => ev_ifL (fun h0 => ?_) (fun h0 => ?_)) (fun h => ?_))
      · rw [if_pos h, joinS_snoc, if_neg (fun e => by rw [e] at h0; simp at h0), List.length_append] at hn'
        exact hn'
      · have e0 : getB (l.take j) ns[i] = [] := List.eq_nil_of_length_eq_zero (by omega)
        rw [if_pos h, joinS_snoc, if_pos e0, List.length_append] at hn'
        rw [e0, joinS_nil, show (⟨#[]⟩ : ByteArray) ++ l[j].f1 = l[j].f1 by apply ByteArray.ext; simp [ByteArray.data_append]]
        rw [e0] at hn'
        exact hn'
      · rw [if_neg h, List.append_nil] at hn'
        exact hn'
theorem sumS_mem {ns : List ByteArray} {x : ByteArray} (h : x ∈ ns) : x.size + 1 ≤ sumS ns := by
  induction ns with
  | nil => cases h
  | cons y r ih =>
    rw [sumS_cons]
    rcases List.mem_cons.1 h with rfl | h
    · omega
    · have := ih h; omega
theorem sumS_len (ns : List ByteArray) : ns.length ≤ sumS ns := by
  induction ns with
  | nil => simp
  | cons x r ih => rw [sumS_cons, List.length_cons]; omega
theorem refSelect_from (ns : List ByteArray) (l : List S32) (hl : bulkL l ≤ 1073741824) (hn : sumS ns ≤ 1073741824) : ∀ (d i : Nat), ns.length - i = d → i ≤ ns.length → Ev (fun k => tollhouseref16_Select.l0 k ns l (selB (ns.take i) l) (i : Int)) (selB ns l) := by
  have hnl := sumS_len ns
  intro d
  induction d with
  | zero =>
    intro i hd hi
    rw [List.take_of_length_le (by omega)]
    exact Ev.step (f := fun _ => some (selB ns l)) (fun k => by rw [tollhouseref16_Select.l0, if_neg (by omega)]) (Ev.now _)
  | succ d ih =>
    intro i hd hi
    have hlt : i < ns.length := by omega
    have hsz := sumS_mem (List.getElem_mem hlt)
    have hsl := selB_len l (ns.take i)
    rw [List.length_take] at hsl
    have ht : selB (ns.take (i + 1)) l = selB (ns.take i) l ++ selOne l ns[i] := by unfold selB; rw [List.take_succ_eq_append_getElem hlt, List.flatMap_append]; simp
    refine Ev.step (f := fun k => tollhouseref16_Select.l1 k ns l (selB (ns.take i) l) (i : Int) (joinS (getB (l.take 0) ns[i])) ((getB (l.take 0) ns[i]).length : Int) ((0 : Nat) : Int)) (fun k => by rw [tollhouseref16_Select.l0, if_pos (by omega)]; rfl) ?_
    refine refSel_l1 ns l _ i hlt (by omega) hl (by omega) (by omega) _ ?_ _ 0 rfl (Nat.zero_le _)
    rw [← ht]
    exact ih (i + 1) (by omega) (by omega)
theorem refSelect_ok (ns : List ByteArray) (l : List S32) (hl : bulkL l ≤ 1073741824) (hn : sumS ns ≤ 1073741824) : Ev (fun k => tollhouseref16_Select.f k ns l) (selB ns l) := by
  unfold tollhouseref16_Select.f
  exact refSelect_from ns l hl hn _ 0 rfl (Nat.zero_le _)
theorem select_ok (ns : List ByteArray) (l : List S32) (hl : bulkL l ≤ 1073741824) (hn : sumS ns ≤ 1073741824) : vary_Select.f ns l = some (selB ns l) := by unfold vary_Select.f; rw [if_pos ⟨hl, hn⟩]

/-! ### Same -/
theorem fieldEta (x y : S32) (h0 : x.f0 = y.f0) (h1 : x.f1 = y.f1) : x = y := by cases x; cases y; simp_all
theorem refSame16_from (a b : List S32) (he : a.length = b.length) (hl : a.length < 9223372036854775807) : ∀ (d i : Nat), a.length - i = d → i ≤ a.length → a.take i = b.take i → Ev (fun k => tollhouseref16_Same.l0 k a b (i : Int)) (decide (a = b)) := by
  intro d
  induction d with
  | zero =>
    intro i hd hi ht
    have : a = b := by rw [List.take_of_length_le (by omega), List.take_of_length_le (by omega)] at ht; exact ht
    rw [decide_eq_true this]
    exact Ev.step (f := fun _ => some true) (fun k => by rw [tollhouseref16_Same.l0, if_neg (by omega)]) (Ev.now _)
  | succ d ih =>
    intro i hd hi ht
    have hlt : i < a.length := by omega
    have hltb : i < b.length := by omega
    refine Ev.step (f := fun k => if a[i].f0.toList = b[i].f0.toList then (if a[i].f1.toList = b[i].f1.toList then tollhouseref16_Same.l0 k a b ((i + 1 : Nat) : Int) else some false) else some false) (fun k => by rw [tollhouseref16_Same.l0, if_pos (by omega), if_pos (by omega), if_pos (by omega), rd_at a i hlt, rd_at b i hltb, wrap1 i (by omega)]) ?_
    have hno : ¬ a[i] = b[i] → Ev (fun _ => some false) (decide (a = b)) := fun h => by
      have : a ≠ b := fun e => by subst e; exact h rfl
      rw [decide_eq_false this]; exact Ev.now _
    refine ev_ifL (fun h1 => ev_ifL (fun h2 => ?_) (fun h2 => hno (fun e => h2 (by rw [e])))) (fun h1 => hno (fun e => h1 (by rw [e])))
    refine ih (i + 1) (by omega) (by omega) ?_
    rw [List.take_succ_eq_append_getElem hlt, List.take_succ_eq_append_getElem hltb, ht, fieldEta _ _ (toList_inj' h1) (toList_inj' h2)]
theorem refSame16_ok (a b : List S32) (hl : a.length < 9223372036854775807) : Ev (fun k => tollhouseref16_Same.f k a b) (decide (a = b)) := by
  unfold tollhouseref16_Same.f
  by_cases he : a.length = b.length
  · exact Ev.congr (fun k => if_pos (by omega)) (refSame16_from a b he hl _ 0 rfl (Nat.zero_le _) rfl)
  · rw [decide_eq_false (fun e => he (by rw [e]))]
    exact Ev.congr (fun k => if_neg (by omega)) (Ev.now _)
theorem equalF_from (a b : List S32) (he : a.length = b.length) (hl : a.length < 9223372036854775807) : ∀ (d i : Nat), a.length - i = d → i ≤ a.length → a.take i = b.take i → Ev (fun k => equalFields.l0 k a b (a.length : Int) (i : Int)) (decide (a = b)) := by
  intro d
  induction d with
  | zero =>
    intro i hd hi ht
    have : a = b := by rw [List.take_of_length_le (by omega), List.take_of_length_le (by omega)] at ht; exact ht
    rw [decide_eq_true this]
    exact Ev.step (f := fun _ => some true) (fun k => by rw [equalFields.l0, if_neg (by omega)]) (Ev.now _)
  | succ d ih =>
    intro i hd hi ht
    have hlt : i < a.length := by omega
    have hltb : i < b.length := by omega
    refine Ev.step (f := fun k => if (!(a[i].f0.toList == b[i].f0.toList) || !(a[i].f1.toList == b[i].f1.toList)) = true then some false else equalFields.l0 k a b (a.length : Int) ((i + 1 : Nat) : Int)) (fun k => by rw [equalFields.l0, if_pos (by omega), if_pos (by omega), if_pos (by omega), if_pos (by omega), rd_at a i hlt, rd_at b i hltb, wrap1 i (by omega)]) ?_
    refine ev_ifL (fun h => ?_) (fun h => ?_)
    · have : a ≠ b := fun e => by subst e; simp at h
      rw [decide_eq_false this]; exact Ev.now _
    · rw [Bool.not_eq_true, Bool.or_eq_false_iff, Bool.not_eq_false', Bool.not_eq_false', beq_iff_eq, beq_iff_eq] at h
      refine ih (i + 1) (by omega) (by omega) ?_
      rw [List.take_succ_eq_append_getElem hlt, List.take_succ_eq_append_getElem hltb, ht, fieldEta _ _ (toList_inj' h.1) (toList_inj' h.2)]
theorem same_ok (a b : List S32) (hl : a.length < 9223372036854775807) : Ev (fun k => vary_Same.f k a b) (decide (a = b)) := by
  unfold vary_Same.f
  refine Ev.bind ?_ (Ev.now _)
  unfold equalFields.f
  by_cases he : a.length = b.length
  · exact Ev.congr (fun k => if_pos (by omega)) (equalF_from a b he hl _ 0 rfl (Nat.zero_le _) rfl)
  · rw [decide_eq_false (fun e => he (by rw [e]))]
    exact Ev.congr (fun k => if_neg (by omega)) (Ev.now _)
end Go.Proofs.YtalolopngekgbaaDoor.P
