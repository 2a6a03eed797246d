/- VaryAgain: true for all fields. -/
import Derived.Test.YtalolopngekgbaaDoorPListAgain
import Derived.Test.YtalolopngekgbaaDoorPwakes16
import Derived.Test.YtalolopngekgbaaDoorFOpen
import Derived.Test.YtalolopngekgbaaDoorQtollhouselaw16VaryAgain
set_option linter.unusedVariables false
set_option linter.unusedSimpArgs false
namespace Go.Proofs.YtalolopngekgbaaDoor.P
open Go.RowKit Go.Proofs.YtalolopngekgbaaDoorW.PrintWords Go.Proofs.YtalolopngekgbaaDoorW.PrintLast Go.Proofs.YtalolopngekgbaaDoorW.PrintMore

/-- The field that tells a name again. -/
def tellF (n : ByteArray) : S32 := ⟨⟨#[86, 65, 82, 89]⟩, (⟨#[32, 44, 32]⟩ : ByteArray) ++ n⟩
theorem tells (ns : List ByteArray) (h : ∀ n ∈ ns, Elem n) : elemsB (ns.map tellF) varyS = ns := by
  induction ns with
  | nil => rfl
  | cons n r ih =>
    have h1 : getB ((n :: r).map tellF) varyS = (tellF n).f1 :: getB (r.map tellF) varyS := by
      rw [List.map_cons, getB_cons, if_pos (show sameB (tellF n).f0 varyS = true from (show sameB (⟨#[86, 65, 82, 89]⟩ : ByteArray) varyS = true by decide +kernel))]
    have h2 := ih (fun x hx => h x (List.mem_cons_of_mem _ hx))
    unfold elemsB at h2 ⊢
    rw [h1]
    unfold elsB at h2 ⊢
    rw [List.flatMap_cons, h2]
    show listB ((⟨#[32, 44, 32]⟩ : ByteArray) ++ n) ++ r = _
    rw [list_again (h n (by simp))]
    rfl
theorem fold_new : ∀ (ns acc : List ByteArray) (st : Bool), (∀ n ∈ ns, lowB n = n ∧ n ≠ starS) → (acc ++ ns).Nodup → ns.foldl nmStep (acc, st) = (acc ++ ns, st)
  | [], acc, st, _, _ => by simp
  | n :: r, acc, st, h, hd => by
    have hn := h n (by simp)
    have hna : n ∉ acc := fun ha => by
      rw [List.nodup_append] at hd
      exact hd.2.2 n ha n (by simp) rfl
    have hs : nmStep (acc, st) n = (acc ++ [n], st) := by
      unfold nmStep
      rw [hn.1, if_neg hn.2, if_neg hna]
    rw [List.foldl_cons, hs, fold_new r (acc ++ [n]) st (fun x hx => h x (List.mem_cons_of_mem _ hx)) (by rw [List.append_assoc]; exact hd), List.append_assoc]
    rfl
theorem fold_old : ∀ (xs : List ByteArray) (st : List ByteArray × Bool), (∀ x ∈ xs, (lowB x = starS ∧ st.2 = true) ∨ (lowB x ≠ starS ∧ lowB x ∈ st.1)) → xs.foldl nmStep st = st
  | [], _, _ => rfl
  | x :: r, st, h => by
    have hs : nmStep st x = st := by
      unfold nmStep
      rcases h x (by simp) with ⟨h1, h2⟩ | ⟨h1, h2⟩
      · rw [if_pos h1, ← h2]
      · rw [if_neg h1, if_pos h2]
    rw [List.foldl_cons, hs]
    exact fold_old r st (fun y hy => h y (List.mem_cons_of_mem _ hy))
theorem names_twice (xs : List ByteArray) : namesB (xs ++ xs) = namesB xs := by
  show (xs ++ xs).foldl nmStep ([], false) = _
  rw [List.foldl_append]
  have ht := names_told xs
  refine fold_old xs (namesB xs) (fun x hx => ?_)
  by_cases e : lowB x = starS
  · exact .inl ⟨e, ht.star.2 ⟨x, hx, e⟩⟩
  · exact .inr ⟨e, (ht.mem _).2 ⟨⟨x, hx, rfl⟩, e⟩⟩
theorem names_elem {l : List S32} {n : ByteArray} (h : n ∈ (namesB (elemsB l varyS)).1) : Elem n ∧ lowB n = n ∧ n ≠ starS := by
  obtain ⟨⟨x, hx, rfl⟩, hs⟩ := ((names_told _).mem _).1 h
  obtain ⟨v, _, hv⟩ := List.mem_flatMap.1 hx
  exact ⟨(listB_elem hv).low, lowB_idem x, hs⟩
theorem names_again (l : List S32) : namesB (elemsB ((namesB (elemsB l varyS)).1.map tellF) varyS) = ((namesB (elemsB l varyS)).1, false) := by
  rw [tells _ (fun n hn => (names_elem hn).1)]
  exact fold_new _ [] false (fun n hn => (names_elem hn).2) (by rw [List.nil_append]; exact (names_told _).nd)
def starF : S32 := ⟨⟨#[86, 97, 114, 121]⟩, ⟨#[42]⟩⟩
theorem names_starred (l : List S32) : (namesB (elemsB ([starF] ++ l) varyS)).2 = true := by
  refine ((names_told _).star).2 ⟨starS, ?_, by decide +kernel⟩
  rw [elemsB_append]
  refine List.mem_append_left _ ?_
  rw [show elemsB [starF] varyS = [starS] by decide +kernel]
  simp
theorem bulk_tell (ns : List ByteArray) : bulkL (ns.map tellF) ≤ 8 * sumS ns := by
  induction ns with
  | nil => simp [bulkL, sumS]
  | cons n r ih =>
    rw [List.map_cons, bulkL_cons, sumS_cons]
    have : (tellF n).f1.size = 3 + n.size := by show ((⟨#[32, 44, 32]⟩ : ByteArray) ++ n).size = _; rw [ByteArray.size_append]; rfl
    have h2 : (tellF n).f0.size = 4 := rfl
    omega

/-! ### the law -/
theorem va_j3 (l : List S32) (hl : bulkL l ≤ 1048576) : Ev (fun k => tollhouselaw16_VaryAgain.j3 k l (namesB (elemsB l varyS)).1 (namesB (elemsB l varyS)).2 false) true := by
  have hll := bulkL_len l
  have hnl := namesB_len (elemsB l varyS)
  have hel := elemsB_length l varyS
  refine Ev.step (f := fun k => (tollhouseref02_Equal.f k (namesB (elemsB l varyS)).1 (namesB (elemsB l varyS)).1).bind fun t347 => (if t347 = true then (if ((namesB (elemsB l varyS)).2 == (namesB (elemsB l varyS)).2) = true then (if (namesB (elemsB ([starF] ++ l) varyS)).2 = true then ((tollhouselaw16_wakes.f k).bind fun t348 => (some t348)) else (some false)) else (some false)) else (some false))) (fun k => ?_) ?_
  · rw [tollhouselaw16_VaryAgain.j3, if_neg (by decide), if_pos (by simp; omega), Option.bind_some, List.nil_append, if_pos (by omega), names_ok (l ++ l) (by rw [bulkL_append]; omega), Option.bind_some, Option.bind_some, if_pos (by simp; omega), names_ok _ (by rw [List.singleton_append, bulkL_cons]; show 4 + 1 + 1 + _ ≤ _; omega), Option.bind_some, elemsB_append l l, names_twice]
    rfl
  · refine Ev.bind (refEqual_ok _ _ (by omega)) ?_
    rw [decide_eq_true rfl, names_starred]
    refine ev_ifL (fun _ => ?_) (fun h => absurd rfl h)
    refine ev_ifL (fun _ => ?_) (fun h => absurd (by simp) h)
    refine ev_ifL (fun _ => ?_) (fun h => absurd rfl h)
    exact Ev.bind wakes16_ev (Ev.now _)
theorem va_l1 (l acc : List S32) (ns : List ByteArray) (st : Bool) (i : Nat) (hi : i < ns.length) (hl : ns.length ≤ 1073741824) (hs : ns[i].size ≤ 1073741824) (ha : acc.length < 4398046511104) (hd : ns.Nodup) (r : Bool)
    (h : Ev (fun k => tollhouselaw16_VaryAgain.l0 k l ns st (acc ++ [tellF ns[i]]) ((i + 1 : Nat) : Int)) r) :
    ∀ (d j : Nat), i - j = d → j ≤ i → Ev (fun k => tollhouselaw16_VaryAgain.l1 k l ns st acc (i : Int) (j : Int)) r := by
  intro d
  induction d with
  | zero =>
    intro j hd0 hj
    refine Ev.step (f := fun k => tollhouselaw16_VaryAgain.l0 k l ns st (acc ++ [tellF ns[i]]) ((i + 1 : Nat) : Int)) (fun k => ?_) h
    rw [tollhouselaw16_VaryAgain.l1, if_neg (by omega), if_pos (by omega), if_pos (by omega), rdS_at ns i hi, if_pos (by omega), if_pos ha, wrap1 i (by omega)]
    rfl
  | succ d ih =>
    intro j hd0 hj
    have hne : ¬ ns[j].toList = ns[i].toList := fun e => by
      have := (List.nodup_iff_pairwise_ne.1 hd)
      have h2 := List.pairwise_iff_getElem.1 this j i (by omega) hi (by omega)
      exact h2 (toList_inj' e)
    refine Ev.step (f := fun k => tollhouselaw16_VaryAgain.l1 k l ns st acc (i : Int) ((j + 1 : Nat) : Int)) (fun k => ?_) (ih (j + 1) (by omega) (by omega))
    rw [tollhouselaw16_VaryAgain.l1, if_pos (by omega), if_pos (by omega), if_pos (by omega), if_pos (by omega), if_pos (by omega), rdS_at ns j (by omega), rdS_at ns i hi, if_neg hne, wrap1 j (by omega)]
theorem va_l0 (l : List S32) (hl : bulkL l ≤ 1048576) : ∀ (d i : Nat), (namesB (elemsB l varyS)).1.length - i = d → i ≤ (namesB (elemsB l varyS)).1.length →
    Ev (fun k => tollhouselaw16_VaryAgain.l0 k l (namesB (elemsB l varyS)).1 (namesB (elemsB l varyS)).2 (((namesB (elemsB l varyS)).1.take i).map tellF) (i : Int)) true := by
  have hnl := namesB_len (elemsB l varyS)
  have hel := elemsB_length l varyS
  have hns := names_sum l varyS
  have hj3 := va_j3 l hl
  have hag := names_again l
  have hme : ∀ n ∈ (namesB (elemsB l varyS)).1, Elem n ∧ lowB n = n ∧ n ≠ starS := fun n hn => names_elem hn
  have hnd := (names_told (elemsB l varyS)).nd
  revert hnl hel hns hj3 hag hme hnd
  generalize namesB (elemsB l varyS) = q
  obtain ⟨ns, st⟩ := q
  intro hnl hel hns hj3 hag hme hnd
  simp only at hnl hel hns hj3 hag hme hnd ⊢
  intro d
  induction d with
  | zero =>
    intro i hd hi
    rw [List.take_of_length_le (by omega)]
    refine Ev.step (f := fun k => (tollhouseref02_Equal.f k ns ns).bind fun t326 => (tollhouselaw16_VaryAgain.j3 k l ns st (!t326))) (fun k => ?_) ?_
    · rw [tollhouselaw16_VaryAgain.l0, if_neg (by omega), names_ok _ (Nat.le_trans (bulk_tell ns) (by omega)), Option.bind_some, hag]
      rfl
    · refine Ev.bind (refEqual_ok _ _ (by omega)) ?_
      rw [decide_eq_true rfl]
      exact hj3
  | succ d ih =>
    intro i hd hi
    have hlt : i < ns.length := by omega
    have hm := hme _ (List.getElem_mem hlt)
    have hsm := sumS_mem (List.getElem_mem hlt)
    have h1 : ¬ ns[i].toList = ([42] : List UInt8) := fun e => hm.2.2 ((star_iff _).1 e)
    have h2 : ¬ ns[i].toList = ([] : List UInt8) := fun e => hm.1.some_ (by rw [ByteArray.toList_eq] at e; exact e)
    have hn := ih (i + 1) (by omega) (by omega)
    rw [List.take_succ_eq_append_getElem hlt, List.map_append] at hn
    refine Ev.step (f := fun k => tollhouselaw16_VaryAgain.j1 k l ns st ((ns.take i).map tellF) (i : Int) false) (fun k => ?_) ?_
    · rw [tollhouselaw16_VaryAgain.l0, if_pos (by omega), if_pos (by omega), rdS_at ns i hlt, if_neg h1, if_neg h2]
      unfold text_Lower.f
      rw [if_pos (by omega), Option.bind_some, hm.2.1]
      simp
    · refine Ev.step (f := fun k => tollhouselaw16_VaryAgain.l1 k l ns st ((ns.take i).map tellF) (i : Int) ((0 : Nat) : Int)) (fun k => by rw [tollhouselaw16_VaryAgain.j1, if_neg (by decide)]; rfl) ?_
      exact va_l1 l _ ns st i hlt (by omega) (by omega) (by rw [List.length_map, List.length_take]; omega) hnd _ hn _ 0 rfl (Nat.zero_le _)

theorem VaryAgain_row (l : List S32) (hl : l.length * 32 ≤ 140737488351232) (hy : ∀ x ∈ l, x.f0.size ≤ 140737488351232 ∧ x.f1.size ≤ 140737488351232) (hB : bulkFs l ≤ 1048576) :
    ∃ k, tollhouselaw16_VaryAgain.f k l = some true := by
  have hb := bulkFs_L l
  refine Ev.rounds (g := fun k => tollhouselaw16_VaryAgain.f k l) ?_
  unfold tollhouselaw16_VaryAgain.f
  rw [names_ok l (by omega)]
  simp only [Option.bind_some]
  exact va_l0 l (by omega) _ 0 rfl (Nat.zero_le _)
end Go.Proofs.YtalolopngekgbaaDoor.P
