/- VaryMatters: true for all fields. -/
import Derived.Test.YtalolopngekgbaaDoorPNames16
import Derived.Test.YtalolopngekgbaaDoorPwakes16
import Derived.Test.YtalolopngekgbaaDoorFOpen
import Derived.Test.YtalolopngekgbaaDoorQtollhouselaw16VaryMatters
set_option linter.unusedVariables false
set_option linter.unusedSimpArgs false
namespace Go.Proofs.YtalolopngekgbaaDoor.P
open Go.RowKit Go.Proofs.YtalolopngekgbaaDoorW.PrintWords Go.Proofs.YtalolopngekgbaaDoorW.PrintLast Go.Proofs.YtalolopngekgbaaDoorW.PrintMore

theorem sumS_take (xs : List ByteArray) (j : Nat) : sumS (xs.take j) ≤ sumS xs := by
  conv => rhs; rw [← List.take_append_drop j xs]
  rw [sumS_append]; omega
theorem vm_l2 (a b : List S32) (ns : List ByteArray) (fl : Bool) (i : Int) (xs ys : List ByteArray) (p : ByteArray) (hy : sumS ys ≤ 1073741824) (r : Bool)
    (h : Ev (fun k => if fl = true then (if ((decide ((xs.length : Int) > 0)) == (decide ((ys.length : Int) > 0))) = true then (tollhouselaw16_VaryMatters.l0 k a b ns (p.toList == (joinS ys).toList) (wrap64 (i + 1))) else (tollhouselaw16_VaryMatters.l0 k a b ns false (wrap64 (i + 1)))) else (tollhouselaw16_VaryMatters.l0 k a b ns false (wrap64 (i + 1)))) r) :
    ∀ (d j : Nat), ys.length - j = d → j ≤ ys.length → Ev (fun k => tollhouselaw16_VaryMatters.l2 k a b ns fl i xs ys p (joinS (ys.take j)) (j : Int)) r := by
  have hyl := sumS_len ys
  intro d
  induction d with
  | zero =>
    intro j hd hj
    rw [List.take_of_length_le (by omega)]
    exact Ev.step (f := fun k => if fl = true then (if ((decide ((xs.length : Int) > 0)) == (decide ((ys.length : Int) > 0))) = true then (tollhouselaw16_VaryMatters.l0 k a b ns (p.toList == (joinS ys).toList) (wrap64 (i + 1))) else (tollhouselaw16_VaryMatters.l0 k a b ns false (wrap64 (i + 1)))) else (tollhouselaw16_VaryMatters.l0 k a b ns false (wrap64 (i + 1)))) (fun k => by rw [tollhouselaw16_VaryMatters.l2, if_neg (by omega)]) h
  | succ d ih =>
    intro j hd hj
    have hlt : j < ys.length := by omega
    have hn := ih (j + 1) (by omega) (by omega)
    rw [List.take_succ_eq_append_getElem hlt, joinS_snoc] at hn
    have hs1 := joinS_size (ys.take j)
    have hs2 := sumS_take ys j
    have hs3 := sumS_mem (List.getElem_mem hlt)
    by_cases hz : j = 0
    · subst hz
      rw [if_pos (by simp)] at hn
      refine Ev.step (f := fun k => tollhouselaw16_VaryMatters.l2 k a b ns fl i xs ys p (ys[0]) ((0 + 1 : Nat) : Int)) (fun k => ?_) hn
      rw [tollhouselaw16_VaryMatters.l2, if_pos (by omega), if_neg (by omega), if_pos (by omega), rdS_at ys 0 hlt, if_pos (by show (joinS (ys.take 0)).size + _ ≤ _; omega), wrap1 0 (by omega)]
      rw [show joinS (ys.take 0) ++ ys[0] = ys[0] from by
        rw [show joinS (ys.take 0) = ⟨#[]⟩ from rfl]
        apply ByteArray.ext
        simp [ByteArray.data_append]]
    · rw [if_neg (by intro e; have := congrArg List.length e; rw [List.length_take, List.length_nil] at this; omega)] at hn
      refine Ev.step (f := fun k => tollhouselaw16_VaryMatters.l2 k a b ns fl i xs ys p ((joinS (ys.take j) ++ sepS) ++ ys[j]) ((j + 1 : Nat) : Int)) (fun k => ?_) hn
      rw [tollhouselaw16_VaryMatters.l2, if_pos (by omega), if_pos (by omega), if_pos (by omega), if_pos (by omega), rdS_at ys j hlt, if_pos (by rw [ByteArray.size_append]; show _ + 2 + _ ≤ _; omega), wrap1 j (by omega)]
      rfl
theorem vm_l1 (a b : List S32) (ns : List ByteArray) (fl : Bool) (i : Int) (xs ys : List ByteArray) (q : ByteArray) (hx : sumS xs ≤ 1073741824) (r : Bool)
    (h : Ev (fun k => tollhouselaw16_VaryMatters.l2 k a b ns fl i xs ys (joinS xs) q ((0 : Nat) : Int)) r) :
    ∀ (d j : Nat), xs.length - j = d → j ≤ xs.length → Ev (fun k => tollhouselaw16_VaryMatters.l1 k a b ns fl i xs ys (joinS (xs.take j)) q (j : Int)) r := by
  have hxl := sumS_len xs
  intro d
  induction d with
  | zero =>
    intro j hd hj
    rw [List.take_of_length_le (by omega)]
    exact Ev.step (f := fun k => tollhouselaw16_VaryMatters.l2 k a b ns fl i xs ys (joinS xs) q ((0 : Nat) : Int)) (fun k => by rw [tollhouselaw16_VaryMatters.l1, if_neg (by omega)]; rfl) h
  | succ d ih =>
    intro j hd hj
    have hlt : j < xs.length := by omega
    have hn := ih (j + 1) (by omega) (by omega)
    rw [List.take_succ_eq_append_getElem hlt, joinS_snoc] at hn
    have hs1 := joinS_size (xs.take j)
    have hs2 := sumS_take xs j
    have hs3 := sumS_mem (List.getElem_mem hlt)
    by_cases hz : j = 0
    · subst hz
      rw [if_pos (by simp)] at hn
      refine Ev.step (f := fun k => tollhouselaw16_VaryMatters.l1 k a b ns fl i xs ys (xs[0]) q ((0 + 1 : Nat) : Int)) (fun k => ?_) hn
      rw [tollhouselaw16_VaryMatters.l1, if_pos (by omega), if_neg (by omega), if_pos (by omega), rdS_at xs 0 hlt, if_pos (by show (joinS (xs.take 0)).size + _ ≤ _; omega), wrap1 0 (by omega)]
      rw [show joinS (xs.take 0) ++ xs[0] = xs[0] from by
        rw [show joinS (xs.take 0) = ⟨#[]⟩ from rfl]
        apply ByteArray.ext
        simp [ByteArray.data_append]]
    · rw [if_neg (by intro e; have := congrArg List.length e; rw [List.length_take, List.length_nil] at this; omega)] at hn
      refine Ev.step (f := fun k => tollhouselaw16_VaryMatters.l1 k a b ns fl i xs ys ((joinS (xs.take j) ++ sepS) ++ xs[j]) q ((j + 1 : Nat) : Int)) (fun k => ?_) hn
      rw [tollhouselaw16_VaryMatters.l1, if_pos (by omega), if_pos (by omega), if_pos (by omega), if_pos (by omega), rdS_at xs j hlt, if_pos (by rw [ByteArray.size_append]; show _ + 2 + _ ≤ _; omega), wrap1 j (by omega)]
      rfl

/-! ### the same wants, name by name -/
theorem selOne_iff (a b : List S32) (n : ByteArray) : selOne a n = selOne b n ↔ (decide (((getB a n).length : Int) > 0) == decide (((getB b n).length : Int) > 0)) = true ∧ (joinS (getB a n)).toList = (joinS (getB b n)).toList := by
  have hz : ∀ v : List ByteArray, v.isEmpty = true ↔ ¬ ((v.length : Int) > 0) := fun v => by cases v <;> simp <;> omega
  unfold selOne
  by_cases ha : (getB a n).isEmpty = true <;> by_cases hb : (getB b n).isEmpty = true
  · rw [if_pos ha, if_pos hb]
    have h1 : getB a n = [] := by simpa using ha
    have h2 : getB b n = [] := by simpa using hb
    simp [h1, h2]
  · rw [if_pos ha, if_neg hb]
    have h1 := (hz _).1 ha
    have h2 : ((getB b n).length : Int) > 0 := Classical.byContradiction fun h => hb ((hz _).2 h)
    rw [decide_eq_false h1, decide_eq_true h2]
    simp
  · rw [if_neg ha, if_pos hb]
    have h1 : ((getB a n).length : Int) > 0 := Classical.byContradiction fun h => ha ((hz _).2 h)
    have h2 := (hz _).1 hb
    rw [decide_eq_true h1, decide_eq_false h2]
    simp
  · rw [if_neg ha, if_neg hb]
    have h1 : ((getB a n).length : Int) > 0 := Classical.byContradiction fun h => ha ((hz _).2 h)
    have h2 : ((getB b n).length : Int) > 0 := Classical.byContradiction fun h => hb ((hz _).2 h)
    rw [decide_eq_true h1, decide_eq_true h2]
    constructor
    · intro h
      have h3 : joinS (getB a n) = joinS (getB b n) := by injection h with h _; injection h
      exact ⟨rfl, by rw [h3]⟩
    · rintro ⟨_, h⟩
      rw [toList_inj' h]
theorem selB_mem {ns : List ByteArray} {a : List S32} {x : S32} (h : x ∈ selB ns a) : x.f0 ∈ ns := by
  obtain ⟨n, hn, hx⟩ := List.mem_flatMap.1 h
  unfold selOne at hx
  split at hx
  · cases hx
  · rw [List.mem_singleton.1 hx]; exact hn
theorem selB_iff (a b : List S32) : ∀ ns : List ByteArray, ns.Nodup → (selB ns a = selB ns b ↔ ∀ n ∈ ns, selOne a n = selOne b n)
  | [], _ => by simp [selB]
  | n :: r, hn => by
    rw [List.nodup_cons] at hn
    have ih := selB_iff a b r hn.2
    have ha : selB (n :: r) a = selOne a n ++ selB r a := by simp [selB]
    have hb : selB (n :: r) b = selOne b n ++ selB r b := by simp [selB]
    rw [ha, hb]
    constructor
    · intro h m hm
      have hne : ∀ (c : List S32) (v : ByteArray) (t : List S32), selB r c = ⟨n, v⟩ :: t → False := fun c v t e => hn.1 (selB_mem (a := c) (x := ⟨n, v⟩) (by rw [e]; simp))
      have h1 : selOne a n = selOne b n ∧ selB r a = selB r b := by
        unfold selOne at h ⊢
        by_cases h1 : (getB a n).isEmpty = true <;> by_cases h2 : (getB b n).isEmpty = true
        · rw [if_pos h1, if_pos h2] at h ⊢; exact ⟨rfl, h⟩
        · rw [if_pos h1, if_neg h2] at h; exact (hne a _ _ h).elim
        · rw [if_neg h1, if_pos h2] at h; exact (hne b _ _ h.symm).elim
        · rw [if_neg h1, if_neg h2] at h ⊢
          rw [List.singleton_append, List.singleton_append] at h
          injection h with e1 e2
          exact ⟨by rw [e1], e2⟩
      rcases List.mem_cons.1 hm with rfl | hm
      · exact h1.1
      · exact ih.1 h1.2 m hm
    · intro h
      rw [h n (by simp), ih.2 (fun m hm => h m (List.mem_cons_of_mem _ hm))]

def wantSame (a b : List S32) (n : ByteArray) : Bool := decide (selOne a n = selOne b n)
theorem vm_l0 (a b : List S32) (ns : List ByteArray) (hd : ns.Nodup) (ha : bulkL a ≤ 1073741824) (hb : bulkL b ≤ 1073741824) (hn : sumS ns ≤ 1073741824) : ∀ (d i : Nat), ns.length - i = d → i ≤ ns.length →
    Ev (fun k => tollhouselaw16_VaryMatters.l0 k a b ns ((ns.take i).all (wantSame a b)) (i : Int)) true := by
  have hnl := sumS_len ns
  have hla := selB_len a ns
  intro d
  induction d with
  | zero =>
    intro i hd0 hi
    rw [List.take_of_length_le (by omega)]
    refine Ev.step (f := fun k => (vary_Same.f k (selB ns a) (selB ns b)).bind fun t254 => (if (t254 == ns.all (wantSame a b)) = true then ((vary_Same.f k (selB ns a) (selB ns a)).bind fun t261 => (if t261 = true then ((tollhouselaw16_wakes.f k).bind fun t262 => (some t262)) else (some false))) else (some false))) (fun k => ?_) ?_
    · rw [tollhouselaw16_VaryMatters.l0, if_neg (by omega), select_ok ns a ha hn, Option.bind_some, select_ok ns b hb hn, Option.bind_some]
      simp only [Option.bind_some]
    · refine Ev.bind (same_ok _ _ (by omega)) ?_
      have hq : decide (selB ns a = selB ns b) = ns.all (wantSame a b) := by
        rw [Bool.eq_iff_iff, decide_eq_true_eq, selB_iff a b ns hd, List.all_eq_true]
        exact ⟨fun h n hn => decide_eq_true (h n hn), fun h n hn => of_decide_eq_true (h n hn)⟩
      rw [hq]
      refine ev_ifL (fun _ => ?_) (fun h => absurd (by simp) h)
      refine Ev.bind (same_ok _ _ (by omega)) ?_
      rw [decide_eq_true rfl]
      refine ev_ifL (fun _ => ?_) (fun h => absurd rfl h)
      exact Ev.bind wakes16_ev (Ev.now _)
  | succ d ih =>
    intro i hd0 hi
    have hlt : i < ns.length := by omega
    have hsn := sumS_mem (List.getElem_mem hlt)
    have hla' := bulkL_len a
    have hlb' := bulkL_len b
    have hn' := ih (i + 1) (by omega) (by omega)
    have hga := getB_sum a ns[i]
    have hgb := getB_sum b ns[i]
    have hfl : (ns.take (i + 1)).all (wantSame a b) = ((ns.take i).all (wantSame a b) && decide (selOne a ns[i] = selOne b ns[i])) := by
      rw [List.take_succ_eq_append_getElem hlt, List.all_append]
      simp [wantSame]
    refine Ev.step (f := fun k => (head_Get.f k a ns[i]).bind fun t237 => ((head_Get.f k b ns[i]).bind fun t241 => (tollhouselaw16_VaryMatters.l1 k a b ns ((ns.take i).all (wantSame a b)) (i : Int) t237 t241 (joinS (t237.take 0)) (⟨#[]⟩ : ByteArray) ((0 : Nat) : Int)))) (fun k => ?_) ?_
    · rw [tollhouselaw16_VaryMatters.l0, if_pos (by omega), if_pos (by omega), rdS_at ns i hlt]; rfl
    · refine Ev.bind ⟨a.length + 1, fun k hk => get_ok k a ns[i] (by omega) (fun x hx => by have := bulkL_mem hx; omega) (by omega) (by omega)⟩ (Ev.bind ⟨b.length + 1, fun k hk => get_ok k b ns[i] (by omega) (fun x hx => by have := bulkL_mem hx; omega) (by omega) (by omega)⟩ ?_)
      refine vm_l1 a b ns _ i (getB a ns[i]) (getB b ns[i]) _ (by omega) _ ?_ _ 0 rfl (Nat.zero_le _)
      refine vm_l2 a b ns _ i (getB a ns[i]) (getB b ns[i]) _ (by omega) _ ?_ _ 0 rfl (Nat.zero_le _)
      rw [wrap1 i (by omega)]
      rw [hfl] at hn'
      refine ev_ifL (fun h1 => ?_) (fun h1 => ?_)
      · rw [h1, Bool.true_and] at hn'
        refine ev_ifL (fun h2 => ?_) (fun h2 => ?_)
        · have : decide (selOne a ns[i] = selOne b ns[i]) = ((joinS (getB a ns[i])).toList == (joinS (getB b ns[i])).toList) := by
            rw [Bool.eq_iff_iff, decide_eq_true_eq, beq_iff_eq, selOne_iff]
            exact ⟨fun h => h.2, fun h => ⟨h2, h⟩⟩
          rw [this] at hn'
          exact hn'
        · have : decide (selOne a ns[i] = selOne b ns[i]) = false := decide_eq_false (fun e => h2 ((selOne_iff a b ns[i]).1 e).1)
          rw [this] at hn'
          exact hn'
      · rw [Bool.eq_false_iff.2 h1, Bool.false_and] at hn'
        exact hn'

theorem VaryMatters_row (l a b : List S32) (hl : l.length * 32 ≤ 140737488351232) (hy : ∀ x ∈ l, x.f0.size ≤ 140737488351232 ∧ x.f1.size ≤ 140737488351232) (ha : a.length * 32 ≤ 140737488351232) (hay : ∀ x ∈ a, x.f0.size ≤ 140737488351232 ∧ x.f1.size ≤ 140737488351232) (hb : b.length * 32 ≤ 140737488351232) (hby : ∀ x ∈ b, x.f0.size ≤ 140737488351232 ∧ x.f1.size ≤ 140737488351232) (hB : bulkFs l + bulkFs a + bulkFs b ≤ 1048576) :
    ∃ k, tollhouselaw16_VaryMatters.f k l a b = some true := by
  have h1 := bulkFs_L l
  have h2 := bulkFs_L a
  have h3 := bulkFs_L b
  refine Ev.rounds (g := fun k => tollhouselaw16_VaryMatters.f k l a b) ?_
  unfold tollhouselaw16_VaryMatters.f
  rw [names_ok l (by omega)]
  simp only [Option.bind_some]
  have := vm_l0 a b (namesB (elemsB l varyS)).1 (names_told _).nd (by omega) (by omega) (Nat.le_trans (names_sum l varyS) (by omega)) _ 0 rfl (Nat.zero_le _)
  simpa using this
end Go.Proofs.YtalolopngekgbaaDoor.P
