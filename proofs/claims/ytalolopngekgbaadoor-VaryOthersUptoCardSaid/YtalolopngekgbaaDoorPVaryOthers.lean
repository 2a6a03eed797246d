/- VaryOthers: true for all names, fields, a field, a place. -/
import Derived.Test.YtalolopngekgbaaDoorPNames16
import Derived.Test.YtalolopngekgbaaDoorPwakes16
import Derived.Test.YtalolopngekgbaaDoorFOpen
import Derived.Test.YtalolopngekgbaaDoorFOpenS
import Derived.Test.YtalolopngekgbaaDoorQtollhouselaw16VaryOthers
set_option linter.unusedVariables false
set_option linter.unusedSimpArgs false
namespace Go.Proofs.YtalolopngekgbaaDoor.P
open Go.RowKit Go.Proofs.YtalolopngekgbaaDoorW.PrintWords Go.Proofs.YtalolopngekgbaaDoorW.PrintLast Go.Proofs.YtalolopngekgbaaDoorW.PrintMore

/-! ### how much is wanted -/
def sz2 (vs : List ByteArray) : Nat := (vs.map fun v => v.size + 2).sum
theorem sz2_cons (v : ByteArray) (vs : List ByteArray) : sz2 (v :: vs) = v.size + 2 + sz2 vs := by simp [sz2]
theorem sz2_append (a b : List ByteArray) : sz2 (a ++ b) = sz2 a + sz2 b := by simp [sz2]
theorem joinS_sz : ∀ vs : List ByteArray, vs ≠ [] → (joinS vs).size + 2 = sz2 vs
  | [], h => absurd rfl h
  | [x], _ => by
    rw [show joinS [x] = x from by have := joinS_snoc [] x; rw [if_pos rfl] at this; exact this, sz2_cons]
    simp [sz2]
  | x :: y :: r, _ => by
    have ih := joinS_sz (y :: r) (by simp)
    rw [sz2_cons, ← ih]
    have h1 : (joinS (x :: y :: r)).size = (Lib.join ((x :: y :: r).map (·.data.toList)) sepS.data.toList).length := by show (List.toArray _).size = _; rw [List.size_toArray]
    have h2 : (joinS (y :: r)).size = (Lib.join ((y :: r).map (·.data.toList)) sepS.data.toList).length := by show (List.toArray _).size = _; rw [List.size_toArray]
    rw [h1, h2, List.map_cons, List.map_cons, join_two, List.length_append, List.length_append]
    have e1 : x.data.toList.length = x.size := by rw [Array.length_toList]; rfl
    have e2 : sepS.data.toList.length = 2 := rfl
    rw [e1, e2]
    omega
def much (s : List S32) : Nat := (s.map fun x => x.f1.size + 1).sum
theorem much_append (a b : List S32) : much (a ++ b) = much a + much b := by simp [much]
theorem much_one (l : List S32) (n : ByteArray) : much (selOne l n) = sz2 (getB l n) - 1 := by
  unfold selOne
  by_cases h : (getB l n).isEmpty = true
  · rw [if_pos h, List.isEmpty_iff.1 h]; rfl
  · rw [if_neg h]
    have := joinS_sz (getB l n) (fun e => h (by rw [e]; rfl))
    simp [much]
    omega
theorem getB_one (f : S32) (n : ByteArray) : getB [f] n = if sameB f.f0 n = true then [f.f1] else [] := by rw [getB_cons]; rfl
theorem getB_more (l : List S32) (f : S32) (m : Nat) (n : ByteArray) : sz2 (getB ((l.take m ++ [f]) ++ l.drop m) n) = sz2 (getB l n) + (if sameB f.f0 n = true then f.f1.size + 2 else 0) := by
  have : getB l n = getB (l.take m) n ++ getB (l.drop m) n := by rw [← getB_append', List.take_append_drop]
  rw [this, getB_append', getB_append', sz2_append, sz2_append, sz2_append, getB_one]
  split
  · simp [sz2]; omega
  · simp [sz2]
theorem getB_others (l : List S32) (f : S32) (m : Nat) (n : ByteArray) (h : ¬ sameB f.f0 n = true) : getB ((l.take m ++ [f]) ++ l.drop m) n = getB l n := by
  have : getB l n = getB (l.take m) n ++ getB (l.drop m) n := by rw [← getB_append', List.take_append_drop]
  rw [this, getB_append', getB_append', getB_one, if_neg h, List.append_nil]
theorem much_le (l : List S32) (f : S32) (m : Nat) : ∀ ns : List ByteArray, much (selB ns l) ≤ much (selB ns ((l.take m ++ [f]) ++ l.drop m)) ∧ (ns.any (fun n => sameB n f.f0) = true → much (selB ns l) < much (selB ns ((l.take m ++ [f]) ++ l.drop m)))
  | [] => ⟨Nat.le_refl _, fun h => by simp at h⟩
  | n :: r => by
    obtain ⟨i1, i2⟩ := much_le l f m r
    have ha : ∀ c, selB (n :: r) c = selOne c n ++ selB r c := fun c => by simp [selB]
    have hs : sameB n f.f0 = sameB f.f0 n := by rw [Bool.eq_iff_iff, sameB_iff, sameB_iff]; exact ⟨Eq.symm, Eq.symm⟩
    have hg := getB_more l f m n
    rw [ha, ha, much_append, much_append, much_one, much_one, hg]
    by_cases hc : sameB f.f0 n = true
    · rw [if_pos hc]
      exact ⟨by omega, fun _ => by omega⟩
    · rw [if_neg hc]
      refine ⟨by omega, fun h => ?_⟩
      rw [List.any_cons, hs, Bool.eq_false_iff.2 hc, Bool.false_or] at h
      have := i2 h
      omega
theorem selB_congr {a b : List S32} : ∀ ns : List ByteArray, (∀ n ∈ ns, selOne a n = selOne b n) → selB ns a = selB ns b
  | [], _ => rfl
  | n :: r, h => by
    have ha : ∀ c, selB (n :: r) c = selOne c n ++ selB r c := fun c => by simp [selB]
    rw [ha, ha, h n (by simp), selB_congr r (fun m hm => h m (List.mem_cons_of_mem _ hm))]
theorem others_iff (l : List S32) (f : S32) (m : Nat) (ns : List ByteArray) : decide (selB ns ((l.take m ++ [f]) ++ l.drop m) = selB ns l) = !(ns.any (fun n => sameB n f.f0)) := by
  by_cases h : ns.any (fun n => sameB n f.f0) = true
  · rw [h, Bool.not_true, decide_eq_false_iff_not]
    intro e
    have := (much_le l f m ns).2 h
    rw [e] at this
    omega
  · have hf : ns.any (fun n => sameB n f.f0) = false := Bool.eq_false_iff.2 h
    rw [hf, Bool.not_false, decide_eq_true_eq]
    have : ∀ n ∈ ns, selOne ((l.take m ++ [f]) ++ l.drop m) n = selOne l n := fun n hn => by
      unfold selOne
      rw [getB_others l f m n (fun e => h (List.any_eq_true.2 ⟨n, hn, by rw [sameB_iff] at e ⊢; exact e.symm⟩))]
    exact selB_congr ns this
/-! ### small letters -/
def smallF (x : S32) : S32 := ⟨lowB x.f0, x.f1⟩
theorem getB_small (n : ByteArray) : ∀ l : List S32, getB (l.map smallF) n = getB l n
  | [] => rfl
  | x :: r => by
    have hs : sameB (smallF x).f0 n = sameB x.f0 n := by rw [Bool.eq_iff_iff, sameB_iff, sameB_iff]; show lowB (lowB x.f0) = _ ↔ _; rw [lowB_idem]
    rw [List.map_cons, getB_cons, getB_cons, hs, getB_small n r]
    rfl
theorem selB_small (ns : List ByteArray) (l : List S32) : selB ns (l.map smallF) = selB ns l := by
  have : selOne (l.map smallF) = selOne l := by funext n; unfold selOne; rw [getB_small]
  unfold selB
  rw [this]
theorem bulkL_small (l : List S32) : bulkL (l.map smallF) = bulkL l := by
  induction l with
  | nil => rfl
  | cons x r ih => rw [List.map_cons, bulkL_cons, bulkL_cons, ih]; show (lowB x.f0).size + _ + 1 + _ = _; rw [lowB_size]; rfl

/-! ### the law -/
theorem vo_l1 (ns : List ByteArray) (l : List S32) (hl : bulkL l ≤ 1073741824) (hn : sumS ns ≤ 1073741824) : ∀ (d i : Nat), l.length - i = d → i ≤ l.length → Ev (fun k => tollhouselaw16_VaryOthers.l1 k ns l (selB ns l) ((l.take i).map smallF) (i : Int)) true := by
  have hll := bulkL_len l
  have hnl := sumS_len ns
  have hsl := selB_len l ns
  intro d
  induction d with
  | zero =>
    intro i hd hi
    rw [List.take_of_length_le (by omega)]
    refine Ev.step (f := fun k => (vary_Same.f k (selB ns l) (selB ns l)).bind fun t305 => (if t305 = true then (if ((selB ns l).length : Int) ≤ (ns.length : Int) then ((tollhouselaw16_wakes.f k).bind fun t306 => (some t306)) else (some false)) else (some false))) (fun k => ?_) ?_
    · rw [tollhouselaw16_VaryOthers.l1, if_neg (by omega), select_ok _ _ (by rw [bulkL_small]; exact hl) hn, Option.bind_some, selB_small]
    · refine Ev.bind (same_ok _ _ (by omega)) ?_
      rw [decide_eq_true rfl]
      refine ev_ifL (fun _ => ?_) (fun h => absurd rfl h)
      refine ev_ifL (fun _ => ?_) (fun h => absurd (by omega) h)
      exact Ev.bind wakes16_ev (Ev.now _)
  | succ d ih =>
    intro i hd hi
    have hlt : i < l.length := by omega
    have hx := bulkL_mem (List.getElem_mem hlt)
    have hn' := ih (i + 1) (by omega) (by omega)
    rw [List.take_succ_eq_append_getElem hlt, List.map_append] at hn'
    refine Ev.step (f := fun k => tollhouselaw16_VaryOthers.l1 k ns l (selB ns l) ((l.take i).map smallF ++ [smallF l[i]]) ((i + 1 : Nat) : Int)) (fun k => ?_) hn'
    rw [tollhouselaw16_VaryOthers.l1, if_pos (by omega), if_pos (by omega), rd_at l i hlt]
    unfold text_Lower.f
    rw [if_pos (by omega), Option.bind_some, Option.bind_some, if_pos (by simp; omega), wrap1 i (by omega)]
    rfl
theorem vo_l0 (ns : List ByteArray) (l : List S32) (f : S32) (m : Nat) (hl : bulkL l + bulkL [f] ≤ 1073741824) (hn : sumS ns ≤ 1073741824) : ∀ (d i : Nat), ns.length - i = d → i ≤ ns.length →
    Ev (fun k => tollhouselaw16_VaryOthers.l0 k ns l ((l.take m ++ [f]) ++ l.drop m) ((ns.take i).any (fun n => sameB n f.f0)) (i : Int) f.f0 f.f1) true := by
  have hll := bulkL_len l
  have hnl := sumS_len ns
  have hsl := selB_len ((l.take m ++ [f]) ++ l.drop m) ns
  have hbm : bulkL ((l.take m ++ [f]) ++ l.drop m) = bulkL l + bulkL [f] := by
    have : bulkL l = bulkL (l.take m) + bulkL (l.drop m) := by rw [← bulkL_append, List.take_append_drop]
    rw [bulkL_append, bulkL_append, this]; omega
  have hff : f.f0.size + f.f1.size + 1 ≤ bulkL [f] := by rw [bulkL_cons]; omega
  intro d
  induction d with
  | zero =>
    intro i hd hi
    rw [show ns.take i = ns from List.take_of_length_le (by omega)]
    refine Ev.step (f := fun k => (vary_Same.f k (selB ns ((l.take m ++ [f]) ++ l.drop m)) (selB ns l)).bind fun t292 => (if (t292 == ns.any (fun n => sameB n f.f0)) = true then (some false) else (tollhouselaw16_VaryOthers.l1 k ns l (selB ns l) ([] : List S32) ((0 : Nat) : Int)))) (fun k => ?_) ?_
    · rw [tollhouselaw16_VaryOthers.l0, if_neg (by omega), select_ok ns l (by omega) hn, Option.bind_some, select_ok ns _ (by omega) hn, Option.bind_some]
      rfl
    · refine Ev.bind (same_ok _ _ (by omega)) ?_
      rw [others_iff]
      refine ev_ifL (fun h => ?_) (fun _ => ?_)
      · exfalso
        revert h
        cases ns.any (fun n => sameB n f.f0) <;> decide
      · have := vo_l1 ns l (by omega) hn l.length 0 rfl (Nat.zero_le _)
        simpa using this
  | succ d ih =>
    intro i hd hi
    have hlt : i < ns.length := by omega
    have hsm := sumS_mem (List.getElem_mem hlt)
    have hn' := ih (i + 1) (by omega) (by omega)
    rw [List.take_succ_eq_append_getElem hlt, List.any_append] at hn'
    refine Ev.step (f := fun k => tollhouselaw16_VaryOthers.l0 k ns l ((l.take m ++ [f]) ++ l.drop m) ((ns.take i).any (fun n => sameB n f.f0) || [ns[i]].any (fun n => sameB n f.f0)) ((i + 1 : Nat) : Int) f.f0 f.f1) (fun k => ?_) hn'
    rw [tollhouselaw16_VaryOthers.l0, if_pos (by omega), wrap1 i (by omega)]
    by_cases hb : (ns.take i).any (fun n => sameB n f.f0) = true
    · rw [if_pos hb, hb]; rfl
    · rw [if_neg hb, if_pos (by omega), rdS_at ns i hlt, textSame_ok _ _ (by omega) (by omega), Option.bind_some, Bool.eq_false_iff.2 hb]
      simp

theorem VaryOthers_row (ns : List ByteArray) (l : List S32) (a b : ByteArray) (at_ : Int) (hns : ns.length * 16 ≤ 140737488351232) (hny : ∀ x ∈ ns, x.size ≤ 140737488351232) (hl : l.length * 32 ≤ 140737488351232) (hy : ∀ x ∈ l, x.f0.size ≤ 140737488351232 ∧ x.f1.size ≤ 140737488351232) (wa : a.size ≤ 140737488351232) (wb : b.size ≤ 140737488351232) (hat : (Lit.int .u8 at_).wf = true) (hB : bulkSs ns + bulkFs l + (a.size + b.size + 3) ≤ 1048576) :
    ∃ k, tollhouselaw16_VaryOthers.f k ns l a b at_ = some true := by
  have hat2 : 0 ≤ at_ ∧ at_ ≤ 255 := by
    have h1 : IntKind.u8.min = 0 := by decide
    have h2 : IntKind.u8.max = 255 := by decide
    simp [Lit.wf, h1, h2] at hat
    omega
  obtain ⟨n, rfl⟩ : ∃ n : Nat, at_ = (n : Int) := ⟨at_.toNat, by omega⟩
  have hbl := bulkFs_L l
  have hss : sumS ns = bulkSs ns := rfl
  have hll := bulkL_len l
  have hm : Int.tmod (wrap64 (n : Int)) (wrap64 ((l.length : Int) + 1)) = ((n % (l.length + 1) : Nat) : Int) := by
    rw [show wrap64 (n : Int) = (n : Int) by unfold wrap64; omega, wrap1 l.length (by omega)]
    rfl
  have hml : n % (l.length + 1) ≤ l.length := by have := Nat.mod_lt n (show 0 < l.length + 1 by omega); omega
  have hwz : ¬ wrap64 ((l.length : Int) + 1) = 0 := by rw [wrap1 l.length (by omega)]; omega
  have hlb : l.length ≤ 1048576 := by omega
  have hf : bulkL [(⟨a, b⟩ : S32)] = a.size + b.size + 1 := by rw [bulkL_cons]; rfl
  have hv := vo_l0 ns l ⟨a, b⟩ (n % (l.length + 1)) (by omega) (by omega) ns.length 0 rfl (Nat.zero_le _)
  refine Ev.rounds (g := fun k => tollhouselaw16_VaryOthers.f k ns l a b (n : Int)) ?_
  refine Ev.congr (fun k => ?_) hv
  unfold tollhouselaw16_VaryOthers.f
  revert hm hml
  generalize n % (l.length + 1) = m
  intro hm hml
  rw [hm, if_neg hwz, if_pos (by omega), if_pos (by omega), Int.toNat_natCast]
  have h1 : (l.take m).length ≤ l.length := by rw [List.length_take]; omega
  have h2 : (l.drop m).length ≤ l.length := by rw [List.length_drop]; omega
  rw [Option.bind_some, if_pos (by rw [List.length_nil]; omega), Option.bind_some, Option.bind_some, List.nil_append, if_pos (by rw [List.length_singleton]; omega), Option.bind_some, Option.bind_some, if_pos (by rw [List.length_append, List.length_singleton]; omega)]
  rfl
end Go.Proofs.YtalolopngekgbaaDoor.P
