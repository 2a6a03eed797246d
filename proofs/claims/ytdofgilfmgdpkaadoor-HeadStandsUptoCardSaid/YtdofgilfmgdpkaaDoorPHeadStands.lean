/- HeadStands: what is told stands, whatever comes. -/
import Derived.Test.YtdofgilfmgdpkaaDoorPParse
import Derived.Test.YtdofgilfmgdpkaaDoorPHead
import Derived.Test.YtdofgilfmgdpkaaDoorPwakes05
import Derived.Test.YtdofgilfmgdpkaaDoorFheadMay
import Derived.Test.YtdofgilfmgdpkaaDoorQtollhouselaw05HeadStands
set_option linter.unusedVariables false
set_option linter.unusedSimpArgs false
namespace Go.Proofs.YtdofgilfmgdpkaaDoor.P
open Go.RowKit Go.Proofs.YtdofgilfmgdpkaaDoorW.PrintWords Go.Proofs.YtdofgilfmgdpkaaDoorW.PrintLast Go.Proofs.YtdofgilfmgdpkaaDoorW.PrintMore

theorem wakes_evS : Ev (fun k => tollhouselaw05_wakes.f k) true := Ev.of (fun k => tollhouselaw05_wakes.mono k) wakes05_true
theorem refSame_evS (a b : List S45) (hl : a.length < 9223372036854775807) : Ev (fun k => tollhouseref05_Same.f k a b) (decide (a = b)) := ⟨a.length + 1, fun k hk => refSame_ok k a b hl (by omega)⟩
theorem ev_ifS {α : Type} {c : Prop} [Decidable c] {g f : Nat → Option α} {r : α} (h : c → Ev g r) (h' : ¬ c → Ev f r) : Ev (fun k => if c then g k else f k) r := by
  by_cases hc : c
  · exact Ev.congr (fun k => if_pos hc) (h hc)
  · exact Ev.congr (fun k => if_neg hc) (h' hc)

/-- What is told of a field that was read. -/
def goodF (x : S45) : Prop := tokenB x.f0 = true ∧ visB x.f1 = true ∧ trimB x.f1 = x.f1 ∧ x.f0.size ≤ 512 ∧ x.f1.size ≤ 512
def goodSt : PSt → Prop
  | .line l => l.length ≤ 32 ∧ ∀ x ∈ l, goodF x
  | .name nm l => l.length < 32 ∧ (∀ x ∈ l, goodF x) ∧ nm ≠ [] ∧ nm.length ≤ 512 ∧ nm.all tokI = true ∧ nm.all isByte = true
  | .value nm vl l => l.length < 32 ∧ (∀ x ∈ l, goodF x) ∧ nm ≠ [] ∧ nm.length + 1 + vl.length ≤ 512 ∧ nm.all tokI = true ∧ nm.all isByte = true ∧ vl.all shownI = true ∧ vl.all isByte = true
  | .ended nm vl l => l.length < 32 ∧ (∀ x ∈ l, goodF x) ∧ nm ≠ [] ∧ nm.length + 1 + vl.length ≤ 512 ∧ nm.all tokI = true ∧ nm.all isByte = true ∧ vl.all shownI = true ∧ vl.all isByte = true
  | .fin l => l.length ≤ 32 ∧ ∀ x ∈ l, goodF x
theorem isByte_range {x : Int} (h : isByte x = true) : 0 ≤ x ∧ x ≤ 255 := by
  unfold isByte at h
  simpa using h
theorem all_snoc (p : Int → Bool) (l : List Int) (c : Int) (h : l.all p = true) (hc : p c = true) : (l ++ [c]).all p = true := by
  rw [List.all_append, h]; simp [hc]
theorem bytesR {l : List Int} (h : l.all isByte = true) : bytesOf (strOfNums l) = l := bytes_strNums l fun x hx => isByte_range (List.all_eq_true.1 h x hx)
theorem dropW_idem (p : Int → Bool) : ∀ l : List Int, (l.dropWhile p).dropWhile p = l.dropWhile p
  | [] => rfl
  | x :: r => by
    by_cases hx : p x = true
    · rw [List.dropWhile_cons_of_pos hx]; exact dropW_idem p r
    · rw [List.dropWhile_cons_of_neg hx, List.dropWhile_cons_of_neg hx]
theorem dropW_len (p : Int → Bool) : ∀ l : List Int, (l.dropWhile p).length ≤ l.length
  | [] => Nat.le_refl _
  | x :: r => by
    by_cases hx : p x = true
    · rw [List.dropWhile_cons_of_pos hx]; have := dropW_len p r; simp; omega
    · rw [List.dropWhile_cons_of_neg hx]; exact Nat.le_refl _
theorem dropW_mem (p : Int → Bool) : ∀ (l : List Int) (y : Int), y ∈ l.dropWhile p → y ∈ l
  | [], _, h => h
  | x :: r, y, h => by
    by_cases hx : p x = true
    · rw [List.dropWhile_cons_of_pos hx] at h; exact List.mem_cons_of_mem _ (dropW_mem p r y h)
    · rwa [List.dropWhile_cons_of_neg hx] at h
theorem trimL_idem (l : List Int) : trimL (trimL l) = trimL l := by
  rw [trimR_from (trimL l)]
  have e : (trimL l).dropWhile blankI = trimL l := by
    unfold trimL
    exact dropW_idem _ _
  rw [e, trimR_from l, List.reverse_reverse, dropW_idem]
theorem trimL_len (l : List Int) : (trimL l).length ≤ l.length := by
  unfold trimL
  have h1 := dropW_len blankI (l.reverse.dropWhile blankI).reverse
  have h2 := dropW_len blankI l.reverse
  simp only [List.length_reverse] at h1 h2
  omega
theorem trimL_mem (l : List Int) (y : Int) (h : y ∈ trimL l) : y ∈ l := by
  unfold trimL at h
  have h1 := dropW_mem _ _ _ h
  rw [List.mem_reverse] at h1
  have h2 := dropW_mem _ _ _ h1
  rwa [List.mem_reverse] at h2
theorem good_field {nm vl : List Int} (h1 : nm ≠ []) (h2 : nm.length + 1 + vl.length ≤ 512) (h3 : nm.all tokI = true) (h4 : nm.all isByte = true) (h5 : vl.all shownI = true) (h6 : vl.all isByte = true) : goodF ⟨strOfNums nm, trimB (strOfNums vl)⟩ := by
  have hb := bytesR h4
  have ht := bytes_trimB (strOfNums vl)
  rw [bytesR h6] at ht
  have hl := trimL_len vl
  refine ⟨?_, ?_, ?_, by show (strOfNums nm).size ≤ 512; rw [str_size]; omega, ?_⟩
  · show tokenB (strOfNums nm) = true
    unfold tokenB
    rw [hb, h3, Bool.and_true]
    cases hd : (strOfNums nm).data.toList with
    | nil =>
      have : bytesOf (strOfNums nm) = [] := by unfold bytesOf; rw [hd]; rfl
      rw [hb] at this
      exact absurd this h1
    | cons x r => rfl
  · show visB (trimB (strOfNums vl)) = true
    unfold visB
    rw [ht]
    exact List.all_eq_true.2 fun x hx => List.all_eq_true.1 h5 x (trimL_mem vl x hx)
  · show trimB (trimB (strOfNums vl)) = trimB (strOfNums vl)
    apply bytes_inj
    rw [bytes_trimB, ht, trimL_idem]
  · show (trimB (strOfNums vl)).size ≤ 512
    rw [← bytes_len, ht]; omega
theorem step_good {s s' : PSt} {c : Int} (hs : goodSt s) (hc : isByte c = true) (h : pstep s c = .go s') : goodSt s' := by
  match s, hs with
  | .line l, hs =>
    rw [pstep] at h
    by_cases c13 : c = 13
    · rw [if_pos c13] at h; cases h; exact hs
    rw [if_neg c13] at h
    by_cases h3 : 32 ≤ l.length
    · rw [if_pos h3] at h; cases h
    rw [if_neg h3] at h
    by_cases ht : tokI c = true
    · rw [if_pos ht] at h; cases h; exact ⟨by omega, hs.2, by simp, by simp, by simp [ht], by simp [hc]⟩
    · rw [if_neg ht] at h; cases h
  | .name nm l, hs =>
    obtain ⟨a1, a2, a3, a4, a5, a6⟩ := hs
    rw [pstep] at h
    by_cases h1 : c ≠ 13 ∧ 512 < nm.length + 1
    · rw [if_pos h1] at h; cases h
    rw [if_neg h1] at h
    by_cases h2 : c = 58
    · rw [if_pos h2] at h; cases h
      exact ⟨a1, a2, a3, by have : ¬ 512 < nm.length + 1 := fun e => h1 ⟨by omega, e⟩; simp; omega, a5, a6, rfl, rfl⟩
    rw [if_neg h2] at h
    by_cases ht : tokI c = true
    · rw [if_pos ht] at h; cases h
      have hc13 : c ≠ 13 := fun e => by rw [e, tok13] at ht; exact absurd ht (by decide)
      exact ⟨a1, a2, by simp, by have : ¬ 512 < nm.length + 1 := fun e => h1 ⟨hc13, e⟩; simp; omega, all_snoc _ _ _ a5 ht, all_snoc _ _ _ a6 hc⟩
    · rw [if_neg ht] at h; cases h
  | .value nm vl l, hs =>
    obtain ⟨a1, a2, a3, a4, a5, a6, a7, a8⟩ := hs
    rw [pstep] at h
    by_cases c13 : c = 13
    · rw [if_pos c13] at h; cases h; exact ⟨a1, a2, a3, a4, a5, a6, a7, a8⟩
    rw [if_neg c13] at h
    by_cases h1 : 512 < nm.length + 1 + vl.length + 1
    · rw [if_pos h1] at h; cases h
    rw [if_neg h1] at h
    by_cases ht : shownI c = true
    · rw [if_pos ht] at h; cases h; exact ⟨a1, a2, a3, by simp; omega, a5, a6, all_snoc _ _ _ a7 ht, all_snoc _ _ _ a8 hc⟩
    · rw [if_neg ht] at h; cases h
  | .ended nm vl l, hs =>
    obtain ⟨a1, a2, a3, a4, a5, a6, a7, a8⟩ := hs
    rw [pstep] at h
    by_cases c10 : c = 10
    · rw [if_pos c10] at h; cases h
      refine ⟨by simp; omega, fun x hx => ?_⟩
      rcases List.mem_append.1 hx with hx | hx
      · exact a2 x hx
      · rw [List.mem_singleton.1 hx]; exact good_field a3 a4 a5 a6 a7 a8
    · rw [if_neg c10] at h; cases h
  | .fin l, hs =>
    rw [pstep] at h
    by_cases c10 : c = 10
    · rw [if_pos c10] at h; cases h
    · rw [if_neg c10] at h; cases h
theorem step_done {s : PSt} {c : Int} {l : List S45} (h : pstep s c = .done l) : s = .fin l := by
  match s with
  | .line _ => rw [pstep] at h; (repeat' split at h) <;> cases h
  | .name _ _ => rw [pstep] at h; (repeat' split at h) <;> cases h
  | .value _ _ _ => rw [pstep] at h; (repeat' split at h) <;> cases h
  | .ended _ _ _ => rw [pstep] at h; (repeat' split at h) <;> cases h
  | .fin _ => rw [pstep] at h; split at h <;> cases h; rfl
theorem step_err {s : PSt} {c e : Int} (h : pstep s c = .err e) : e = 20 ∨ e = 21 := by
  match s with
  | .line _ => rw [pstep] at h; (repeat' split at h) <;> (cases h; try simp)
  | .name _ _ => rw [pstep] at h; (repeat' split at h) <;> (cases h; try simp)
  | .value _ _ _ => rw [pstep] at h; (repeat' split at h) <;> (cases h; try simp)
  | .ended _ _ _ => rw [pstep] at h; (repeat' split at h) <;> (cases h; try simp)
  | .fin _ => rw [pstep] at h; (repeat' split at h) <;> (cases h; try simp)
/-- How a reading ends. -/
def EndsAs (b : List Int) (p : Nat) (R : PR) : Prop :=
  (R = ([], 0, 8) ∧ (b.length = 0 ∨ p + b.length ≤ 2048)) ∨ (R = ([], 0, 20)) ∨ (R = ([], 0, 21)) ∨ ∃ n : Nat, R.2.1 = (n : Int) ∧ p < n ∧ n ≤ p + b.length ∧ n ≤ 2048 ∧ R.2.2 = 0 ∧ R.1.length ≤ 32 ∧ ∀ x ∈ R.1, goodF x
theorem pm_ends : ∀ (b : List Int) (p : Nat) (s : PSt), goodSt s → b.all isByte = true → EndsAs b p (pm b p s)
  | [], p, s, _, _ => .inl ⟨pm_nil _ _, .inl rfl⟩
  | c :: r, p, s, hs, hb => by
    rw [List.all_cons, Bool.and_eq_true] at hb
    by_cases hq : 2048 ≤ p
    · exact .inr (.inr (.inl (pm_big _ _ _ _ hq)))
    cases hst : pstep s c with
    | go s' =>
      rw [pm_go hq hst]
      rcases pm_ends r (p + 1) s' (step_good hs hb.1 hst) hb.2 with ⟨h1, h2⟩ | h | h | ⟨n, h1, h2, h3, h4⟩
      · exact .inl ⟨h1, .inr (by rw [List.length_cons]; rcases h2 with h2 | h2 <;> omega)⟩
      · exact .inr (.inl h)
      · exact .inr (.inr (.inl h))
      · exact .inr (.inr (.inr ⟨n, h1, by omega, by rw [List.length_cons]; omega, h4⟩))
    | done l =>
      rw [pm_done hq hst]
      have := step_done hst
      subst this
      exact .inr (.inr (.inr ⟨p + 1, by simp, by omega, by rw [List.length_cons]; omega, by omega, rfl, hs.1, hs.2⟩))
    | err e =>
      rw [pm_err hq hst]
      rcases step_err hst with rfl | rfl
      · exact .inr (.inl rfl)
      · exact .inr (.inr (.inl rfl))
/-- What is told stands, whatever is behind. -/
theorem pm_stands : ∀ (a b : List Int) (p : Nat) (s : PSt), (pm a p s).2.2 ≠ 8 → pm (a ++ b) p s = pm a p s
  | [], b, p, s, h => by rw [pm_nil] at h; exact absurd rfl h
  | c :: r, b, p, s, h => by
    rw [List.cons_append]
    by_cases hq : 2048 ≤ p
    · rw [pm_big _ _ _ _ hq, pm_big _ _ _ _ hq]
    cases hst : pstep s c with
    | go s' => rw [pm_go hq hst] at h ⊢; rw [pm_go hq hst]; exact pm_stands r b (p + 1) s' h
    | done l => rw [pm_done hq hst, pm_done hq hst]
    | err e => rw [pm_err hq hst, pm_err hq hst]
/-- The end of an answer lies beyond each beginning of which more is wanted. -/
theorem pm_beyond : ∀ (a b : List Int) (p : Nat) (s : PSt), goodSt s → (a ++ b).all isByte = true → (pm a p s).2.2 = 8 → (pm (a ++ b) p s).2.2 = 0 → (p + a.length : Int) < (pm (a ++ b) p s).2.1
  | [], b, p, s, hs, hb, _, h => by
    rw [List.nil_append] at hb h ⊢
    rcases pm_ends b p s hs hb with ⟨h1, _⟩ | h1 | h1 | ⟨n, h1, h2, _⟩
    · rw [h1] at h; cases h
    · rw [h1] at h; cases h
    · rw [h1] at h; cases h
    · rw [h1]; simp; omega
  | c :: r, b, p, s, hs, hb, h8, h => by
    rw [List.cons_append] at hb h ⊢
    rw [List.all_cons, Bool.and_eq_true] at hb
    by_cases hq : 2048 ≤ p
    · rw [pm_big _ _ _ _ hq] at h8; cases h8
    cases hst : pstep s c with
    | go s' =>
      rw [pm_go hq hst] at h8 h ⊢
      have := pm_beyond r b (p + 1) s' (step_good hs hb.1 hst) hb.2 h8 h
      rw [List.length_cons]
      push_cast at this ⊢
      omega
    | done l => rw [pm_done hq hst] at h8; cases h8
    | err e =>
      rw [pm_err hq hst] at h8
      rcases step_err hst with rfl | rfl <;> cases h8
theorem start_good : goodSt (.line []) := ⟨by simp, fun x hx => by cases hx⟩
theorem wf_byteS {x : Int} (h : (Lit.int .u8 x).wf = true) : isByte x = true := by
  have h2 : 0 ≤ x ∧ x ≤ 255 := by
    have h1 : IntKind.u8.min = 0 := by decide
    have h2 : IntKind.u8.max = 255 := by decide
    simp [Lit.wf, h1, h2] at h
    omega
  unfold isByte
  simp [h2.1, h2.2]

section
variable (b q : List Int) (at_ : Int) (hb : b.all isByte = true) (hq : q.all isByte = true) (hbl : b.length ≤ 1048576) (hql : q.length ≤ 1048576) (hat : 0 ≤ at_ ∧ at_ ≤ 65535)
include hb hbl hat in
theorem hs_j3 (h0 : (parseB b).1.length ≤ 32) : Ev (fun k => tollhouselaw05_HeadStands.j3 k b at_ (parseB b).1 (parseB b).2.1 (parseB b).2.2 false) true := by
  have hw1 : wrap64 ((b.length : Int) + 1) = (b.length : Int) + 1 := by unfold wrap64; omega
  have hw2 : wrap64 at_ = at_ := by unfold wrap64; omega
  have hm : 0 ≤ Int.tmod at_ ((b.length : Int) + 1) ∧ Int.tmod at_ ((b.length : Int) + 1) ≤ (b.length : Int) := by
    rw [Int.tmod_eq_emod_of_nonneg hat.1]
    have := Int.emod_lt_of_pos at_ (show 0 < (b.length : Int) + 1 by omega)
    exact ⟨Int.emod_nonneg _ (by omega), by omega⟩
  generalize hm' : Int.tmod at_ ((b.length : Int) + 1) = m at hm
  obtain ⟨n, rfl⟩ : ∃ n : Nat, m = (n : Int) := ⟨m.toNat, by omega⟩
  have htb : (b.take n).all isByte = true := List.all_eq_true.2 fun x hx => List.all_eq_true.1 hb x (List.mem_of_mem_take hx)
  have hp := parse_ok (b.take n) (by rw [List.length_take]; omega) htb
  refine Ev.step (f := fun k => if (parseB (b.take n)).2.2 = 8 then (if (parseB b).2.2 = 0 then (if (n : Int) < (parseB b).2.1 then ((tollhouselaw05_wakes.f k).bind fun t382 => (some t382)) else (some false)) else ((tollhouselaw05_wakes.f k).bind fun t383 => (some t383))) else (if (parseB (b.take n)).2.2 = (parseB b).2.2 then (if (parseB (b.take n)).2.1 = (parseB b).2.1 then ((tollhouseref05_Same.f k (parseB (b.take n)).1 (parseB b).1).bind fun t384 => (if t384 = true then ((tollhouselaw05_wakes.f k).bind fun t385 => (some t385)) else (some false))) else (some false)) else (some false))) (fun k => ?_) ?_
  · rw [tollhouselaw05_HeadStands.j3, if_neg (by decide), hw1, hw2, hm', if_neg (by omega), if_pos (by omega), if_pos (by omega), Int.toNat_natCast, hp]
    rfl
  · have hwk : Ev (fun k => (tollhouselaw05_wakes.f k).bind fun t => some t) true := Ev.bind wakes_evS (Ev.now _)
    refine ev_ifS (fun h8 => ev_ifS (fun h9 => ev_ifS (fun _ => hwk) (fun h => ?_)) (fun _ => hwk)) (fun h8 => ?_)
    · exfalso
      apply h
      have := pm_beyond (b.take n) (b.drop n) 0 (.line []) start_good (by rw [List.take_append_drop]; exact hb) h8 (by rw [List.take_append_drop]; exact h9)
      rw [List.take_append_drop, List.length_take, Nat.min_eq_left (by omega)] at this
      simpa [parseB] using this
    · have e : parseB b = parseB (b.take n) := by
        have := pm_stands (b.take n) (b.drop n) 0 (.line []) h8
        rw [List.take_append_drop] at this
        exact this
      rw [e]
      refine ev_ifS (fun _ => ev_ifS (fun _ => ?_) (fun h => absurd rfl h)) (fun h => absurd rfl h)
      refine Ev.bind (refSame_evS _ _ (by rw [← e]; omega)) ?_
      rw [decide_eq_true rfl]
      exact ev_ifS (fun _ => hwk) (fun h => absurd rfl h)
include hb hq hbl hql hat in
theorem hs_l0 (h0 : (parseB b).1.length ≤ 32) (hg : ∀ x ∈ (parseB b).1, goodF x) : ∀ (d i : Nat), (parseB b).1.length - i = d → i ≤ (parseB b).1.length → Ev (fun k => tollhouselaw05_HeadStands.l0 k b q at_ (parseB b).1 (parseB b).2.1 (parseB b).2.2 (i : Int)) true := by
  intro d
  induction d with
  | zero =>
    intro i hd hi
    have hp := parse_ok (b ++ q) (by rw [List.length_append]; omega) (by rw [List.all_append, hb, hq]; rfl)
    refine Ev.step (f := fun k => if (parseB b).2.2 = 8 then (tollhouselaw05_HeadStands.j3 k b at_ (parseB b).1 (parseB b).2.1 (parseB b).2.2 false) else (if (parseB (b ++ q)).2.2 = (parseB b).2.2 then (if (parseB (b ++ q)).2.1 = (parseB b).2.1 then ((tollhouseref05_Same.f k (parseB b).1 (parseB (b ++ q)).1).bind fun t375 => (tollhouselaw05_HeadStands.j3 k b at_ (parseB b).1 (parseB b).2.1 (parseB b).2.2 (!t375))) else (tollhouselaw05_HeadStands.j3 k b at_ (parseB b).1 (parseB b).2.1 (parseB b).2.2 true)) else (tollhouselaw05_HeadStands.j3 k b at_ (parseB b).1 (parseB b).2.1 (parseB b).2.2 true))) (fun k => ?_) ?_
    · rw [tollhouselaw05_HeadStands.l0, if_neg (by omega), if_pos (by simp; omega), List.nil_append, Option.bind_some, if_pos (by omega), hp]
      rfl
    · have h3 := hs_j3 b at_ hb hbl hat h0
      refine ev_ifS (fun _ => h3) (fun h8 => ?_)
      have e : parseB (b ++ q) = parseB b := pm_stands b q 0 (.line []) h8
      rw [e]
      refine ev_ifS (fun _ => ev_ifS (fun _ => ?_) (fun h => absurd rfl h)) (fun h => absurd rfl h)
      refine Ev.bind (refSame_evS _ _ (by omega)) ?_
      rw [decide_eq_true rfl]
      exact h3
  | succ d ih =>
    intro i hd hi
    have hlt : i < (parseB b).1.length := by omega
    obtain ⟨g1, g2, g3, g4, g5⟩ := hg _ (List.getElem_mem hlt)
    refine Ev.step (f := fun k => tollhouselaw05_HeadStands.l0 k b q at_ (parseB b).1 (parseB b).2.1 (parseB b).2.2 ((i + 1 : Nat) : Int)) (fun k => ?_) (ih (i + 1) (by omega) (by omega))
    rw [tollhouselaw05_HeadStands.l0, if_pos (by omega), if_pos (by omega), rd_at _ i hlt]
    generalize (parseB b).1[i] = x at g1 g2 g3 g4 g5
    have t1 : text_Token.f x.f0 = some true := by unfold text_Token.f; rw [if_pos (by omega)]; exact congrArg some g1
    have t2 : text_Visible.f x.f1 = some true := by unfold text_Visible.f; rw [if_pos (by omega)]; exact congrArg some g2
    have t3 : text_Trim.f x.f1 = some x.f1 := by unfold text_Trim.f; rw [if_pos (by omega), g3]
    rw [t1, Option.bind_some, if_pos rfl, t2, Option.bind_some, if_pos rfl, t3, Option.bind_some, if_pos rfl, w64n i (by omega)]
include hb hq hbl hql hat in
theorem HeadStands_true : Ev (fun k => tollhouselaw05_HeadStands.f k b q at_) true := by
  have he : EndsAs b 0 (parseB b) := pm_ends b 0 (.line []) start_good hb
  have hall : (parseB b).1.length ≤ 32 ∧ (∀ x ∈ (parseB b).1, goodF x) ∧ ((parseB b).2.2 = 0 ∧ 2 ≤ (parseB b).2.1 ∧ (parseB b).2.1 ≤ (b.length : Int) ∧ (parseB b).2.1 ≤ 2048 ∨ (parseB b).1 = [] ∧ (parseB b).2.1 = 0 ∧ ((parseB b).2.2 = 8 ∧ (b.length : Int) ≤ 2048 ∨ (parseB b).2.2 = 20 ∨ (parseB b).2.2 = 21)) := by
    rcases he with ⟨h1, h2⟩ | h1 | h1 | ⟨n, h1, h2, h3, h4, h5, h6, h7⟩
    · rw [h1]; exact ⟨by simp, (fun x hx => by cases hx), .inr ⟨rfl, rfl, .inl ⟨rfl, by rcases h2 with h2 | h2 <;> omega⟩⟩⟩
    · rw [h1]; exact ⟨by simp, (fun x hx => by cases hx), .inr ⟨rfl, rfl, .inr (.inl rfl)⟩⟩
    · rw [h1]; exact ⟨by simp, (fun x hx => by cases hx), .inr ⟨rfl, rfl, .inr (.inr rfl)⟩⟩
    · refine ⟨h6, h7, .inl ⟨h5, ?_, by omega, by omega⟩⟩
      -- one byte tells nothing
      rcases Nat.lt_or_ge 1 n with hn | hn
      · omega
      · exfalso
        obtain rfl : n = 1 := by omega
        have hb1 : pm (b.take 1) 0 (.line []) = ([], 0, 8) ∨ (pm (b.take 1) 0 (.line [])).2.2 ≠ 8 ∧ (pm (b.take 1) 0 (.line [])).2.2 ≠ 0 := by
          match b, h3 with
          | c :: r, _ =>
            rw [List.take_succ_cons, List.take_zero]
            cases hst : pstep (.line []) c with
            | go s' => rw [pm_go (by omega) hst, pm_nil]; exact .inl rfl
            | done l => have := step_done hst; cases this
            | err e => rw [pm_err (by omega) hst]; rcases step_err hst with rfl | rfl <;> exact .inr ⟨by decide, by decide⟩
        rcases hb1 with hb1 | ⟨hb1, hb2⟩
        · have := pm_beyond (b.take 1) (b.drop 1) 0 (.line []) start_good (by rw [List.take_append_drop]; exact hb) (by rw [hb1]) (by rw [List.take_append_drop]; exact h5)
          rw [List.take_append_drop, List.length_take] at this
          unfold parseB at h1
          rw [h1] at this
          omega
        · have := pm_stands (b.take 1) (b.drop 1) 0 (.line []) hb1
          rw [List.take_append_drop] at this
          rw [← this] at hb2
          exact hb2 h5
  obtain ⟨h0, hg, hcase⟩ := hall
  have hl0 := hs_l0 b q at_ hb hq hbl hql hat h0 hg _ 0 rfl (Nat.zero_le _)
  have j1 : Ev (fun k => tollhouselaw05_HeadStands.j1 k b q at_ (parseB b).1 (parseB b).2.1 (parseB b).2.2 false) true := Ev.step (f := fun k => tollhouselaw05_HeadStands.l0 k b q at_ (parseB b).1 (parseB b).2.1 (parseB b).2.2 ((0 : Nat) : Int)) (fun k => by rw [tollhouselaw05_HeadStands.j1, if_neg (by decide)]; rfl) hl0
  have j0 : Ev (fun k => tollhouselaw05_HeadStands.j0 k b q at_ (parseB b).1 (parseB b).2.1 (parseB b).2.2 false) true := by
    refine Ev.step (f := fun k => tollhouselaw05_HeadStands.j1 k b q at_ (parseB b).1 (parseB b).2.1 (parseB b).2.2 false) (fun k => ?_) j1
    rw [tollhouselaw05_HeadStands.j0, if_neg (by decide)]
    rcases hcase with ⟨a1, a2, a3, a4⟩ | ⟨a1, a2, a3⟩
    · rw [if_pos a1, if_neg (by omega), if_neg (by omega), if_neg (by omega), if_neg (by omega), if_neg (by omega)]
    · rw [if_neg (by omega)]
      rcases a3 with ⟨a3, a4⟩ | a3 | a3
      · rw [if_pos a3, decide_eq_false (by omega)]
      · rw [if_neg (by omega)]
      · rw [if_neg (by omega)]
  refine Ev.congr (f := fun k => tollhouselaw05_HeadStands.j0 k b q at_ (parseB b).1 (parseB b).2.1 (parseB b).2.2 false) (fun k => ?_) j0
  unfold tollhouselaw05_HeadStands.f
  rw [parse_ok b (by omega) hb, Option.bind_some]
  rcases hcase with ⟨a1, a2, a3, a4⟩ | ⟨a1, a2, a3⟩
  · rw [if_pos a1]
  · rw [if_neg (by omega), if_neg (by rw [a1]; simp), if_pos a2]
    rcases a3 with ⟨a3, a4⟩ | a3 | a3
    · rw [if_pos a3]
    · rw [if_neg (by omega), if_pos a3]
    · rw [if_neg (by omega), if_neg (by omega), a3]; rfl
end
theorem HeadStands_row (b q : List Int) (at_ : Int) (hbl : b.length * 1 ≤ 140737488351232) (hbx : ∀ x ∈ b, (Lit.int .u8 x).wf = true) (hql : q.length * 1 ≤ 140737488351232) (hqx : ∀ x ∈ q, (Lit.int .u8 x).wf = true) (hat : (Lit.int .u16 at_).wf = true) (hB : b.length + q.length ≤ 1048576) :
    ∃ k, tollhouselaw05_HeadStands.f k b q at_ = some true := by
  have hat2 : 0 ≤ at_ ∧ at_ ≤ 65535 := by
    have h1 : IntKind.u16.min = 0 := by decide
    have h2 : IntKind.u16.max = 65535 := by decide
    simp [Lit.wf, h1, h2] at hat
    omega
  exact Ev.rounds (HeadStands_true b q at_ (List.all_eq_true.2 fun x hx => wf_byteS (hbx x hx)) (List.all_eq_true.2 fun x hx => wf_byteS (hqx x hx)) (by omega) (by omega) hat2)
end Go.Proofs.YtdofgilfmgdpkaaDoor.P
