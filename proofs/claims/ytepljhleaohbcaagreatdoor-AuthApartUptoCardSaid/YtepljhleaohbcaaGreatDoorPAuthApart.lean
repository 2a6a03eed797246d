/- Plain law: AuthApart. -/
import Derived.Test.YtepljhleaohbcaaGreatDoorPTenC
import Derived.Test.YtepljhleaohbcaaGreatDoorPAuthOf
import Derived.Test.YtepljhleaohbcaaGreatDoorQtollhouselaw15AuthApart
set_option linter.unusedVariables false
set_option linter.unusedSimpArgs false
namespace Go.Proofs.YtepljhleaohbcaaGreatDoor.P
open Go.RowKit Go.Proofs.YtepljhleaohbcaaGreatDoorW.PrintWords Go.Proofs.YtepljhleaohbcaaGreatDoorW.PrintLast Go.Proofs.YtepljhleaohbcaaGreatDoorW.PrintMore

theorem ok32 : okU 32 = false := by decide +kernel
theorem tok_head {u : U8s} (h : tokMay u = true) : u.head? ≠ some 32 := by
  intro e
  unfold tokMay at h
  rw [may_eq okU ok61] at h
  unfold mayR at h
  cases u with
  | nil => cases e
  | cons b r =>
    obtain rfl : b = 32 := by simpa using e
    rw [List.takeWhile_cons_of_pos (by decide), List.all_cons, ok32, Bool.false_and, Bool.false_and] at h
    cases h
theorem tenMay_tok {x : S27} (h : tenMay x = true) : tokMay x.f0.data.toList = true := by
  cases ht : tokMay x.f0.data.toList with
  | true => rfl
  | false =>
    unfold tenMay at h
    rw [ht, Bool.false_and] at h
    unfold tenB inB at h
    simp at h
/-- A token's own field holds this token, and no other one. -/
theorem holds_of (tok t : ByteArray) (h : tokMay t.data.toList = true) : holdsB tok (ofF t) = (t.toList == tok.toList) := by
  unfold holdsB
  rw [getB_of, holdsV_one]
  have e : bearS ++ t = mkB (bearL ++ 32 :: t.data.toList) := by
    have := bear_mk t.data.toList
    rw [mkB_data] at this
    exact this
  rw [e, mkB_l, cred_of _ (tok_head h), if_pos h, mkB_data, Bool.true_and]
section
variable (l : List S27) (s t : Int) (l1 : List S48) (hl : l.length ≤ 1048576) (hT : ∀ x ∈ l, T2 x) (hv : ∀ x ∈ l, tenMay x = true) (hn : (l.map (·.f0)).Nodup) (hs : SmallF l1)
def heldN (i : Nat) : Nat := ((l.take i).filter fun x => holdsB x.f0 l1).length
include hn in
theorem tok_inj (i j : Nat) (hi : i < l.length) (hj : j < l.length) : (l[i].f0.toList == l[j].f0.toList) = ((i : Int) == (j : Int)) := by
  rw [Bool.eq_iff_iff, beq_iff_eq, beq_iff_eq]
  constructor
  · intro e
    have h := (List.getElem_inj (xs := l.map (·.f0)) (i := i) (j := j) (h₀ := by rw [List.length_map]; exact hi) (h₁ := by rw [List.length_map]; exact hj) hn).1 (by rw [List.getElem_map, List.getElem_map]; exact tlInj e)
    omega
  · intro e
    obtain rfl : i = j := by omega
    rfl
include hn in
theorem held_le : heldN l l1 l.length ≤ 1 := by
  unfold heldN
  rw [List.take_length]
  have hall : ∀ x ∈ l.filter (fun x => holdsB x.f0 l1), holdsB x.f0 l1 = true := fun x hx => (List.mem_filter.1 hx).2
  have hnd : ((l.filter fun x => holdsB x.f0 l1).map (·.f0)).Nodup := hn.sublist (List.Sublist.map _ List.filter_sublist)
  generalize l.filter (fun x => holdsB x.f0 l1) = q at hall hnd ⊢
  match q, hall, hnd with
  | [], _, _ => exact Nat.zero_le _
  | [_], _, _ => exact Nat.le_refl _
  | a :: b :: r, h, hd =>
    rw [List.map_cons, List.nodup_cons] at hd
    exact absurd (List.mem_map.2 ⟨b, by simp, (tlInj (holds_one (h a (by simp)) (h b (by simp)))).symm⟩) hd.1
theorem held_succ (i : Nat) (hi : i < l.length) : heldN l l1 (i + 1) = if holdsB l[i].f0 l1 = true then heldN l l1 i + 1 else heldN l l1 i := by
  unfold heldN
  rw [List.take_succ_eq_append_getElem hi, List.filter_append, List.length_append]
  split
  · rename_i h; rw [List.filter_cons_of_pos (p := fun x : S27 => holdsB x.f0 l1) h]; rfl
  · rename_i h; rw [List.filter_cons_of_neg (p := fun x : S27 => holdsB x.f0 l1) h]; rfl
theorem held_lt (i : Nat) : heldN l l1 i ≤ l.length := Nat.le_trans (List.length_filter_le _ _) (by rw [List.length_take]; omega)
include hl hT hv hn in
theorem apart_l1 (x5 : Int) (i : Nat) (hi : i < l.length) (hnext : Ev (fun k => tollhouselaw15_AuthApart.l0 k l1 x5 ((i + 1 : Nat) : Int) l s t) true) : ∀ (d j : Nat), l.length - j = d → j ≤ l.length → Ev (fun k => tollhouselaw15_AuthApart.l1 k l1 x5 (i : Int) (j : Int) l s t) true := by
  intro d
  induction d with
  | zero =>
    intro j hd hj
    exact Ev.step (fun k => by rw [tollhouselaw15_AuthApart.l1, if_neg (by omega), w64n i (by omega)]) hnext
  | succ d ih =>
    intro j hd hj
    have hlt : j < l.length := by omega
    have hti := hT _ (List.getElem_mem hi)
    have e1 : tollhouselaw15_of.f l[i].f0 = some (ofF l[i].f0) := of_ok _ (by have := hti.1; omega)
    refine Ev.step (f := fun k => (auth_Holds.f k l[j].f0 (ofF l[i].f0)).bind fun t338 => (if (t338 != ((i : Int) == (j : Int))) = true then (some false) else (tollhouselaw15_AuthApart.l1 k l1 x5 (i : Int) ((j + 1 : Nat) : Int) l s t))) (fun k => by rw [tollhouselaw15_AuthApart.l1, if_pos (by omega), if_pos (by omega), if_pos (by omega), if_pos (by omega), rdTen l i hi, rdTen l j hlt, e1, Option.bind_some, w64n j (by omega)]) ?_
    have e2 : holdsB l[j].f0 (ofF l[i].f0) = ((i : Int) == (j : Int)) := by rw [holds_of _ _ (tenMay_tok (hv _ (List.getElem_mem hi))), tok_inj l hn i j hi hlt]
    refine Ev.bind (holdsEv _ _ (SmallF.of _ hti.1) e2) ?_
    refine Ev.congr (fun k => if_neg (by rw [bne_self_eq_false]; decide)) (ih (j + 1) (by omega) (by omega))
include hl hT hv hn hs in
theorem apart_l0 : ∀ (d i : Nat), l.length - i = d → i ≤ l.length → Ev (fun k => tollhouselaw15_AuthApart.l0 k l1 ((heldN l l1 i : Nat) : Int) (i : Int) l s t) true := by
  intro d
  induction d with
  | zero =>
    intro i hd hi
    obtain rfl : i = l.length := by omega
    have hle := held_le l l1 hn
    exact Ev.step (f := fun k => (tollhouselaw15_wakes.f k).bind fun t330 => some t330) (fun k => by rw [tollhouselaw15_AuthApart.l0, if_neg (by omega), if_pos (by omega)]) (Ev.bind wakesEv15 (Ev.now _))
  | succ d ih =>
    intro i hd hi
    have hlt : i < l.length := by omega
    have hnx := ih (i + 1) (by omega) (by omega)
    have hlh := held_lt l l1 i
    rw [held_succ l l1 i hlt] at hnx
    refine Ev.step (f := fun k => (auth_Holds.f k l[i].f0 l1).bind fun t332 => (if t332 = true then (tollhouselaw15_AuthApart.j1 k l1 ((heldN l l1 i + 1 : Nat) : Int) (i : Int) l s t) else (tollhouselaw15_AuthApart.j1 k l1 ((heldN l l1 i : Nat) : Int) (i : Int) l s t))) (fun k => by rw [tollhouselaw15_AuthApart.l0, if_pos (by omega), if_pos (by omega), rdTen l i hlt, w64n (heldN l l1 i) (by omega)]) ?_
    refine Ev.bind (holdsEv _ _ hs rfl) ?_
    cases hh : holdsB l[i].f0 l1 with
    | true =>
      rw [hh, if_pos rfl] at hnx
      refine Ev.congr (fun k => if_pos rfl) (Ev.step (fun k => by rw [tollhouselaw15_AuthApart.j1]) ?_)
      exact apart_l1 l s t l1 hl hT hv hn _ i hlt hnx l.length 0 (by omega) (Nat.zero_le _)
    | false =>
      rw [hh, if_neg (by decide)] at hnx
      refine Ev.congr (fun k => if_neg (by decide)) (Ev.step (fun k => by rw [tollhouselaw15_AuthApart.j1]) ?_)
      exact apart_l1 l s t l1 hl hT hv hn _ i hlt hnx l.length 0 (by omega) (Nat.zero_le _)
end
theorem AuthApart_true (l : List S27) (s t : Int) (l1 : List S48) (hr0 : (∀ x ∈ l, TenLe x 1048576) ∧ l.length ≤ 1048576) (hl1 : l1.length * 32 ≤ 140737488351232) (hy1 : ∀ x ∈ l1, x.f0.size ≤ 140737488351232 ∧ x.f1.size ≤ 140737488351232) (hB : bulkFs l1 ≤ 1048576) : ∃ k, tollhouselaw15_AuthApart.f k l s t l1 = some true := by
  refine Ev.rounds (g := fun k => tollhouselaw15_AuthApart.f k l s t l1) ?_
  unfold tollhouselaw15_AuthApart.f
  refine Ev.congr (fun k => by rw [config_code l s t hr0.2 hr0.1, Option.bind_some]) ?_
  cases hc : (cfgOk l [] && cfgEnd l.length s t) with
  | false => exact Ev.congr (fun k => if_neg (by decide)) (Ev.bind wakesEv15 (Ev.now _))
  | true =>
    refine Ev.congr (fun k => if_pos rfl) ?_
    obtain ⟨h1, h2, _⟩ := (cfgOk_iff l []).1 (Bool.and_eq_true _ _ ▸ hc).1
    have := apart_l0 l s t l1 hr0.2 hr0.1 h1 h2 (small_of (by omega)) l.length 0 (by omega) (Nat.zero_le _)
    rw [show heldN l l1 0 = 0 from rfl] at this
    exact this
end Go.Proofs.YtepljhleaohbcaaGreatDoor.P
