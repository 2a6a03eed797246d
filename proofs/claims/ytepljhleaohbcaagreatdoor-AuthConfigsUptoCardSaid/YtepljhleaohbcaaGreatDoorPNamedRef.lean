/- The document's names are the program's. -/
import Derived.Test.YtepljhleaohbcaaGreatDoorPNamed
set_option linter.unusedVariables false
set_option linter.unusedSimpArgs false
namespace Go.Proofs.YtepljhleaohbcaaGreatDoor.P
open Go.RowKit Go.Proofs.YtepljhleaohbcaaGreatDoorW.PrintWords Go.Proofs.YtepljhleaohbcaaGreatDoorW.PrintLast Go.Proofs.YtepljhleaohbcaaGreatDoorW.PrintMore

theorem named_l1 (s : U8s) (ls : List U8s) (o : Bool) (i : Nat) (hi : i < ls.length) (hx : (ls[i]'hi).length ≤ 1048576) (hn : ls.length ≤ 1073741824) (r : Bool)
    (hr : (ls[i]'hi) ≠ [] → Ev (fun k => tollhouseref10_Named.l0 k (mkB s) (ls.map mkB) (o && refOct (ls[i]'hi)) ((i + 1 : Nat) : Int)) r) : ∀ (d j : Nat), (ls[i]'hi).length - j = d → j ≤ (ls[i]'hi).length →
    Ev (fun k => tollhouseref10_Named.l1 k (mkB s) (ls.map mkB) o (i : Int) (j : Int)) ((((ls[i]'hi).drop j).all fun b => labelI (b.toNat : Int)) && (!(ls[i]'hi).isEmpty && r)) := by
  have hrd := rd_map ls i hi
  have hml : (ls.map mkB).length = ls.length := List.length_map ..
  generalize ls[i]'hi = x at hrd hx hr ⊢
  intro d
  induction d with
  | zero =>
    intro j hd hj
    rw [List.drop_eq_nil_of_le (by omega), List.all_nil, Bool.true_and]
    by_cases he : x = []
    · subst he
      exact Ev.step (f := fun _ => some false) (fun k => by rw [tollhouseref10_Named.l1, if_pos (by omega), if_pos (by omega), hrd, mkB_size, if_neg (by omega), mkB_toList, if_pos rfl]) (Ev.now _)
    · have hne : (!x.isEmpty) = true := by
        cases x with
        | nil => exact absurd rfl he
        | cons _ _ => rfl
      rw [hne, Bool.true_and]
      have h := hr he
      cases o with
      | true =>
        refine Ev.step (f := fun k => (tollhouseref10_octet.f k (mkB x)).bind fun t186 => tollhouseref10_Named.l0 k (mkB s) (ls.map mkB) t186 ((i + 1 : Nat) : Int)) (fun k => by rw [tollhouseref10_Named.l1, if_pos (by omega), if_pos (by omega), hrd, mkB_size, if_neg (by omega), mkB_toList, if_neg he, if_pos rfl, w64n i (by omega)]) ?_
        exact Ev.bind (octet_ref x hx) (by rw [Bool.true_and] at h; exact h)
      | false =>
        refine Ev.step (fun k => ?_) (by rw [Bool.false_and] at h; exact h)
        rw [tollhouseref10_Named.l1, if_pos (by omega), if_pos (by omega), hrd, mkB_size, if_neg (by omega), mkB_toList, if_neg he, if_neg (by decide), w64n i (by omega)]
  | succ d ih =>
    intro j hd hj
    have hlt : j < x.length := by omega
    have hb := bt_mk x j hlt
    have hbr := (x[j]).toNat_lt
    rw [allFrom_step _ x j hlt]
    have ih' := ih (j + 1) (by omega) (by omega)
    generalize ((x.drop (j + 1)).all fun b => labelI (b.toNat : Int)) = rest at ih' ⊢
    generalize x[j] = b at hb hbr ⊢
    cases hq : labelI (b.toNat : Int) with
    | true =>
      rw [Bool.true_and]
      refine Ev.step (fun k => ?_) ih'
      unfold labelI plainI at hq
      simp only [Bool.or_eq_true, Bool.and_eq_true, decide_eq_true_eq] at hq
      rw [tollhouseref10_Named.l1, if_pos (by omega), if_pos (by omega), hrd, mkB_size, if_pos (by omega), if_pos (by omega), hb, w64n j (by omega)]
      repeat' split
      all_goals first | rfl | (exfalso; omega)
    | false =>
      rw [Bool.false_and, Bool.false_and]
      refine Ev.step (f := fun _ => some false) (fun k => ?_) (Ev.now _)
      unfold labelI plainI at hq
      simp only [Bool.or_eq_false_iff, Bool.and_eq_false_iff, decide_eq_false_iff_not] at hq
      rw [tollhouseref10_Named.l1, if_pos (by omega), if_pos (by omega), hrd, mkB_size, if_pos (by omega), if_pos (by omega), hb]
      repeat' split
      all_goals first | rfl | (exfalso; omega)
/-- What the document answers behind its labels. -/
def namedR (s : U8s) (ls : List U8s) (o : Bool) : Bool := if numR (lastL ls) = true then (if ls.length = 4 then (if o = true then decide (s.length ≤ 64) else false) else false) else decide (s.length ≤ 64)
theorem namedRef_l0 (s : U8s) (ls : List U8s) (hne : ls ≠ []) (hs : ∀ x ∈ ls, x.length ≤ 1048576) (hn : ls.length ≤ 1073741824) : ∀ (d i : Nat) (o : Bool), ls.length - i = d → i ≤ ls.length →
    Ev (fun k => tollhouseref10_Named.l0 k (mkB s) (ls.map mkB) o (i : Int)) ((ls.drop i).all labOk && namedR s ls (o && (ls.drop i).all refOct)) := by
  obtain ⟨w1, w2⟩ := last_ok ls hne hn
  have hml : (ls.map mkB).length = ls.length := List.length_map ..
  have h0 : 0 < ls.length := List.length_pos_iff.2 hne
  intro d
  induction d with
  | zero =>
    intro i o hd hi
    rw [List.drop_eq_nil_of_le (by omega), List.all_nil, List.all_nil, Bool.true_and, Bool.and_true]
    refine Ev.step (f := fun k => (tollhouseref10_number.f k (mkB (lastL ls))).bind fun t181 => (if t181 = true then (if (ls.length : Int) = 4 then (if o = true then some (decide ((s.length : Int) ≤ 64)) else some false) else some false) else some (decide ((s.length : Int) ≤ 64)))) (fun k => ?_) ?_
    · rw [tollhouseref10_Named.l0, if_neg (by omega), w1, if_pos (by omega), if_pos (by omega), w2, mkB_size, hml]
    · refine Ev.bind (number_ok _ (hs _ (lastL_mem ls hne))) ?_
      unfold namedR
      have e64 : decide ((s.length : Int) ≤ 64) = decide (s.length ≤ 64) := by congr 1; rw [eq_iff_iff]; omega
      rw [e64]
      cases numR (lastL ls) with
      | true =>
        refine Ev.congr (fun k => if_pos rfl) ?_
        by_cases h4 : ls.length = 4
        · refine Ev.congr (fun k => if_pos (by omega)) ?_
          cases o with
          | true => exact Ev.congr (fun k => if_pos rfl) (by simp only [h4, if_true]; exact Ev.now _)
          | false => exact Ev.congr (fun k => if_neg (by decide)) (by simp only [h4, if_true, Bool.false_eq_true, if_false]; exact Ev.now _)
        · exact Ev.congr (fun k => if_neg (by omega)) (by simp only [h4, if_true, if_false]; exact Ev.now _)
      | false =>
        exact Ev.congr (fun k => if_neg (by decide)) (by simp only [Bool.false_eq_true, if_false]; exact Ev.now _)
  | succ d ih =>
    intro i o hd hi
    have hlt : i < ls.length := by omega
    have hx := hs _ (List.getElem_mem hlt)
    have h1 := named_l1 s ls o i hlt hx hn _ (fun _ => ih (i + 1) (o && refOct ls[i]) (by omega) (by omega)) ls[i].length 0 (by omega) (Nat.zero_le _)
    rw [List.drop_zero] at h1
    refine Ev.step (f := fun k => tollhouseref10_Named.l1 k (mkB s) (ls.map mkB) o (i : Int) ((0 : Nat) : Int)) (fun k => by rw [tollhouseref10_Named.l0, if_pos (by omega)]; rfl) ?_
    rw [List.drop_eq_getElem_cons hlt, List.all_cons, List.all_cons]
    have e : (labOk ls[i] && (ls.drop (i + 1)).all labOk && namedR s ls (o && (refOct ls[i] && (ls.drop (i + 1)).all refOct))) = ((ls[i].all fun b => labelI (b.toNat : Int)) && (!ls[i].isEmpty && ((ls.drop (i + 1)).all labOk && namedR s ls (o && refOct ls[i] && (ls.drop (i + 1)).all refOct)))) := by
      unfold labOk
      rw [Bool.and_assoc o]
      cases (ls[i].all fun b => labelI (b.toNat : Int)) <;> cases ls[i].isEmpty <;> simp
    rw [e]
    exact h1
theorem namedRef_ok (s : U8s) (hl : s.length ≤ 1048576) : Ev (fun k => tollhouseref10_Named.f k (mkB s)) (namedL s) := by
  unfold tollhouseref10_Named.f
  refine Ev.bind (labels_ok s hl) ?_
  have hlen := spn_len_le 46 s.length s
  have h := namedRef_l0 s (labsL s) (labsL_ne s) (fun x hx => by have := labsL_le s x hx; omega) (by show (spn 46 s.length s).length ≤ _; omega) (labsL s).length 0 true (by omega) (Nat.zero_le _)
  rw [List.drop_zero, Bool.true_and] at h
  have e : ((labsL s).all labOk && namedR s (labsL s) ((labsL s).all refOct)) = namedL s := by
    unfold namedL namedR quadL
    cases hlab : (labsL s).all labOk with
    | false => rfl
    | true =>
      have hlast := List.all_eq_true.1 hlab _ (lastL_mem _ (labsL_ne s))
      rw [num_eq _ hlast, show ((labsL s).all refOct) = (labsL s).all octetL by congr 1; funext x; exact oct_eq x]
      cases numL (lastL (labsL s)) <;> by_cases h4 : (labsL s).length = 4 <;> cases (labsL s).all octetL <;> cases decide (s.length ≤ 64) <;> simp [h4]
  rw [e] at h
  exact h
end Go.Proofs.YtepljhleaohbcaaGreatDoor.P
