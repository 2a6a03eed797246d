/- What a host's name is, plain: the document's answer. -/
import Derived.Test.YtepljhleaohbcaaGreatDoorPNamedP
import Derived.Test.YtepljhleaohbcaaGreatDoorQRef10
set_option linter.unusedVariables false
set_option linter.unusedSimpArgs false
namespace Go.Proofs.YtepljhleaohbcaaGreatDoor.P
open Go.RowKit Go.Proofs.YtepljhleaohbcaaGreatDoorW.PrintWords Go.Proofs.YtepljhleaohbcaaGreatDoorW.PrintLast Go.Proofs.YtepljhleaohbcaaGreatDoorW.PrintMore

/-! ### the document's: labels -/
theorem labels_l0 (s : U8s) (hl : s.length ≤ 1048576) : ∀ (d i fr : Nat) (acc : List ByteArray), s.length - i = d → i ≤ s.length → fr ≤ i → acc.length ≤ fr → (46 : UInt8) ∉ (s.take i).drop fr →
    Ev (fun k => tollhouseref10_labels.l0 k (mkB s) acc (fr : Int) (i : Int)) (acc ++ (spn 46 (s.drop fr).length (s.drop fr)).map mkB) := by
  intro d
  induction d with
  | zero =>
    intro i fr acc hd hi hf ha hno
    obtain rfl : i = s.length := by omega
    rw [List.take_of_length_le (Nat.le_refl _)] at hno
    rw [spn_none 46 _ _ hno]
    refine Ev.step (f := fun k => tollhouseref10_labels.l0 k (mkB s) (acc ++ [mkB (s.drop fr)]) ((s.length + 1 : Nat) : Int) ((s.length + 1 : Nat) : Int)) (fun k => ?_) ?_
    · rw [tollhouseref10_labels.l0, mkB_size, if_pos (by omega), if_pos rfl, if_pos (by omega), if_pos (by omega), if_pos (by omega), w64n s.length (by omega), Int.toNat_natCast, Int.toNat_natCast, ext_mk, List.take_of_length_le (Nat.le_refl _)]
    · exact Ev.step (f := fun _ => some (acc ++ [mkB (s.drop fr)])) (fun k => by rw [tollhouseref10_labels.l0, mkB_size, if_neg (by omega)]) (Ev.now _)
  | succ d ih =>
    intro i fr acc hd hi hf ha hno
    have hlt : i < s.length := by omega
    have hb := bt_mk s i hlt
    have htk : (s.take (i + 1)).drop fr = (s.take i).drop fr ++ [s[i]] := by
      rw [List.take_succ_eq_append_getElem hlt, List.drop_append_of_le_length (by rw [List.length_take]; omega)]
    by_cases h46 : s[i] = 46
    · have hsplit : s.drop fr = (s.take i).drop fr ++ 46 :: s.drop (i + 1) := by
        have e1 : s.drop fr = (s.take i).drop fr ++ s.drop i := by
          conv => lhs; rw [← List.take_append_drop i s]
          rw [List.drop_append_of_le_length (by rw [List.length_take]; omega)]
        rw [e1, List.drop_eq_getElem_cons hlt, h46]
      have hlen : (s.drop fr).length = (s.length - fr - 1) + 1 := by rw [List.length_drop]; omega
      rw [hlen]
      conv => rhs; rw [hsplit]
      rw [spn_app 46 (s.length - fr - 1) _ _ hno, spn_more 46 (s.length - fr - 1) (s.drop (i + 1)).length (s.drop (i + 1)) (Nat.le_trans List.count_le_length (by rw [List.length_drop]; omega)) List.count_le_length]
      have := ih (i + 1) (i + 1) (acc ++ [mkB ((s.take i).drop fr)]) (by omega) (by omega) (Nat.le_refl _) (by rw [List.length_append]; simp only [List.length_cons, List.length_nil]; omega) (by rw [List.drop_eq_nil_of_le (by rw [List.length_take]; omega)]; simp)
      rw [List.map_cons, List.append_cons]
      refine Ev.step (fun k => ?_) this
      rw [tollhouseref10_labels.l0, mkB_size, if_pos (by omega), if_neg (by omega), if_pos (by omega), if_pos (by omega), hb, if_pos (by rw [h46]; rfl), if_pos (by omega), if_pos (by omega), if_pos (by omega), w64n i (by omega), Int.toNat_natCast, Int.toNat_natCast, ext_mk]
    · have := ih (i + 1) fr acc (by omega) (by omega) (by omega) ha (by rw [htk, List.mem_append]; simp only [List.mem_singleton]; exact fun e => e.elim hno (fun e => h46 e.symm))
      refine Ev.step (fun k => ?_) this
      rw [tollhouseref10_labels.l0, mkB_size, if_pos (by omega), if_neg (by omega), if_pos (by omega), if_pos (by omega), hb, if_neg (fun e => h46 (UInt8.toNat_inj.1 (by have : ((s[i].toNat : Nat) : Int) = ((46 : UInt8).toNat : Int) := e; omega))), w64n i (by omega)]
theorem labels_ok (s : U8s) (hl : s.length ≤ 1048576) : Ev (fun k => tollhouseref10_labels.f k (mkB s)) ((labsL s).map mkB) := by
  have h := labels_l0 s hl s.length 0 0 [] (by omega) (Nat.zero_le _) (Nat.le_refl _) (Nat.le_refl _) (by simp)
  rw [List.drop_zero, List.nil_append] at h
  exact h

/-! ### the document's: numbers -/
theorem allFrom_step (p : UInt8 → Bool) (x : U8s) (i : Nat) (h : i < x.length) : (x.drop i).all p = (p x[i] && (x.drop (i + 1)).all p) := by
  rw [List.drop_eq_getElem_cons h, List.all_cons]
theorem number_l0 (x : U8s) (hl : x.length ≤ 1048576) (f : Nat) (hf : f = 0 ∨ f = 2) : ∀ (d i : Nat), x.length - i = d → i ≤ x.length →
    Ev (fun k => tollhouseref10_number.l0 k (mkB x) (f : Int) (i : Int)) ((x.drop i).all fun b => digitI (b.toNat : Int) || (decide (f ≠ 0) && (decide (97 ≤ (b.toNat : Int)) && decide ((b.toNat : Int) ≤ 102)))) := by
  intro d
  induction d with
  | zero =>
    intro i hd hi
    rw [List.drop_eq_nil_of_le (by omega), List.all_nil]
    exact Ev.step (f := fun _ => some true) (fun k => by rw [tollhouseref10_number.l0, mkB_size, if_neg (by omega)]) (Ev.now _)
  | succ d ih =>
    intro i hd hi
    have hlt : i < x.length := by omega
    have hb := bt_mk x i hlt
    have hr := (x[i]).toNat_lt
    rw [allFrom_step _ x i hlt]
    have ih' := ih (i + 1) (by omega) (by omega)
    generalize ((x.drop (i + 1)).all fun b => digitI (b.toNat : Int) || (decide (f ≠ 0) && (decide (97 ≤ (b.toNat : Int)) && decide ((b.toNat : Int) ≤ 102)))) = rest at ih' ⊢
    generalize x[i] = b at hb hr ⊢
    unfold digitI
    have stepT : ((decide (48 ≤ (b.toNat : Int)) && decide ((b.toNat : Int) ≤ 57)) || (decide (f ≠ 0) && (decide (97 ≤ (b.toNat : Int)) && decide ((b.toNat : Int) ≤ 102)))) = true ∨ ((decide (48 ≤ (b.toNat : Int)) && decide ((b.toNat : Int) ≤ 57)) || (decide (f ≠ 0) && (decide (97 ≤ (b.toNat : Int)) && decide ((b.toNat : Int) ≤ 102)))) = false := by
      cases ((decide (48 ≤ (b.toNat : Int)) && decide ((b.toNat : Int) ≤ 57)) || (decide (f ≠ 0) && (decide (97 ≤ (b.toNat : Int)) && decide ((b.toNat : Int) ≤ 102)))) <;> simp
    rcases stepT with q | q
    · rw [q, Bool.true_and]
      refine Ev.step (fun k => ?_) ih'
      simp only [Bool.or_eq_true, Bool.and_eq_true, decide_eq_true_eq] at q
      rw [tollhouseref10_number.l0, mkB_size, if_pos (by omega), if_pos (by omega), hb, w64n i (by omega)]
      repeat' split
      all_goals first | rfl | (exfalso; omega)
    · rw [q, Bool.false_and]
      refine Ev.step (f := fun _ => some false) (fun k => ?_) (Ev.now _)
      simp only [Bool.or_eq_false_iff, Bool.and_eq_false_iff, decide_eq_false_iff_not] at q
      rw [tollhouseref10_number.l0, mkB_size, if_pos (by omega), if_pos (by omega), hb, w64n i (by omega)]
      repeat' split
      all_goals first | rfl | (exfalso; omega)
theorem number_ok (x : U8s) (hl : x.length ≤ 1048576) : Ev (fun k => tollhouseref10_number.f k (mkB x)) (numR x) := by
  have key : ∀ b : Bool, b = is0x x → Ev (fun k => tollhouseref10_number.j0 k (mkB x) 0 b) (numR x) := by
    intro b hb
    unfold numR
    rw [← hb]
    cases b with
    | true =>
      have h2 := is0x_len hb.symm
      have h := number_l0 x hl 2 (.inr rfl) (x.length - 2) 2 rfl h2
      rw [if_pos rfl]
      refine Ev.step (f := fun k => tollhouseref10_number.j1 k (mkB x) 2) (fun k => by rw [tollhouseref10_number.j0, if_pos rfl]) (Ev.step (f := fun k => tollhouseref10_number.l0 k (mkB x) ((2 : Nat) : Int) ((2 : Nat) : Int)) (fun k => by rw [tollhouseref10_number.j1]; rfl) ?_)
      exact h
    | false =>
      have h := number_l0 x hl 0 (.inl rfl) x.length 0 rfl (Nat.zero_le _)
      rw [if_neg (by decide)]
      refine Ev.step (f := fun k => tollhouseref10_number.j1 k (mkB x) 0) (fun k => by rw [tollhouseref10_number.j0, if_neg (by decide)]) (Ev.step (f := fun k => tollhouseref10_number.l0 k (mkB x) ((0 : Nat) : Int) ((0 : Nat) : Int)) (fun k => by rw [tollhouseref10_number.j1]; rfl) ?_)
      rw [List.drop_zero] at h
      have e : (x.all fun b => digitI (b.toNat : Int) || (decide ((0 : Nat) ≠ 0) && (decide (97 ≤ (b.toNat : Int)) && decide ((b.toNat : Int) ≤ 102)))) = x.all fun b => digitI (b.toNat : Int) := by
        congr 1; funext b; simp
      rw [e] at h
      exact h
  unfold tollhouseref10_number.f
  by_cases h2 : 2 ≤ x.length
  · refine Ev.congr (fun k => by rw [mkB_size, if_pos (by omega), if_pos (by decide), if_pos (by omega)]) ?_
    refine key _ ?_
    rw [ext_mk, mkB_toList, List.drop_zero]; rfl
  · refine Ev.congr (fun k => by rw [mkB_size, if_neg (by omega)]) ?_
    refine key _ ?_
    cases hq : is0x x with
    | false => rfl
    | true => exact absurd (is0x_len hq) h2
theorem hex_fin : ∀ n : Fin 256, labelI ((n.val : Nat) : Int) = true → hexI ((n.val : Nat) : Int) = lowHexI ((n.val : Nat) : Int) := by decide +kernel
theorem num_eq (x : U8s) (h : labOk x = true) : numR x = numL x := by
  unfold numR numL
  split
  · have hall : ∀ b ∈ x.drop 2, lowHexI (b.toNat : Int) = hexI (b.toNat : Int) := fun b hb => by
      unfold labOk at h
      rw [Bool.and_eq_true, List.all_eq_true] at h
      exact (hex_fin ⟨b.toNat, b.toNat_lt⟩ (h.2 b (List.mem_of_mem_drop hb))).symm
    rw [Bool.eq_iff_iff, List.all_eq_true, List.all_eq_true]
    exact ⟨fun g b hb => by rw [← hall b hb]; exact g b hb, fun g b hb => by rw [hall b hb]; exact g b hb⟩
  · rfl

/-! ### the document's: a number from 0 to 255 -/
def octV : Nat → Int → U8s → Option Int
  | _, acc, [] => some acc
  | i, acc, b :: r => if digitI (b.toNat : Int) = true ∧ i < 3 then octV (i + 1) (10 * acc + ((b.toNat : Int) - 48)) r else none
def refOct (x : U8s) : Bool := match octV 0 0 x with
  | none => false
  | some v => !x.isEmpty && (decide (v ≤ 255) && (if x.head? = some 48 then decide (x.length = 1) else true))
theorem octet_l0 (x : U8s) (hl : x.length ≤ 1048576) (r : Int → Bool) (hr : ∀ v, Ev (fun k => tollhouseref10_octet.l0 k (mkB x) v (x.length : Int)) (r v)) : ∀ (d i : Nat) (acc : Int), x.length - i = d → i ≤ x.length → 0 ≤ acc → acc < 10 ^ min i 3 → (3 < i → False) →
    Ev (fun k => tollhouseref10_octet.l0 k (mkB x) acc (i : Int)) (match octV i acc (x.drop i) with | none => false | some v => r v) := by
  intro d
  induction d with
  | zero =>
    intro i acc hd hi h0 h1 h3
    obtain rfl : i = x.length := by omega
    rw [List.drop_eq_nil_of_le (Nat.le_refl _), octV]
    exact hr acc
  | succ d ih =>
    intro i acc hd hi h0 h1 h3
    have hlt : i < x.length := by omega
    have hb := bt_mk x i hlt
    have hbr := (x[i]).toNat_lt
    rw [List.drop_eq_getElem_cons hlt, octV]
    by_cases hg : digitI (x[i].toNat : Int) = true ∧ i < 3
    · rw [if_pos hg]
      have hdg := hg.1
      unfold digitI at hdg
      rw [Bool.and_eq_true, decide_eq_true_eq, decide_eq_true_eq] at hdg
      have hp : acc < 1000 := by
        have : i = 0 ∨ i = 1 ∨ i = 2 := by omega
        rcases this with rfl | rfl | rfl <;> simp at h1 <;> omega
      have hnext : 10 * acc + ((x[i].toNat : Int) - 48) < 10 ^ min (i + 1) 3 := by
        have : i = 0 ∨ i = 1 ∨ i = 2 := by omega
        rcases this with rfl | rfl | rfl <;> simp at h1 ⊢ <;> omega
      have := ih (i + 1) (10 * acc + ((x[i].toNat : Int) - 48)) (by omega) (by omega) (by omega) hnext (by omega)
      refine Ev.step (fun k => ?_) this
      rw [tollhouseref10_octet.l0, mkB_size, if_pos (by omega), if_pos (by omega), hb, if_neg (by omega), if_neg (by omega), if_neg (by omega), w64n i (by omega), show wrap64 ((wrap64 (10 * acc)) + (((x[i].toNat : Int) - 48) % 256)) = 10 * acc + ((x[i].toNat : Int) - 48) by unfold wrap64; omega]
    · rw [if_neg hg]
      refine Ev.step (f := fun _ => some false) (fun k => ?_) (Ev.now _)
      rw [tollhouseref10_octet.l0, mkB_size, if_pos (by omega), if_pos (by omega), hb]
      unfold digitI at hg
      rw [Bool.and_eq_true, decide_eq_true_eq, decide_eq_true_eq] at hg
      repeat' split
      all_goals first | rfl | (exfalso; omega)
theorem octet_ref (x : U8s) (hl : x.length ≤ 1048576) : Ev (fun k => tollhouseref10_octet.f k (mkB x)) (refOct x) := by
  have h := octet_l0 x hl (fun v => !x.isEmpty && (decide (v ≤ 255) && (if x.head? = some 48 then decide (x.length = 1) else true))) (fun v => ?_) x.length 0 0 (by omega) (Nat.zero_le _) (Int.le_refl _) (by simp) (by omega)
  · rw [List.drop_zero] at h
    exact h
  · cases x with
    | nil => exact Ev.step (f := fun _ => some false) (fun k => by rw [tollhouseref10_octet.l0, mkB_size, if_neg (by simp), if_neg (by simp)]) (Ev.now _)
    | cons c t =>
      have hb : bt (mkB (c :: t)) 0 = (c.toNat : Int) := bt_mk (c :: t) 0 (by simp)
      refine Ev.step (f := fun _ => some (decide (v ≤ 255) && (if (c :: t).head? = some 48 then decide ((c :: t).length = 1) else true))) (fun k => ?_) (Ev.now _)
      rw [tollhouseref10_octet.l0, mkB_size, if_neg (by omega), if_pos (by simp only [List.length_cons]; omega)]
      by_cases hv : v ≤ 255
      · rw [if_pos hv, if_pos (by simp only [List.length_cons]; omega), hb, decide_eq_true hv, Bool.true_and]
        by_cases h48 : c = 48
        · subst h48
          rw [if_pos (show (((48 : UInt8).toNat : Nat) : Int) = 48 from rfl), if_pos (show ((48 : UInt8) :: t).head? = some 48 from rfl)]
          congr 1
          rw [Bool.eq_iff_iff, beq_iff_eq, decide_eq_true_eq]
          omega
        · rw [if_neg (fun e => h48 (UInt8.toNat_inj.1 (by have : ((c.toNat : Nat) : Int) = ((48 : UInt8).toNat : Int) := e; omega))), if_neg (by simpa using h48)]
      · rw [if_neg hv, decide_eq_false hv, Bool.false_and]
theorem dec_fin : ∀ u : Fin 256, (Lib.decDigits u.val).length ≤ 3 ∧ ((Lib.decDigits u.val).all fun b => digitI (b.toNat : Int)) = true ∧ refOct (Lib.decDigits u.val) = true := by decide +kernel
theorem three_fin : ∀ a b c : Fin 10, refOct [UInt8.ofNat (48 + a.val), UInt8.ofNat (48 + b.val), UInt8.ofNat (48 + c.val)] = octetL [UInt8.ofNat (48 + a.val), UInt8.ofNat (48 + b.val), UInt8.ofNat (48 + c.val)] := by decide +kernel
theorem two_fin : ∀ a b : Fin 10, refOct [UInt8.ofNat (48 + a.val), UInt8.ofNat (48 + b.val)] = octetL [UInt8.ofNat (48 + a.val), UInt8.ofNat (48 + b.val)] := by decide +kernel
theorem one_fin : ∀ a : Fin 10, refOct [UInt8.ofNat (48 + a.val)] = octetL [UInt8.ofNat (48 + a.val)] := by decide +kernel
theorem octetL_dec {x : U8s} (h : octetL x = true) : ∃ u : Fin 256, x = Lib.decDigits u.val := by
  unfold octetL at h
  split at h
  · rename_i u hu
    have := Lib.parseUintB_le hu
    exact ⟨⟨u, by have e : (2 : Nat) ^ 8 - 1 = 255 := rfl; omega⟩, (beq_iff_eq.1 h).symm⟩
  · exact absurd h (by decide)
theorem digit_of {b : UInt8} (h : digitI (b.toNat : Int) = true) : ∃ a : Fin 10, b = UInt8.ofNat (48 + a.val) := by
  unfold digitI at h
  rw [Bool.and_eq_true, decide_eq_true_eq, decide_eq_true_eq] at h
  refine ⟨⟨b.toNat - 48, by omega⟩, ?_⟩
  have : 48 + (b.toNat - 48) = b.toNat := by omega
  simp only [this]
  simp
theorem oct_eq (x : U8s) : refOct x = octetL x := by
  have no : (x.all fun b => digitI (b.toNat : Int)) = false → refOct x = false → refOct x = octetL x := fun h1 h2 => by
    rw [h2]
    cases hq : octetL x with
    | false => rfl
    | true =>
      obtain ⟨u, rfl⟩ := octetL_dec hq
      rw [(dec_fin u).2.1] at h1
      exact absurd h1 (by decide)
  match x with
  | [] => rfl
  | [a] =>
    cases ha : digitI (a.toNat : Int) with
    | true => obtain ⟨i, rfl⟩ := digit_of ha; exact one_fin i
    | false => exact no (by simp [ha]) (by simp [refOct, octV, ha])
  | [a, b] =>
    cases ha : digitI (a.toNat : Int) with
    | true =>
      cases hb : digitI (b.toNat : Int) with
      | true => obtain ⟨i, rfl⟩ := digit_of ha; obtain ⟨j, rfl⟩ := digit_of hb; exact two_fin i j
      | false => exact no (by simp [hb]) (by simp [refOct, octV, ha, hb])
    | false => exact no (by simp [ha]) (by simp [refOct, octV, ha])
  | [a, b, c] =>
    cases ha : digitI (a.toNat : Int) with
    | true =>
      cases hb : digitI (b.toNat : Int) with
      | true =>
        cases hc : digitI (c.toNat : Int) with
        | true => obtain ⟨i, rfl⟩ := digit_of ha; obtain ⟨j, rfl⟩ := digit_of hb; obtain ⟨k, rfl⟩ := digit_of hc; exact three_fin i j k
        | false => exact no (by simp [hc]) (by simp [refOct, octV, ha, hb, hc])
      | false => exact no (by simp [hb]) (by simp [refOct, octV, ha, hb])
    | false => exact no (by simp [ha]) (by simp [refOct, octV, ha])
  | a :: b :: c :: e :: r =>
    have h2 : refOct (a :: b :: c :: e :: r) = false := by
      unfold refOct
      cases ha : digitI (a.toNat : Int) with
      | true =>
        cases hb : digitI (b.toNat : Int) with
        | true =>
          cases hc : digitI (c.toNat : Int) with
          | true => simp [octV, ha, hb, hc]
          | false => simp [octV, ha, hb, hc]
        | false => simp [octV, ha, hb]
      | false => simp [octV, ha]
    rw [h2]
    cases hq : octetL (a :: b :: c :: e :: r) with
    | false => rfl
    | true =>
      obtain ⟨u, hu⟩ := octetL_dec hq
      have := (dec_fin u).1
      rw [← hu] at this
      simp at this
end Go.Proofs.YtepljhleaohbcaaGreatDoor.P
