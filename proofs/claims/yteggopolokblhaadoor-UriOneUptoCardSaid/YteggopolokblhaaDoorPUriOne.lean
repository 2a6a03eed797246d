/- The law UriOne, plain. -/
import Derived.Test.YteggopolokblhaaDoorPUriA
import Derived.Test.YteggopolokblhaaDoorQtollhouselaw10UriOne
set_option linter.unusedVariables false
set_option linter.unusedSimpArgs false
namespace Go.Proofs.YteggopolokblhaaDoor.P
open Go.RowKit Go.Proofs.YteggopolokblhaaDoorW.PrintWords Go.Proofs.YteggopolokblhaaDoorW.PrintLast Go.Proofs.YteggopolokblhaaDoorW.PrintMore

theorem wakes_ok1 : Ev (fun k => tollhouselaw10_wakes.f k) true := Ev.of (fun k => tollhouselaw10_wakes.mono k) tollhouselaw10_wakes.told
theorem wakes_end1 : Ev (fun k => (tollhouselaw10_wakes.f k).bind fun t => some t) true := Ev.bind wakes_ok1 (Ev.now _)
def digP (b : UInt8) : Bool := b == 46 || digitI (b.toNat : Int)
def plainP (b : UInt8) : Bool := !(b == 58 || (b == 47 || b == 63))
theorem plain_l0 (l : U8s) (hl : l.length ≤ 1073741824) : ∀ (d i : Nat), l.length - i = d → i ≤ l.length → Ev (fun k => tollhouselaw10_plain.l0 k (mkB l) (i : Int)) ((l.drop i).all plainP) := by
  intro d
  induction d with
  | zero =>
    intro i hd hi
    rw [List.drop_eq_nil_of_le (by omega), List.all_nil]
    exact Ev.step (fun k => by rw [tollhouselaw10_plain.l0, mkB_size, if_neg (by omega)]) (Ev.now _)
  | succ d ih =>
    intro i hd hi
    have hlt : i < l.length := by omega
    have hb := bt_mk l i hlt
    rw [List.drop_eq_getElem_cons hlt, List.all_cons]
    have hn : ∀ c : UInt8, ((l[i].toNat : Int) = (c.toNat : Int)) ↔ l[i] = c := fun c => by
      rw [← UInt8.toNat_inj]; omega
    refine Ev.step (fun k => by rw [tollhouselaw10_plain.l0, mkB_size, if_pos (by omega), if_pos (by omega), hb]) ?_
    refine ev_ifL (fun h1 => ?_) (fun h1 => ?_)
    · have e : l[i] = 58 := (hn 58).1 h1
      rw [e]; exact Ev.now _
    · refine ev_ifL (fun h2 => ?_) (fun h2 => ?_)
      · have e : l[i] = 47 := (hn 47).1 h2
        rw [e]; exact Ev.now _
      · refine ev_ifL (fun h3 => ?_) (fun h3 => ?_)
        · have e : l[i] = 63 := (hn 63).1 h3
          rw [e]; exact Ev.now _
        · have e : plainP l[i] = true := by
            have a1 : ¬ l[i] = 58 := fun e => h1 ((hn 58).2 e)
            have a2 : ¬ l[i] = 47 := fun e => h2 ((hn 47).2 e)
            have a3 : ¬ l[i] = 63 := fun e => h3 ((hn 63).2 e)
            unfold plainP
            simp [a1, a2, a3]
          rw [e, Bool.true_and, w64n i (by omega)]
          exact ih (i + 1) (by omega) (by omega)
theorem plain_ok (l : U8s) (hl : l.length ≤ 1073741824) : Ev (fun k => tollhouselaw10_plain.f k (mkB l)) (l.all plainP) := by
  unfold tollhouselaw10_plain.f
  have := plain_l0 l hl l.length 0 (by omega) (Nat.zero_le _)
  rw [List.drop_zero] at this
  exact this
theorem low_fin : ∀ n : Fin 256, plainP (lowU (UInt8.ofNat n.val)) = true → notCut (UInt8.ofNat n.val) = true ∧ UInt8.ofNat n.val ≠ 58 := by decide +kernel
theorem low_plain {b : UInt8} (h : plainP (lowU b) = true) : notCut b = true ∧ b ≠ 58 := by
  have := low_fin ⟨b.toNat, b.toNat_lt⟩
  have e : UInt8.ofNat b.toNat = b := by simp
  rw [e] at this
  exact this h
theorem plain_low {s : U8s} (h : (lowL s).all plainP = true) : (∀ b ∈ s, notCut b = true) ∧ (58 : UInt8) ∉ s := by
  have h1 : ∀ b ∈ s, notCut b = true ∧ b ≠ 58 := fun b hb => low_plain (List.all_eq_true.1 h _ (List.mem_map.2 ⟨b, hb, rfl⟩))
  exact ⟨fun b hb => (h1 b hb).1, fun hm => (h1 _ hm).2 rfl⟩
/-- What a target without a sign of its own tells. -/
theorem parse_plain {s : U8s} (h : (lowL s).all plainP = true) (ho : (parseL (schemeL ++ s ++ [47])).2.2.2 = 0) : namedL (lowL s) = true := by
  obtain ⟨h1, h2⟩ := plain_low h
  have e1 : (schemeL ++ s ++ [47]).take 7 = schemeL := rfl
  have e2 : (schemeL ++ s ++ [47]).drop 7 = s ++ [47] := rfl
  have e3 := ahead_app s [47] h1
  unfold parseL at ho
  rw [e1, e2, if_pos (by decide), e3.1, e3.2, show aheadL [47] = [] from rfl, List.append_nil, parseEnd, cut1_none 58 s h2] at ho
  rcases checked_cases (lowL s) (pathOf (fromL [47])) (if false = true then portL [] else 80) with ⟨hm, _⟩ | ⟨_, e⟩
  · exact (mayL_port hm).1
  · exact absurd (e ▸ ho : noUrl.2.2.2 = 0) (by decide)
theorem auth_one {s : U8s} (ho : (authorityL (s ++ [58, 49])).2.2 = 0) : namedL (lowL s) = true := by
  rcases cut_cases 58 s with hc | ⟨x, y, rfl, hx⟩
  · have e : cut1 58 (s ++ [58, 49]) = (s, [49], true) := cut1_app 58 [49] s hc
    unfold authorityL at ho
    rw [e] at ho
    cases hn : namedL (lowL s) with
    | true => rfl
    | false => rw [hn, if_neg (by decide)] at ho; exact absurd ho (by decide)
  · have e : cut1 58 (x ++ 58 :: y ++ [58, 49]) = (x, y ++ [58, 49], true) := by
      rw [List.append_assoc, List.cons_append]
      exact cut1_app 58 _ x hx
    unfold authorityL at ho
    rw [e] at ho
    have hp : portL (y ++ [58, 49]) = 0 := by
      rcases portL_cases (y ++ [58, 49]) with h | ⟨p, _, _, _, hd⟩
      · exact h
      · have := dec_mem 5 p (by omega) 58 (by rw [← hd]; simp)
        exact absurd this (by decide)
    split at ho
    · first | exact absurd ho (by decide) | (rw [if_pos hp] at ho; exact absurd ho (by decide))
    · exact absurd ho (by decide)
theorem auth_cases (s : U8s) : (authorityL s).2.2 = 0 ∨ (authorityL s).2.2 = 23 := by
  unfold authorityL
  repeat' split
  · exact .inr rfl
  · exact .inl rfl
  · exact .inr rfl
/-! ### digits and dots -/
theorem digs_last {s : U8s} (h : s.all digP = true) : numL (lastL (lab s)) = true := by
  have h1 : (lab s).all (fun x => x.all fun b => digitI (b.toNat : Int)) = true := by rw [lab_all]; exact h
  have h2 := List.all_eq_true.1 h1 _ (lastL_mem (lab s) (lab_ne s))
  unfold numL
  have h3 : is0x (lastL (lab s)) = false := by
    generalize lastL (lab s) = x at h2 ⊢
    match x, h2 with
    | [], _ => rfl
    | [a], _ => unfold is0x; simp
    | a :: b :: r, h2 =>
      rw [Bool.eq_false_iff]
      intro hq
      unfold is0x at hq
      have e : [a, b] = ([48, 120] : U8s) := beq_iff_eq.1 hq
      have eb : b = 120 := by injection e with _ e; injection e
      subst eb
      simp only [List.all_cons, Bool.and_eq_true] at h2
      exact absurd h2.2.1 (by decide)
  rw [h3, if_neg (by decide)]
  exact h2
theorem digs_quad {s : U8s} (h : s.all digP = true) (hn : namedL s = true) : (lab s).length = 4 ∧ (lab s).all octetL = true := by
  have := (named_parts hn).2.2 (digs_last h)
  unfold quadL at this
  rw [Bool.and_eq_true, decide_eq_true_eq] at this
  exact this
theorem nought_fin : ∀ u : Fin 256, (Lib.decDigits u.val).head? = some 48 → (Lib.decDigits u.val).length = 1 := by decide +kernel
theorem octet_nought {x : U8s} (hx : x ≠ []) : octetL (48 :: x) = false := by
  rw [Bool.eq_false_iff]
  intro h
  unfold octetL at h
  split at h
  · rename_i u hu
    have hle := Lib.parseUintB_le hu
    have hd : Lib.decDigits u = 48 :: x := beq_iff_eq.1 h
    have := nought_fin ⟨u, by have e : (2 : Nat) ^ 8 - 1 = 255 := rfl; omega⟩ (by show (Lib.decDigits u).head? = _; rw [hd]; rfl)
    have hl : (Lib.decDigits u).length = 1 := this
    rw [hd] at hl
    cases x with
    | nil => exact hx rfl
    | cons _ _ => simp at hl
  · exact absurd h (by decide)
theorem nought_none {s : U8s} (h : s.all digP = true) (hn : namedL s = true) : namedL (48 :: s) = false := by
  rw [Bool.eq_false_iff]
  intro h0
  obtain ⟨x, t, e1, e2⟩ := lab_cons 48 s (by decide)
  have hq := (digs_quad (s := 48 :: s) (by rw [List.all_cons, h]; rfl) h0).2
  rw [e2, List.all_cons, Bool.and_eq_true] at hq
  have hx := List.all_eq_true.1 (named_parts hn).1 x (by rw [e1]; exact List.mem_cons_self)
  rw [octet_nought (labOk_ne hx)] at hq
  exact absurd hq.1 (by decide)
theorem five_none {s : U8s} (h : s.all digP = true) (hn : namedL s = true) : namedL (49 :: 46 :: s) = false := by
  rw [Bool.eq_false_iff]
  intro h0
  have hq := (digs_quad (s := 49 :: 46 :: s) (by rw [List.all_cons, List.all_cons, h]; rfl) h0).1
  have hq2 := (digs_quad h hn).1
  have e : lab (49 :: 46 :: s) = lab [49] ++ lab s := lab_app s [49]
  rw [e, List.length_append] at hq
  have : (lab [49]).length = 1 := rfl
  omega
theorem capital_none {x y : U8s} {b : UInt8} (h1 : 65 ≤ b.toNat) (h2 : b.toNat ≤ 90) : namedL (x ++ [b] ++ y) = false := by
  rw [Bool.eq_false_iff]
  intro h0
  rcases named_bytes h0 b (by simp) with e | e
  · subst e; revert h1; decide
  · unfold labelI plainI at e
    simp at e
    omega
theorem last_dot {s : U8s} (hn : namedL s = true) (h0 : 0 < s.length) : s[s.length - 1] ≠ 46 := by
  intro e
  have : s = s.take (s.length - 1) ++ [46] := by
    have h1 := List.take_succ_eq_append_getElem (l := s) (i := s.length - 1) (by omega)
    rw [show s.length - 1 + 1 = s.length by omega, List.take_of_length_le (Nat.le_refl _), e] at h1
    exact h1
  rw [this, named_dot_end] at hn
  exact absurd hn (by decide)
theorem one_len1 (s : U8s) (j : Nat) (c : UInt8) (h : s.length ≤ 64) : (mkB (s.take j)).size + (mkB [c]).size ≤ 9223372036854775807 := by
  rw [mkB_size, mkB_size, List.length_take]; simp only [List.length_cons, List.length_nil]; omega
theorem one_len2 (s : U8s) (j : Nat) (c : UInt8) (h : s.length ≤ 64) : (mkB (s.take j ++ [c])).size + (mkB (s.drop (j + 1))).size ≤ 9223372036854775807 := by
  rw [mkB_size, mkB_size, List.length_append, List.length_take, List.length_drop]; simp only [List.length_cons, List.length_nil]; omega
theorem one_len3 (s : U8s) (j : Nat) (c : UInt8) (h : s.length ≤ 64) : (s.take j ++ [c] ++ s.drop (j + 1)).length ≤ 536870912 := by
  simp only [List.length_append, List.length_take, List.length_drop, List.length_cons, List.length_nil]; omega
theorem capital_of {b : UInt8} (h1 : 97 ≤ b.toNat) (h2 : b.toNat ≤ 122) : 65 ≤ (UInt8.ofNat (b.toNat - 32)).toNat ∧ (UInt8.ofNat (b.toNat - 32)).toNat ≤ 90 := by
  rw [UInt8.toNat_ofNat']; omega
theorem capital_nums {b : UInt8} (h1 : 97 ≤ b.toNat) (h2 : b.toNat ≤ 122) : strOfNums [((b.toNat : Int) - 32) % 256] = mkB [UInt8.ofNat (b.toNat - 32)] := by
  have : (((b.toNat : Int) - 32) % 256).toNat = b.toNat - 32 := by omega
  show mkB [UInt8.ofNat (((b.toNat : Int) - 32) % 256).toNat] = _
  rw [this]
theorem one_end (s : U8s) (hn : namedL s = true) (c : Int) (h0 : 0 ≤ c) (h1 : c ≤ 255) : Ev (fun k => tollhouselaw10_UriOne.l0 k (mkB s) c ((s.count 46 : Nat) : Int) (s.all digP) (s.length : Int)) true := by
  have hpos : 0 < s.length := List.length_pos_iff.2 (fun e => by rw [e, named_nil] at hn; exact absurd hn (by decide))
  have h64 := (named_parts hn).2.1
  have ew : wrap64 (((mkB s).size : Int) - 1) = ((s.length - 1 : Nat) : Int) := by rw [mkB_size]; exact w64s _ hpos (by omega)
  refine Ev.step (fun k => by rw [tollhouselaw10_UriOne.l0, if_neg (by rw [mkB_size]; omega), ew, if_pos (by omega), if_pos (by rw [mkB_size]; omega)]) ?_
  cases hd : s.all digP with
  | true =>
    refine Ev.congr (fun k => if_pos rfl) ?_
    have hl := lab_len s
    rw [(digs_quad hd hn).1] at hl
    have e1 : (⟨#[48]⟩ : ByteArray) ++ mkB s = mkB (48 :: s) := mkB_app [48] s
    have e2 : (⟨#[49, 46]⟩ : ByteArray) ++ mkB s = mkB (49 :: 46 :: s) := mkB_app [49, 46] s
    refine Ev.congr (fun k => by rw [if_pos (by omega), if_pos (by rw [mkB_size]; omega), e1]) ?_
    refine Ev.bind (named_ok _ (by rw [List.length_cons]; omega)) ?_
    rw [nought_none hd hn]
    refine Ev.congr (fun k => by rw [if_neg (by decide), if_pos (by rw [mkB_size]; omega), e2]) ?_
    refine Ev.bind (named_ok _ (by simp only [List.length_cons]; omega)) ?_
    rw [five_none hd hn]
    exact Ev.congr (fun k => if_neg (by decide)) wakes_end1
  | false =>
    refine Ev.congr (fun k => if_neg (by decide)) ?_
    obtain ⟨j, hj, hjl⟩ : ∃ j : Nat, Int.tmod (wrap64 c) ((mkB s).size : Int) = (j : Int) ∧ j < s.length := by
      have e1 : wrap64 c = c := by unfold wrap64; omega
      have e2 : Int.tmod c (s.length : Int) = c % (s.length : Int) := Int.tmod_eq_emod_of_nonneg h0
      have e3 := Int.emod_nonneg c (show (s.length : Int) ≠ 0 by omega)
      have e4 := Int.emod_lt_of_pos c (show (0 : Int) < (s.length : Int) by omega)
      exact ⟨(c % (s.length : Int)).toNat, by rw [e1, mkB_size, e2]; omega, by omega⟩
    have hbj := bt_mk s j hjl
    have hbl : bt (mkB s) ((s.length - 1 : Nat) : Int) = (s[s.length - 1].toNat : Int) := bt_mk s (s.length - 1) (by omega)
    have hld : ¬ bt (mkB s) ((s.length - 1 : Nat) : Int) = 46 := by
      rw [hbl]
      intro e
      exact last_dot hn hpos (UInt8.toNat_inj.1 (by have : (46 : UInt8).toNat = 46 := rfl; omega))
    have hfin : Ev (fun k => if bt (mkB s) ((s.length - 1 : Nat) : Int) = 46 then some false else ((tollhouselaw10_wakes.f k).bind fun t => some t)) true := Ev.congr (fun k => if_neg hld) wakes_end1
    rw [hj]
    refine Ev.congr (fun k => by rw [if_neg (by rw [mkB_size]; omega), if_pos (by omega), if_pos (by rw [mkB_size]; omega), hbj]) ?_
    refine ev_ifL (fun g1 => ?_) (fun g1 => hfin)
    refine ev_ifL (fun g2 => ?_) (fun g2 => hfin)
    have g1 : (97 : Int) ≤ (s[j].toNat : Int) := g1
    have e3 := capital_nums (show 97 ≤ s[j].toNat from Int.ofNat_le.1 g1) (show s[j].toNat ≤ 122 from Int.ofNat_le.1 g2)
    have ewj : wrap64 ((j : Int) + 1) = ((j + 1 : Nat) : Int) := w64n j (by omega)
    have e4 : (mkB s).extract 0 ((j : Int)).toNat = mkB (s.take j) := by rw [Int.toNat_natCast, ext_mk, List.drop_zero]
    have e5 : (mkB s).extract (((j + 1 : Nat) : Int)).toNat (mkB s).size = mkB (s.drop (j + 1)) := by
      rw [Int.toNat_natCast, ext_mk, mkB_size, List.take_of_length_le (Nat.le_refl _)]
    have hz1 := one_len1 s j (UInt8.ofNat (s[j].toNat - 32)) h64
    have hz2 := one_len2 s j (UInt8.ofNat (s[j].toNat - 32)) h64
    have hz6 := one_len3 s j (UInt8.ofNat (s[j].toNat - 32)) h64
    have hz3 : (j : Int) ≤ ((mkB s).size : Int) := by rw [mkB_size]; exact Int.ofNat_le.2 (Nat.le_of_lt hjl)
    have hz4 : ((j + 1 : Nat) : Int) ≤ ((mkB s).size : Int) := by rw [mkB_size]; exact Int.ofNat_le.2 hjl
    have hz5 : (0 : Int) ≤ ((j + 1 : Nat) : Int) := Int.natCast_nonneg _
    refine Ev.congr (fun k => if_pos hz3) ?_
    refine Ev.congr (fun k => Option.bind_some ..) ?_
    rw [e3, ewj, e4, e5]
    refine Ev.congr (fun k => if_pos hz1) ?_
    refine Ev.congr (fun k => if_pos hz5) ?_
    refine Ev.congr (fun k => if_pos hz4) ?_
    rw [mkB_app]
    refine Ev.congr (fun k => if_pos hz2) ?_
    rw [mkB_app]
    obtain ⟨hb8, hb9⟩ := capital_of (show 97 ≤ s[j].toNat from Int.ofNat_le.1 g1) (show s[j].toNat ≤ 122 from Int.ofNat_le.1 g2)
    refine Ev.bind (named_ok _ hz6) ?_
    rw [capital_none hb8 hb9]
    exact Ev.congr (fun k => if_neg (by decide)) hfin
theorem one_l0 (s : U8s) (hn : namedL s = true) (c : Int) (h0 : 0 ≤ c) (h1 : c ≤ 255) : ∀ (d i : Nat), s.length - i = d → i ≤ s.length → Ev (fun k => tollhouselaw10_UriOne.l0 k (mkB s) c (((s.take i).count 46 : Nat) : Int) ((s.take i).all digP) (i : Int)) true := by
  have h64 := (named_parts hn).2.1
  intro d
  induction d with
  | zero =>
    intro i hd hi
    obtain rfl : i = s.length := by omega
    rw [List.take_of_length_le (Nat.le_refl _)]
    exact one_end s hn c h0 h1
  | succ d ih =>
    intro i hd hi
    have hlt : i < s.length := by omega
    have hb := bt_mk s i hlt
    have hw : wrap64 ((i : Int) + 1) = ((i + 1 : Nat) : Int) := w64n i (by omega)
    have ih := ih (i + 1) (by omega) (by omega)
    rw [List.take_succ_eq_append_getElem hlt, List.count_append, List.all_append, List.all_cons, List.all_nil, Bool.and_true] at ih
    have hcl : (s.take i).count 46 ≤ s.length := Nat.le_trans List.count_le_length (by rw [List.length_take]; omega)
    refine Ev.step (fun k => by rw [tollhouselaw10_UriOne.l0, if_pos (by rw [mkB_size]; omega), if_pos (by omega), hb]) ?_
    refine ev_ifL (fun h46 => ?_) (fun h46 => ?_)
    · have e46 : s[i] = 46 := UInt8.toNat_inj.1 (by have : (46 : UInt8).toNat = 46 := rfl; omega)
      have e4 : (mkB s).extract 0 ((i : Int)).toNat = mkB (s.take i) := by rw [Int.toNat_natCast, ext_mk, List.drop_zero]
      have e5 : (mkB s).extract ((i : Int)).toNat (mkB s).size = mkB (s.drop i) := by
        rw [Int.toNat_natCast, ext_mk, mkB_size, List.take_of_length_le (Nat.le_refl _)]
      have ed : (⟨#[46]⟩ : ByteArray) = mkB [46] := rfl
      refine Ev.congr (fun k => by rw [if_pos (by rw [mkB_size]; omega), e4, e5, ed, if_pos (by rw [mkB_size, List.length_take]; omega), mkB_app, if_pos (by rw [mkB_size, mkB_size, List.length_append, List.length_take, List.length_drop]; simp only [List.length_cons, List.length_nil]; omega), mkB_app]) ?_
      refine Ev.bind (named_ok _ (by simp only [List.length_append, List.length_take, List.length_drop, List.length_cons, List.length_nil]; omega)) ?_
      have en : namedL (s.take i ++ [46] ++ s.drop i) = false := by
        rw [List.drop_eq_getElem_cons hlt, e46, List.append_assoc]
        exact named_dot_twice (s.take i) (s.drop (i + 1))
      rw [en, hw]
      have ew : wrap64 ((((s.take i).count 46 : Nat) : Int) + 1) = (((s.take i).count 46 + 1 : Nat) : Int) := w64n _ (by omega)
      rw [ew]
      rw [e46, show digP 46 = true from rfl, Bool.and_true, show List.count (46 : UInt8) [46] = 1 from rfl] at ih
      refine Ev.congr (fun k => if_neg (by decide)) ?_
      refine ev_ifL (fun hq => ?_) (fun hq => ?_)
      · rw [hq] at ih; exact ih
      · rw [Bool.eq_false_iff.2 hq] at ih; exact ih
    · have hne : s[i] ≠ 46 := fun e => h46 (by rw [e]; rfl)
      have hdp : digP s[i] = digitI (s[i].toNat : Int) := by
        unfold digP
        rw [show (s[i] == 46) = false from beq_eq_false_iff_ne.2 hne, Bool.false_or]
      rw [hdp, List.count_cons_of_ne (by simpa using hne), List.count_nil, Nat.add_zero] at ih
      rw [hw]
      refine ev_ifL (fun hq => ?_) (fun hq => ?_)
      · rw [hq, Bool.true_and] at ih
        unfold digitI at ih
        refine ev_ifL (fun g1 => ?_) (fun g1 => ?_)
        · rw [decide_eq_true (show (48 : Int) ≤ (s[i].toNat : Int) from g1), Bool.true_and] at ih; exact ih
        · rw [decide_eq_false (show ¬ (48 : Int) ≤ (s[i].toNat : Int) from g1), Bool.false_and] at ih; exact ih
      · rw [Bool.eq_false_iff.2 hq, Bool.false_and] at ih; exact ih
theorem wf_u8 {x : Int} (h : (Lit.int .u8 x).wf = true) : 0 ≤ x ∧ x ≤ 255 := by
  have h1 : IntKind.u8.min = 0 := by decide
  have h2 : IntKind.u8.max = 255 := by decide
  simp [Lit.wf, h1, h2] at h
  omega
theorem UriOne_true (a : ByteArray) (c : Int) (_ : a.size ≤ 140737488351232) (hc : (Lit.int .u8 c).wf = true) (hB : a.size ≤ 1048576) : ∃ k, tollhouselaw10_UriOne.f k a c = some true := by
  obtain ⟨hc0, hc1⟩ := wf_u8 hc
  obtain ⟨s, rfl⟩ := mkOf a
  rw [mkB_size] at hB
  refine Ev.rounds (g := fun k => tollhouselaw10_UriOne.f k (mkB s) c) ?_
  unfold tollhouselaw10_UriOne.f
  refine Ev.bind (named_ok s (by omega)) ?_
  refine ev_ifL (fun hn => ?_) (fun hn => ?_)
  · have h64 := (named_parts hn).2.1
    have e1 : mkB s ++ (⟨#[46]⟩ : ByteArray) = mkB (s ++ [46]) := mkB_app s [46]
    have e2 : (⟨#[46]⟩ : ByteArray) ++ mkB s = mkB (46 :: s) := mkB_app [46] s
    refine Ev.congr (fun k => by rw [if_pos (by rw [mkB_size]; omega), e1]) ?_
    refine Ev.bind (named_ok _ (by simp only [List.length_append, List.length_cons, List.length_nil]; omega)) ?_
    rw [named_dot_end]
    refine Ev.congr (fun k => by rw [if_neg (by decide), if_pos (by rw [mkB_size]; omega), e2]) ?_
    refine Ev.bind (named_ok _ (by simp only [List.length_cons]; omega)) ?_
    rw [named_dot_head]
    refine Ev.congr (fun k => if_neg (by decide)) ?_
    refine Ev.bind (named_ok [] (by decide)) ?_
    rw [named_nil]
    refine Ev.congr (fun k => if_neg (by decide)) ?_
    have e3 : decide (((mkB s).size : Int) > 64) = false := by rw [mkB_size, decide_eq_false_iff_not]; omega
    rw [e3]
    refine Ev.step (fun k => by rw [tollhouselaw10_UriOne.j0]) ?_
    refine Ev.congr (fun k => if_neg (by decide)) ?_
    exact one_l0 s hn c hc0 hc1 s.length 0 (by omega) (Nat.zero_le _)
  · have e1 : (⟨#[104, 116, 116, 112, 58, 47, 47]⟩ : ByteArray) = mkB schemeL := rfl
    have e2 : (⟨#[47]⟩ : ByteArray) = mkB [47] := rfl
    have e3 : mkB s ++ (⟨#[58, 49]⟩ : ByteArray) = mkB (s ++ [58, 49]) := mkB_app s [58, 49]
    have hz : schemeL.length = 7 := rfl
    refine Ev.congr (fun k => by rw [if_pos (by rw [mkB_size]; omega), e1, mkB_app, if_pos (by rw [mkB_size, List.length_append]; omega), e2, mkB_app]) ?_
    refine Ev.bind (parse_ok _ (by simp only [List.length_append, List.length_cons, List.length_nil]; omega)) ?_
    refine Ev.congr (fun k => by rw [if_pos (by rw [mkB_size]; omega), e3]) ?_
    refine Ev.bind (authority_ok _ (by simp only [List.length_append, List.length_cons, List.length_nil]; omega)) ?_
    refine Ev.congr (fun k => by rw [low_ok s (by omega), Option.bind_some]) ?_
    have hll : (lowL s).length ≤ 1048576 := by rw [lowL_len]; omega
    have hau : Ev (fun k => if (authorityL (s ++ [58, 49])).2.2 = 0 then ((uri_Named.f k (mkB (lowL s))).bind fun t => (if t = true then ((tollhouselaw10_wakes.f k).bind fun t => (some t)) else (some false))) else ((tollhouselaw10_wakes.f k).bind fun t => (some t))) true := by
      refine ev_ifL (fun ha => ?_) (fun ha => wakes_end1)
      refine Ev.bind (named_ok _ (by omega)) ?_
      rw [auth_one ha]
      exact Ev.congr (fun k => if_pos rfl) wakes_end1
    refine ev_ifL (fun hp => ?_) (fun hp => hau)
    refine Ev.bind (named_ok _ (by omega)) ?_
    refine ev_ifL (fun h2 => hau) (fun h2 => ?_)
    refine Ev.bind (plain_ok _ (by omega)) ?_
    refine ev_ifL (fun h3 => ?_) (fun h3 => hau)
    exact absurd (parse_plain h3 hp) h2
end Go.Proofs.YteggopolokblhaaDoor.P
