/- Plain law: StartStatuses. -/
import Derived.Test.YtjmaobipfpiddaaDoorPRef06
import Derived.Test.YtjmaobipfpiddaaDoorQtollhouselaw06StartStatuses
set_option linter.unusedVariables false
set_option linter.unusedSimpArgs false
namespace Go.Proofs.YtjmaobipfpiddaaDoor.P
open Go.RowKit Go.Proofs.YtjmaobipfpiddaaDoorW.PrintWords Go.Proofs.YtjmaobipfpiddaaDoorW.PrintLast Go.Proofs.YtjmaobipfpiddaaDoorW.PrintMore

theorem wakesEvS : Ev (fun k => tollhouselaw06_wakes.f k) true := Ev.of (fun k => tollhouselaw06_wakes.mono k) tollhouselaw06_wakes.told
theorem i64OfS {a : Int} (h : (Lit.int .i64 a).wf = true) : I64 a := by
  simp [Lit.wf, IntKind.min, IntKind.max, IntKind.signed, IntKind.bits] at h
  unfold I64
  omega
def asS (x : Int × Int × U8s × Int) : Int × Int × ByteArray × Int := (x.1, x.2.1, mkB x.2.2.1, x.2.2.2)
def digL (c : UInt8) : Prop := 48 ≤ c.toNat ∧ c.toNat ≤ 57
instance (c : UInt8) : Decidable (digL c) := by unfold digL; infer_instance
def num3 (c9 c10 c11 : UInt8) : Int := 100 * ((c9.toNat : Int) - 48) + 10 * ((c10.toNat : Int) - 48) + ((c11.toNat : Int) - 48)
/-- What the document asks of a line of thirteen bytes or more. -/
def okRef (v : U8s) (c8 c9 c10 c11 c12 : UInt8) (r : U8s) : Prop := v.length + 5 + r.length ≤ 512 ∧ c8 = 32 ∧ c12 = 32 ∧ digL c9 ∧ digL c10 ∧ digL c11 ∧ 0 ≤ minorM v ∧ 100 ≤ num3 c9 c10 c11 ∧ num3 c9 c10 c11 ≤ 599 ∧ visL r = true
theorem ofNat_eq {c : UInt8} {n : Nat} (h : c.toNat = n) : UInt8.ofNat n = c := by rw [← h]; simp
theorem minorM_01 {v : U8s} (h : 0 ≤ minorM v) : v = ver ++ Lib.itoa (minorM v) ∧ minorM v ≤ 1 := by
  unfold minorM at h ⊢
  split at h
  · rename_i e; subst e; decide +kernel
  · split at h
    · rename_i e; subst e; decide +kernel
    · exact absurd h (by decide)
theorem okRef_put {v : U8s} {c8 c9 c10 c11 c12 : UInt8} {r : U8s} (h : okRef v c8 c9 c10 c11 c12 r) : putS (minorM v) (num3 c9 c10 c11) r = (v ++ c8 :: c9 :: c10 :: c11 :: c12 :: r, 0) := by
  obtain ⟨h1, rfl, rfl, d9, d10, d11, h2, h3, h4, h5⟩ := h
  obtain ⟨g1, g2⟩ := minorM_01 h2
  unfold digL at d9 d10 d11
  have hs : Lib.itoa (num3 c9 c10 c11) = [c9, c10, c11] := by
    rw [(itoa_st h3 h4).2.2.2]
    have e : (num3 c9 c10 c11).toNat = 100 * (c9.toNat - 48) + 10 * (c10.toNat - 48) + (c11.toNat - 48) := by unfold num3 at *; omega
    rw [e, ofNat_eq (c := c9) (by omega), ofNat_eq (c := c10) (by omega), ofNat_eq (c := c11) (by omega)]
  have e : lineS (minorM v) (num3 c9 c10 c11) r = v ++ 32 :: c9 :: c10 :: c11 :: 32 :: r := by
    unfold lineS
    rw [← g1, hs]; rfl
  unfold putS
  rw [if_pos (show okS (minorM v) (num3 c9 c10 c11) r from ⟨h2, g2, h3, h4, h5, by rw [e]; simp only [List.length_append, List.length_cons]; omega⟩), e]
theorem put_okRef {n st : Int} {r l : U8s} (h : putS n st r = (l, 0)) : ∃ v c9 c10 c11, v.length = 8 ∧ l = v ++ 32 :: c9 :: c10 :: c11 :: 32 :: r ∧ okRef v 32 c9 c10 c11 32 r ∧ minorM v = n ∧ num3 c9 c10 c11 = st := by
  obtain ⟨o, e⟩ := putS_ok h
  have hn := itoa_01 o.1 o.2.1
  have hs := itoa_st o.2.2.1 o.2.2.2.1
  have hst0 := o.2.2.1
  have hst1 := o.2.2.2.1
  have b9 : (UInt8.ofNat (48 + st.toNat / 100)).toNat = 48 + st.toNat / 100 := by rw [UInt8.toNat_ofNat']; omega
  have b10 : (UInt8.ofNat (48 + st.toNat / 10 % 10)).toNat = 48 + st.toNat / 10 % 10 := by rw [UInt8.toNat_ofNat']; omega
  have b11 : (UInt8.ofNat (48 + st.toNat % 10)).toNat = 48 + st.toNat % 10 := by rw [UInt8.toNat_ofNat']; omega
  have hm : minorM (ver ++ Lib.itoa n) = n := by
    obtain h0 | h0 : n = 0 ∨ n = 1 := by have := o.1; have := o.2.1; omega
    · subst h0; decide +kernel
    · subst h0; decide +kernel
  have hnum : num3 (UInt8.ofNat (48 + st.toNat / 100)) (UInt8.ofNat (48 + st.toNat / 10 % 10)) (UInt8.ofNat (48 + st.toNat % 10)) = st := by
    unfold num3
    rw [b9, b10, b11]
    omega
  have e2 : l = (ver ++ Lib.itoa n) ++ 32 :: UInt8.ofNat (48 + st.toNat / 100) :: UInt8.ofNat (48 + st.toNat / 10 % 10) :: UInt8.ofNat (48 + st.toNat % 10) :: 32 :: r := by
    rw [e]
    unfold lineS
    rw [hs.2.2.2]; rfl
  have hv8 : (ver ++ Lib.itoa n).length = 8 := by rw [hn.2.2.2.2]; rfl
  have hlen := o.2.2.2.2.2
  rw [← e, e2] at hlen
  simp only [List.length_append, List.length_cons] at hlen hv8
  refine ⟨_, _, _, _, by rw [List.length_append]; exact hv8, e2, ⟨by rw [List.length_append]; omega, rfl, rfl, ?_, ?_, ?_, by rw [hm]; exact o.1, by rw [hnum]; exact hst0, by rw [hnum]; exact hst1, o.2.2.2.2.1⟩, hm, hnum⟩
  · unfold digL; rw [b9]; omega
  · unfold digL; rw [b10]; omega
  · unfold digL; rw [b11]; omega
theorem readS_is {l : U8s} : readS l = (0, 0, [], 5) ∨ ∃ n st r, readS l = (n, st, r, 0) ∧ putS n st r = (l, 0) := by
  rcases readS_cases l with h | ⟨n, st, r, h, hp, _⟩
  · exact .inl h
  · exact .inr ⟨n, st, r, h, hp⟩
theorem readS_at (v : U8s) (hv : v.length = 8) (c8 c9 c10 c11 c12 : UInt8) (r : U8s) : (okRef v c8 c9 c10 c11 c12 r → readS (v ++ c8 :: c9 :: c10 :: c11 :: c12 :: r) = (minorM v, num3 c9 c10 c11, r, 0)) ∧ (¬ okRef v c8 c9 c10 c11 c12 r → readS (v ++ c8 :: c9 :: c10 :: c11 :: c12 :: r) = (0, 0, [], 5)) := by
  refine ⟨fun h => read_put_S (okRef_put h), fun h => ?_⟩
  rcases readS_is (l := v ++ c8 :: c9 :: c10 :: c11 :: c12 :: r) with g | ⟨n, st, r', _, hp⟩
  · exact g
  · obtain ⟨v', d9, d10, d11, hv', e, ho, _⟩ := put_okRef hp
    obtain ⟨e1, e2⟩ := List.append_inj e (by rw [hv, hv'])
    injection e2 with q8 e2
    injection e2 with q9 e2
    injection e2 with q10 e2
    injection e2 with q11 e2
    injection e2 with q12 q13
    subst e1 q8 q9 q10 q11 q12 q13
    exact absurd ho h
theorem readS_short {l : U8s} (h : l.length < 13 ∨ 512 < l.length) : readS l = (0, 0, [], 5) := by
  rcases readS_is (l := l) with g | ⟨n, st, r', _, hp⟩
  · exact g
  · obtain ⟨v', d9, d10, d11, hv', e, ho, _⟩ := put_okRef hp
    have : l.length = v'.length + 5 + r'.length := by rw [e]; simp only [List.length_append, List.length_cons]; omega
    have := ho.1
    omega
theorem refS_bad (s : ByteArray) : Ev (fun k => tollhouseref06_Status.j0 k s true) (asS (0, 0, [], 5)) :=
  Ev.step (f := fun _ => some (asS (0, 0, [], 5))) (fun k => by rw [tollhouseref06_Status.j0, if_pos rfl]; rfl) (Ev.now _)
theorem digStep (x : Int) (c : UInt8) (h : digL c) (hx : 0 ≤ x ∧ x ≤ 1000) : wrap64 ((wrap64 (10 * x)) + (((c.toNat : Int) - 48) % 256)) = 10 * x + ((c.toNat : Int) - 48) := by
  unfold digL at h
  unfold wrap64
  omega
theorem refS_at (v : U8s) (hv : v.length = 8) (c8 c9 c10 c11 c12 : UInt8) (r : U8s) (hl : (v ++ c8 :: c9 :: c10 :: c11 :: c12 :: r).length ≤ 512) : Ev (fun k => tollhouseref06_Status.f k (mkB (v ++ c8 :: c9 :: c10 :: c11 :: c12 :: r))) (asS (readS (v ++ c8 :: c9 :: c10 :: c11 :: c12 :: r))) := by
  obtain ⟨hyes, hno⟩ := readS_at v hv c8 c9 c10 c11 c12 r
  have hlen : (v ++ c8 :: c9 :: c10 :: c11 :: c12 :: r).length = 13 + r.length := by simp only [List.length_append, List.length_cons]; omega
  have b (j : Nat) (h : j < 5) : bt (mkB (v ++ c8 :: c9 :: c10 :: c11 :: c12 :: r)) ((8 + j : Nat) : Int) = (([c8, c9, c10, c11, c12][j]'h).toNat : Int) := by
    rw [bt_mk _ _ (by omega), List.getElem_append_right (by omega)]
    obtain rfl | rfl | rfl | rfl | rfl : j = 0 ∨ j = 1 ∨ j = 2 ∨ j = 3 ∨ j = 4 := by omega
    all_goals simp [hv]
  have b8 : bt (mkB (v ++ c8 :: c9 :: c10 :: c11 :: c12 :: r)) 8 = (c8.toNat : Int) := b 0 (by decide)
  have b9 : bt (mkB (v ++ c8 :: c9 :: c10 :: c11 :: c12 :: r)) 9 = (c9.toNat : Int) := b 1 (by decide)
  have b10 : bt (mkB (v ++ c8 :: c9 :: c10 :: c11 :: c12 :: r)) 10 = (c10.toNat : Int) := b 2 (by decide)
  have b11 : bt (mkB (v ++ c8 :: c9 :: c10 :: c11 :: c12 :: r)) 11 = (c11.toNat : Int) := b 3 (by decide)
  have b12 : bt (mkB (v ++ c8 :: c9 :: c10 :: c11 :: c12 :: r)) 12 = (c12.toNat : Int) := b 4 (by decide)
  have hx0 : (mkB (v ++ c8 :: c9 :: c10 :: c11 :: c12 :: r)).extract 0 8 = mkB v := by rw [ext_mk, List.drop_zero, ← hv, List.take_left]
  have hx1 : (mkB (v ++ c8 :: c9 :: c10 :: c11 :: c12 :: r)).extract 13 (v ++ c8 :: c9 :: c10 :: c11 :: c12 :: r).length = mkB r := by
    rw [ext_mk, List.take_of_length_le (Nat.le_refl _), show v ++ c8 :: c9 :: c10 :: c11 :: c12 :: r = (v ++ [c8, c9, c10, c11, c12]) ++ r by simp, show 13 = (v ++ [c8, c9, c10, c11, c12]).length by simp [hv], List.drop_left]
  have hz := mkB_size (v ++ c8 :: c9 :: c10 :: c11 :: c12 :: r)
  rw [← hz] at hx1
  generalize mkB (v ++ c8 :: c9 :: c10 :: c11 :: c12 :: r) = s at *
  unfold tollhouseref06_Status.f
  refine Ev.congr (fun k => by rw [if_neg (by omega), if_neg (by omega), if_pos (by omega), b8]) ?_
  by_cases e8 : c8 = 32
  · refine Ev.congr (fun k => by rw [if_pos (by rw [e8]; rfl), if_pos (by omega), b12]) ?_
    by_cases e12 : c12 = 32
    · rw [show (((c12.toNat : Nat) : Int) != 32) = false by rw [e12]; rfl]
      refine Ev.step (f := fun k => tollhouseref06_Status.l0 k s (minorM v) 0 9) (fun k => by rw [tollhouseref06_Status.j0, if_neg (by decide), if_pos (by decide), if_pos (by omega), hx0, refMinor_mk, Option.bind_some]) ?_
      by_cases d9 : digL c9
      · refine Ev.step (f := fun k => tollhouseref06_Status.l0 k s (minorM v) ((c9.toNat : Int) - 48) 10) (fun k => by
          rw [tollhouseref06_Status.l0, if_pos (by decide), if_pos (by decide), if_pos (by omega), b9, if_neg (by have := d9.1; omega), if_neg (by have := d9.2; omega), digStep 0 c9 d9 (by omega)]
          rw [show (10 * (0 : Int) + ((c9.toNat : Int) - 48)) = (c9.toNat : Int) - 48 by omega, show wrap64 ((9 : Int) + 1) = 10 by unfold wrap64; omega]) ?_
        by_cases d10 : digL c10
        · refine Ev.step (f := fun k => tollhouseref06_Status.l0 k s (minorM v) (10 * ((c9.toNat : Int) - 48) + ((c10.toNat : Int) - 48)) 11) (fun k => by
            rw [tollhouseref06_Status.l0, if_pos (by decide), if_pos (by decide), if_pos (by omega), b10, if_neg (by have := d10.1; omega), if_neg (by have := d10.2; omega), digStep _ c10 d10 (by have := d9.1; have := d9.2; omega), show wrap64 ((10 : Int) + 1) = 11 by unfold wrap64; omega]) ?_
          by_cases d11 : digL c11
          · have en : 10 * (10 * ((c9.toNat : Int) - 48) + ((c10.toNat : Int) - 48)) + ((c11.toNat : Int) - 48) = num3 c9 c10 c11 := by unfold num3; omega
            refine Ev.step (f := fun k => tollhouseref06_Status.l0 k s (minorM v) (num3 c9 c10 c11) 12) (fun k => by
              rw [tollhouseref06_Status.l0, if_pos (by decide), if_pos (by decide), if_pos (by omega), b11, if_neg (by have := d11.1; omega), if_neg (by have := d11.2; omega), digStep _ c11 d11 (by have := d9.1; have := d9.2; have := d10.1; have := d10.2; omega), en, show wrap64 ((11 : Int) + 1) = 12 by unfold wrap64; omega]) ?_
            by_cases hm : 0 ≤ minorM v
            · by_cases h1 : 100 ≤ num3 c9 c10 c11
              · by_cases h2 : num3 c9 c10 c11 ≤ 599
                · refine Ev.step (f := fun k => (tollhouseref02_Visible.f k (mkB r)).bind fun t254 => (if t254 = true then some (asS (minorM v, num3 c9 c10 c11, r, 0)) else some (asS (0, 0, [], 5)))) (fun k => by
                    rw [tollhouseref06_Status.l0, if_neg (by decide), if_neg (by omega), if_neg (by omega), if_neg (by omega), if_pos (by omega), hx1]; rfl) ?_
                  refine Ev.bind (refVis_mk r (by omega)) ?_
                  by_cases hvis : visL r = true
                  · rw [hyes ⟨by omega, e8, e12, d9, d10, d11, hm, h1, h2, hvis⟩]
                    exact Ev.congr (fun k => if_pos hvis) (Ev.now _)
                  · rw [hno (fun o => hvis o.2.2.2.2.2.2.2.2.2)]
                    exact Ev.congr (fun k => if_neg hvis) (Ev.now _)
                · rw [hno (fun o => h2 o.2.2.2.2.2.2.2.2.1)]
                  exact Ev.step (f := fun _ => some (asS (0, 0, [], 5))) (fun k => by rw [tollhouseref06_Status.l0, if_neg (by decide), if_neg (by omega), if_neg (by omega), if_pos (by omega)]; rfl) (Ev.now _)
              · rw [hno (fun o => h1 o.2.2.2.2.2.2.2.1)]
                exact Ev.step (f := fun _ => some (asS (0, 0, [], 5))) (fun k => by rw [tollhouseref06_Status.l0, if_neg (by decide), if_neg (by omega), if_pos (by omega)]; rfl) (Ev.now _)
            · rw [hno (fun o => hm o.2.2.2.2.2.2.1)]
              exact Ev.step (f := fun _ => some (asS (0, 0, [], 5))) (fun k => by rw [tollhouseref06_Status.l0, if_neg (by decide), if_pos (by omega)]; rfl) (Ev.now _)
          · rw [hno (fun o => d11 o.2.2.2.2.2.1)]
            refine Ev.step (f := fun _ => some (asS (0, 0, [], 5))) (fun k => ?_) (Ev.now _)
            rw [tollhouseref06_Status.l0, if_pos (by decide), if_pos (by decide), if_pos (by omega), b11]
            unfold digL at d11
            by_cases q : (c11.toNat : Int) < 48
            · rw [if_pos q]; rfl
            · rw [if_neg q, if_pos (by omega)]; rfl
        · rw [hno (fun o => d10 o.2.2.2.2.1)]
          refine Ev.step (f := fun _ => some (asS (0, 0, [], 5))) (fun k => ?_) (Ev.now _)
          rw [tollhouseref06_Status.l0, if_pos (by decide), if_pos (by decide), if_pos (by omega), b10]
          unfold digL at d10
          by_cases q : (c10.toNat : Int) < 48
          · rw [if_pos q]; rfl
          · rw [if_neg q, if_pos (by omega)]; rfl
      · rw [hno (fun o => d9 o.2.2.2.1)]
        refine Ev.step (f := fun _ => some (asS (0, 0, [], 5))) (fun k => ?_) (Ev.now _)
        rw [tollhouseref06_Status.l0, if_pos (by decide), if_pos (by decide), if_pos (by omega), b9]
        unfold digL at d9
        by_cases q : (c9.toNat : Int) < 48
        · rw [if_pos q]; rfl
        · rw [if_neg q, if_pos (by omega)]; rfl
    · rw [hno (fun o => e12 o.2.2.1), show (((c12.toNat : Nat) : Int) != 32) = true by
        simp only [bne_iff_ne, ne_eq]
        exact fun e => e12 (UInt8.toNat_inj.1 (by have : ((c12.toNat : Nat) : Int) = ((32 : UInt8).toNat : Int) := e; omega))]
      exact refS_bad _
  · rw [hno (fun o => e8 o.2.1)]
    refine Ev.congr (fun k => if_neg (fun e => e8 (UInt8.toNat_inj.1 (by have : ((c8.toNat : Nat) : Int) = ((32 : UInt8).toNat : Int) := e; omega)))) ?_
    exact refS_bad _
theorem refS_mk (l : U8s) : Ev (fun k => tollhouseref06_Status.f k (mkB l)) (asS (readS l)) := by
  by_cases h1 : 512 < l.length
  · rw [readS_short (.inr h1)]
    unfold tollhouseref06_Status.f
    exact Ev.congr (fun k => by rw [mkB_size, if_pos (by omega)]) (refS_bad _)
  · by_cases h2 : l.length < 13
    · rw [readS_short (.inl h2)]
      unfold tollhouseref06_Status.f
      exact Ev.congr (fun k => by rw [mkB_size, if_neg (by omega), if_pos (by omega)]) (refS_bad _)
    · have hd : ∃ c8 c9 c10 c11 c12 r, l.drop 8 = c8 :: c9 :: c10 :: c11 :: c12 :: r := by
        have hlen : (l.drop 8).length = l.length - 8 := List.length_drop ..
        match l.drop 8, hlen with
        | c8 :: c9 :: c10 :: c11 :: c12 :: r, _ => exact ⟨c8, c9, c10, c11, c12, r, rfl⟩
        | [], h => simp at h; omega
        | [_], h => simp at h; omega
        | [_, _], h => simp at h; omega
        | [_, _, _], h => simp at h; omega
        | [_, _, _, _], h => simp at h; omega
      obtain ⟨c8, c9, c10, c11, c12, r, hd⟩ := hd
      have e : l = l.take 8 ++ c8 :: c9 :: c10 :: c11 :: c12 :: r := by rw [← hd, List.take_append_drop]
      have hv : (l.take 8).length = 8 := by rw [List.length_take]; omega
      rw [e]
      exact refS_at (l.take 8) hv c8 c9 c10 c11 c12 r (by rw [← e]; omega)
theorem digits3 {st : Int} (h0 : 100 ≤ st) (h1 : st ≤ 599) : strOfNums [(wrap64 (48 + (wrap64 (Int.tdiv st 100)))) % 256, (wrap64 (48 + (Int.tmod (wrap64 (Int.tdiv st 10)) 10))) % 256, (wrap64 (48 + (Int.tmod st 10))) % 256] = mkB (Lib.itoa st) := by
  have hfin : ∀ i : Fin 500, strOfNums [(wrap64 (48 + (wrap64 (Int.tdiv ((100 + i.val : Nat) : Int) 100)))) % 256, (wrap64 (48 + (Int.tmod (wrap64 (Int.tdiv ((100 + i.val : Nat) : Int) 10)) 10))) % 256, (wrap64 (48 + (Int.tmod ((100 + i.val : Nat) : Int) 10))) % 256] = mkB [UInt8.ofNat (48 + (100 + i.val) / 100), UInt8.ofNat (48 + (100 + i.val) / 10 % 10), UInt8.ofNat (48 + (100 + i.val) % 10)] := by decide +kernel
  have h := hfin ⟨st.toNat - 100, by omega⟩
  have e : 100 + (st.toNat - 100) = st.toNat := by omega
  simp only [e, Int.toNat_of_nonneg (show 0 ≤ st by omega)] at h
  rw [h, (itoa_st h0 h1).2.2.2]
theorem digitS {n : Int} (h0 : 0 ≤ n) (h1 : n ≤ 1) : strOfNums [(wrap64 (48 + n)) % 256] = mkB (Lib.itoa n) := by
  obtain rfl | rfl : n = 0 ∨ n = 1 := by omega
  · rw [show Lib.itoa 0 = [48] by decide +kernel]; decide +kernel
  · rw [show Lib.itoa 1 = [49] by decide +kernel]; decide +kernel
theorem refPutS_bad (n st : Int) (r : ByteArray) : Ev (fun k => tollhouseref06_PutStatus.j0 k n st r true) (mkB [], 1) :=
  Ev.step (f := fun _ => some (mkB [], 1)) (fun k => by rw [tollhouseref06_PutStatus.j0, if_pos rfl]; rfl) (Ev.now _)
theorem refPutS_good (n st : Int) (r : U8s) (hr : r.length ≤ 1048576) (h0 : 0 ≤ n) (h1 : n ≤ 1) (h2 : 100 ≤ st) (h3 : st ≤ 599) : Ev (fun k => tollhouseref06_PutStatus.j0 k n st (mkB r) false) (mkB (putS n st r).1, (putS n st r).2) := by
  have hI : (Lib.itoa n).length = 1 := by rw [(itoa_01 h0 h1).2.2.2.2]; rfl
  have hJ : (Lib.itoa st).length = 3 := by rw [(itoa_st h2 h3).2.2.2]; rfl
  have e7 : (⟨#[72, 84, 84, 80, 47, 49, 46]⟩ : ByteArray) = mkB ver := rfl
  have e1 : (⟨#[32]⟩ : ByteArray) = mkB [32] := rfl
  have hv : ver.length = 7 := rfl
  have hcat : ((((mkB ver ++ mkB (Lib.itoa n)) ++ mkB [32]) ++ mkB (Lib.itoa st)) ++ mkB [32]) ++ mkB r = mkB (lineS n st r) := by
    rw [mkB_app, mkB_app, mkB_app, mkB_app, mkB_app]
    congr 1
    simp [lineS]
  have hlen : (lineS n st r).length ≤ 1073741824 := by unfold lineS; simp only [List.length_append, List.length_cons]; omega
  refine Ev.step (f := fun k => (tollhouseref06_Status.f k (mkB (lineS n st r))).bind fun bt261 => (if bt261.2.2.2 = 0 then some (mkB (lineS n st r), 0) else some (mkB [], 1))) (fun k => ?_) ?_
  · rw [tollhouseref06_PutStatus.j0, if_neg (by decide), Option.bind_some, Option.bind_some, digits3 h2 h3, digitS h0 h1, e7, e1,
      if_pos (by rw [mkB_size]; omega), if_pos (by rw [mkB_app, mkB_size, List.length_append]; omega), if_pos (by rw [mkB_app, mkB_app, mkB_size, mkB_size]; simp only [List.length_append, List.length_cons, List.length_nil]; omega),
      if_pos (by rw [mkB_app, mkB_app, mkB_app, mkB_size]; simp only [List.length_append, List.length_cons, List.length_nil]; omega), if_pos (by rw [mkB_app, mkB_app, mkB_app, mkB_app, mkB_size, mkB_size]; simp only [List.length_append, List.length_cons, List.length_nil]; omega), hcat]
    rfl
  · refine Ev.bind (refS_mk _) ?_
    rcases putS_cases n st r with ⟨h, ho⟩ | h
    · rw [read_put_S h, h]
      exact Ev.congr (fun k => rfl) (Ev.now _)
    · rw [h]
      refine Ev.congr (fun k => ?_) (Ev.now _)
      rcases readS_is (l := lineS n st r) with g | ⟨n', st', r', g, hp⟩
      · rw [g]; rfl
      · exfalso
        obtain ⟨o, e⟩ := putS_ok hp
        have c1 := cutS o
        rw [← e] at c1
        have c2 : spn 32 2 (lineS n st r) = [ver ++ Lib.itoa n, Lib.itoa st, r] := cut2 (itoa_01 h0 h1).1 (itoa_st h2 h3).2.2.1
        rw [c2] at c1
        injection c1 with _ c1
        injection c1 with _ c1
        injection c1 with c1 _
        have hlen2 := o.2.2.2.2.2
        rw [← e] at hlen2
        have hk : okS n st r := ⟨h0, h1, h2, h3, by rw [c1]; exact o.2.2.2.2.1, hlen2⟩
        unfold putS at h
        rw [if_pos hk] at h
        exact absurd (Prod.mk.inj h).2 (by decide)
theorem refPutS_mk (n st : Int) (r : U8s) (hr : r.length ≤ 1048576) : Ev (fun k => tollhouseref06_PutStatus.f k n st (mkB r)) (mkB (putS n st r).1, (putS n st r).2) := by
  by_cases hok : 0 ≤ n ∧ n ≤ 1 ∧ 100 ≤ st ∧ st ≤ 599
  · obtain ⟨h0, h1, h2, h3⟩ := hok
    have := refPutS_good n st r hr h0 h1 h2 h3
    unfold tollhouseref06_PutStatus.f
    by_cases q : n = 0
    · refine Ev.congr (fun k => by rw [if_pos q, if_neg (by omega), show decide (st > 599) = false by simp; omega]) this
    · refine Ev.congr (fun k => by rw [if_neg q, if_pos (by omega), if_neg (by omega), show decide (st > 599) = false by simp; omega]) this
  · have e : putS n st r = ([], 1) := by
      unfold putS
      rw [if_neg (fun o : okS n st r => hok ⟨o.1, o.2.1, o.2.2.1, o.2.2.2.1⟩)]
    rw [e]
    have hb := refPutS_bad n st (mkB r)
    unfold tollhouseref06_PutStatus.f
    refine Ev.congr (fun k => ?_) hb
    by_cases q : n = 0
    · rw [if_pos q]
      by_cases q2 : st < 100
      · rw [if_pos q2]
      · rw [if_neg q2, show decide (st > 599) = true by simp; omega]
    · rw [if_neg q]
      by_cases q1 : n = 1
      · rw [if_pos q1]
        by_cases q2 : st < 100
        · rw [if_pos q2]
        · rw [if_neg q2, show decide (st > 599) = true by simp; omega]
      · rw [if_neg q1]
theorem refReason_eq (st : Int) : tollhouseref06_Reason.f st = some (mkB (reasonL st)) := by
  unfold tollhouseref06_Reason.f reasonL
  by_cases h1 : st = 200
  · subst h1; rfl
  by_cases h2 : st = 304
  · subst h2; rfl
  by_cases h3 : st = 400
  · subst h3; rfl
  by_cases h4 : st = 403
  · subst h4; rfl
  by_cases h5 : st = 407
  · subst h5; rfl
  by_cases h6 : st = 413
  · subst h6; rfl
  by_cases h7 : st = 429
  · subst h7; rfl
  by_cases h8 : st = 431
  · subst h8; rfl
  by_cases h9 : st = 501
  · subst h9; rfl
  by_cases h10 : st = 502
  · subst h10; rfl
  by_cases h11 : st = 503
  · subst h11; rfl
  by_cases h12 : st = 504
  · subst h12; rfl
  rw [if_neg h1, if_neg h2, if_neg h3, if_neg h4, if_neg h5, if_neg h6, if_neg h7, if_neg h8, if_neg h9, if_neg h10, if_neg h11, if_neg h12, if_neg h12, if_neg h11, if_neg h10, if_neg h9, if_neg h8, if_neg h7, if_neg h6, if_neg h5, if_neg h4, if_neg h3, if_neg h2, if_neg h1]
  rfl
theorem StartStatuses_true (line : ByteArray) (minor status : Int) (reason : ByteArray) (w0 : line.size ≤ 140737488351232) (w1 : (Lit.int .i64 minor).wf = true) (w2 : (Lit.int .i64 status).wf = true) (w3 : reason.size ≤ 140737488351232) (hB : line.size + reason.size ≤ 1048576) : ∃ k, tollhouselaw06_StartStatuses.f k line minor status reason = some true := by
  obtain ⟨l, rfl⟩ : ∃ l, line = mkB l := ⟨_, (mkB_data line).symm⟩
  obtain ⟨r, rfl⟩ : ∃ l, reason = mkB l := ⟨_, (mkB_data reason).symm⟩
  simp only [mkB_size] at hB
  refine Ev.rounds (g := fun k => tollhouselaw06_StartStatuses.f k (mkB l) minor status (mkB r)) ?_
  unfold tollhouselaw06_StartStatuses.f
  have hrs : start_Reason.f status = some (mkB (reasonL status)) := by
    have := i64OfS w2
    unfold start_Reason.f
    rw [if_pos ⟨this.1, this.2⟩]; rfl
  refine Ev.congr (fun k => by rw [show start_Status.f (mkB l) = some (asS (readS l)) from Status_eq l (by omega), Option.bind_some]) (Ev.bind (refS_mk l) ?_)
  refine Ev.congr (fun k => by rw [PutStatus_eq minor status r (by omega) (i64OfS w1) (i64OfS w2), Option.bind_some]) (Ev.bind (refPutS_mk minor status r (by omega)) ?_)
  refine Ev.congr (fun k => by rw [if_pos rfl, if_pos rfl, if_pos rfl, if_pos rfl, if_pos rfl, if_pos rfl, hrs, Option.bind_some, refReason_eq, Option.bind_some, if_pos rfl]) (Ev.bind wakesEvS (Ev.now _))
end Go.Proofs.YtjmaobipfpiddaaDoor.P
