/- Plain laws of the document's functions of layer 6: a request's line. -/
import Derived.Test.YtjmaobipfpiddaaDoorPStartB
import Derived.Test.YtjmaobipfpiddaaDoorPRefTok
import Derived.Test.YtjmaobipfpiddaaDoorQRef06
set_option linter.unusedVariables false
set_option linter.unusedSimpArgs false
namespace Go.Proofs.YtjmaobipfpiddaaDoor.P
open Go.RowKit Go.Proofs.YtjmaobipfpiddaaDoorW.PrintWords Go.Proofs.YtjmaobipfpiddaaDoorW.PrintLast Go.Proofs.YtjmaobipfpiddaaDoorW.PrintMore

theorem refTok_mk (l : U8s) (h : l.length ≤ 1073741824) : Ev (fun k => tollhouseref02_Token.f k (mkB l)) (tokL l) := by
  have := refToken_ok (mkB l) (by rw [mkB_size]; omega)
  have e : tokenB (mkB l) = tokL l := by
    unfold tokenB tokL
    rw [bytesOf_mk, List.all_map, mkB_l]; rfl
  rwa [e] at this
theorem refVis_mk (l : U8s) (h : l.length ≤ 1073741824) : Ev (fun k => tollhouseref02_Visible.f k (mkB l)) (visL l) := by
  have := refVisible_ok (mkB l) (by rw [mkB_size]; omega)
  have e : visB (mkB l) = visL l := by
    unfold visB visL
    rw [bytesOf_mk, List.all_map]; rfl
  rwa [e] at this
theorem bt_mk (l : U8s) (i : Nat) (h : i < l.length) : bt (mkB l) (i : Int) = ((l[i]'h).toNat : Int) := by
  rw [bt_get _ _ (by rw [mkB_size]; exact h), get_at' _ _ (by rw [mkB_size]; exact h)]; rfl
theorem refTgt_l0 (l : U8s) (hl : l.length ≤ 1073741824) : ∀ (d i : Nat), l.length - i = d → i ≤ l.length → Ev (fun k => tollhouseref06_target.l0 k (mkB l) (i : Int)) (decide (0 < l.length) && !((l.drop i).any fun b => badI (b.toNat : Int))) := by
  intro d
  induction d with
  | zero =>
    intro i hd hi
    rw [List.drop_eq_nil_of_le (by omega)]
    refine Ev.step (f := fun _ => some (decide ((l.length : Int) > 0))) (fun k => by rw [tollhouseref06_target.l0, mkB_size, if_neg (by omega)]) ?_
    rw [List.any_nil, Bool.not_false, Bool.and_true, show decide (0 < l.length) = decide ((l.length : Int) > 0) by congr 1; rw [eq_iff_iff]; omega]
    exact Ev.now _
  | succ d ih =>
    intro i hd hi
    have hlt : i < l.length := by omega
    rw [List.drop_eq_getElem_cons hlt, List.any_cons]
    have hb := bt_mk l i hlt
    have hr := (l[i]).toNat_lt
    have e0 : decide (0 < l.length) = true := by simp; omega
    by_cases hbad : badI ((l[i]).toNat : Int) = true
    · rw [hbad, e0]
      refine Ev.step (f := fun _ => some false) (fun k => ?_) (Ev.now _)
      rw [tollhouseref06_target.l0, mkB_size, if_pos (by omega), if_pos (by omega), hb]
      unfold badI at hbad
      rw [Bool.or_eq_true, decide_eq_true_eq, decide_eq_true_eq] at hbad
      by_cases h1 : (((l[i]).toNat : Int)) < 33
      · rw [if_pos h1]
      · rw [if_neg h1, if_pos (by omega)]
    · have hb2 : badI ((l[i]).toNat : Int) = false := by simpa using hbad
      rw [hb2, Bool.false_or]
      refine Ev.step (f := fun k => tollhouseref06_target.l0 k (mkB l) ((i + 1 : Nat) : Int)) (fun k => ?_) (ih (i + 1) (by omega) (by omega))
      unfold badI at hb2
      rw [Bool.or_eq_false_iff, decide_eq_false_iff_not, decide_eq_false_iff_not] at hb2
      rw [tollhouseref06_target.l0, mkB_size, if_pos (by omega), if_pos (by omega), hb, if_neg (by omega), if_neg (by omega), w64n i (by omega)]
theorem refTgt_mk (l : U8s) (hl : l.length ≤ 1073741824) : Ev (fun k => tollhouseref06_target.f k (mkB l)) (tgtL l) := by
  have := refTgt_l0 l hl l.length 0 (by omega) (Nat.zero_le _)
  rw [List.drop_zero] at this
  have e : tgtL l = (decide (0 < l.length) && !(l.any fun b => badI (b.toNat : Int))) := by
    unfold tgtL
    cases l <;> simp
  rw [e]; exact this
def minorM (l : U8s) : Int := if l = ver ++ [48] then 0 else if l = ver ++ [49] then 1 else -1
theorem refMinor_mk (l : U8s) : tollhouseref06_minor.f (mkB l) = some (minorM l) := by
  unfold tollhouseref06_minor.f minorM
  rw [mkB_toList]
  show (if l = ver ++ [48] then _ else if l = ver ++ [49] then _ else _) = _
  split
  · rfl
  · split <;> rfl
/-- The places of blanks. -/
def spIdx : Nat → U8s → List Int
  | _, [] => []
  | i, b :: l => if b = 32 then (i : Int) :: spIdx (i + 1) l else spIdx (i + 1) l
theorem spIdx_none : ∀ (l : U8s) (i : Nat), (32 : UInt8) ∉ l → spIdx i l = []
  | [], _, _ => rfl
  | b :: l, i, h => by
    simp only [List.mem_cons, not_or] at h
    rw [spIdx, if_neg (fun e => h.1 e.symm), spIdx_none l (i + 1) h.2]
theorem spIdx_app : ∀ (x y : U8s) (i : Nat), (32 : UInt8) ∉ x → spIdx i (x ++ 32 :: y) = ((i + x.length : Nat) : Int) :: spIdx (i + x.length + 1) y
  | [], y, i, _ => by rw [List.nil_append, spIdx, if_pos rfl]; rfl
  | b :: x, y, i, h => by
    simp only [List.mem_cons, not_or] at h
    rw [List.cons_append, spIdx, if_neg (fun e => h.1 e.symm), spIdx_app x y (i + 1) h.2]
    have : i + 1 + x.length = i + (b :: x).length := by simp only [List.length_cons]; omega
    rw [this]
theorem spIdx_len : ∀ (l : U8s) (i : Nat), (spIdx i l).length ≤ l.length
  | [], _ => Nat.le_refl _
  | b :: l, i => by
    have := spIdx_len l (i + 1)
    rw [spIdx]
    split <;> simp only [List.length_cons] <;> omega
theorem refReq_l0 (l : U8s) (hl : l.length ≤ 1073741824) (r : ByteArray × ByteArray × Int × Int) (hr : Ev (fun k => tollhouseref06_Request.j1 k (mkB l) (spIdx 0 l) (if (l.length : Int) > 512 then true else ((spIdx 0 l).length : Int) != 2)) r) :
    ∀ (d i : Nat) (acc : List Int), l.length - i = d → i ≤ l.length → acc.length ≤ i → acc ++ spIdx i (l.drop i) = spIdx 0 l → Ev (fun k => tollhouseref06_Request.l0 k (mkB l) acc (i : Int)) r := by
  intro d
  induction d with
  | zero =>
    intro i acc hd hi ha he
    rw [List.drop_eq_nil_of_le (by omega), spIdx, List.append_nil] at he
    subst he
    refine Ev.step (f := fun k => tollhouseref06_Request.j1 k (mkB l) (spIdx 0 l) (if (l.length : Int) > 512 then true else ((spIdx 0 l).length : Int) != 2)) (fun k => ?_) hr
    rw [tollhouseref06_Request.l0, mkB_size, if_neg (by omega)]
    split <;> rfl
  | succ d ih =>
    intro i acc hd hi ha he
    have hlt : i < l.length := by omega
    have hb := bt_mk l i hlt
    rw [List.drop_eq_getElem_cons hlt, spIdx] at he
    by_cases h32 : l[i] = 32
    · rw [if_pos h32] at he
      refine Ev.step (f := fun k => tollhouseref06_Request.l0 k (mkB l) (acc ++ [(i : Int)]) ((i + 1 : Nat) : Int)) (fun k => ?_) (ih (i + 1) (acc ++ [(i : Int)]) (by omega) (by omega) (by rw [List.length_append]; simp only [List.length_cons, List.length_nil]; omega) (by rw [← he]; simp))
      rw [tollhouseref06_Request.l0, mkB_size, if_pos (by omega), if_pos (by omega), hb, if_pos (by rw [h32]; rfl), if_pos (by omega), w64n i (by omega)]
    · rw [if_neg h32] at he
      refine Ev.step (f := fun k => tollhouseref06_Request.l0 k (mkB l) acc ((i + 1 : Nat) : Int)) (fun k => ?_) (ih (i + 1) acc (by omega) (by omega) (by omega) he)
      rw [tollhouseref06_Request.l0, mkB_size, if_pos (by omega), if_pos (by omega), hb, if_neg (fun e => h32 (UInt8.toNat_inj.1 (by have : ((l[i]).toNat : Int) = ((32 : UInt8).toNat : Int) := e; omega))), w64n i (by omega)]
def asQ (x : U8s × U8s × Int × Int) : ByteArray × ByteArray × Int × Int := (mkB x.1, mkB x.2.1, x.2.2.1, x.2.2.2)
theorem refReq_bad (l : U8s) (L : List Int) : Ev (fun k => tollhouseref06_Request.j1 k (mkB l) L true) (asQ ([], [], 0, 5)) :=
  Ev.step (f := fun _ => some (asQ ([], [], 0, 5))) (fun k => by rw [tollhouseref06_Request.j1, if_pos rfl]; rfl) (Ev.now _)
theorem readQ_small {l m t : U8s} {n : Int} (h : putQ m t n = (l, 0)) : l.length ≤ 512 := by
  obtain ⟨o, e⟩ := putQ_ok h
  rw [e]; exact o.2.2.2.2.2
theorem readQ_big {l : U8s} (h : 512 < l.length) : readQ l = ([], [], 0, 5) := by
  rcases readQ_cases l with h1 | ⟨m, t, n, _, h2, _⟩
  · exact h1
  · have := readQ_small h2; omega
theorem ext_mk (l : U8s) (i j : Nat) : (mkB l).extract i j = mkB ((l.take j).drop i) := by
  rw [← mkB_data ((mkB l).extract i j)]
  congr 1
  rw [show ((mkB l).extract i j).data = (mkB l).data.extract i j from by simp [ByteArray.data_extract]]
  simp [mkB, List.extract_eq_take_drop, List.drop_take]
theorem putQ_iff (a b c : U8s) (hl : (a ++ 32 :: (b ++ 32 :: c)).length ≤ 512) : (tokL a = true ∧ a.length ≤ 32 ∧ tgtL b = true ∧ 0 ≤ minorM c) ↔ (c ≠ [] ∧ putQ a b (minorL c) = (a ++ 32 :: (b ++ 32 :: c), 0)) := by
  constructor
  · rintro ⟨h1, h2, h3, h4⟩
    have hc : (c = ver ++ Lib.itoa (minorL c)) ∧ 0 ≤ minorL c ∧ minorL c ≤ 1 ∧ c ≠ [] := by
      unfold minorM at h4
      split at h4
      · rename_i e; subst e; decide +kernel
      · split at h4
        · rename_i e; subst e; decide +kernel
        · exact absurd h4 (by decide)
    refine ⟨hc.2.2.2, ?_⟩
    have e : lineQ a b (minorL c) = a ++ 32 :: (b ++ 32 :: c) := by unfold lineQ; rw [← hc.1]
    unfold putQ
    rw [if_pos (show okQ a b (minorL c) from ⟨h1, h2, h3, hc.2.1, hc.2.2.1, by rw [e]; exact hl⟩), e]
  · rintro ⟨_, h⟩
    obtain ⟨o, e⟩ := putQ_ok h
    refine ⟨o.1, o.2.1, o.2.2.1, ?_⟩
    unfold lineQ at e
    have e2 := List.append_cancel_left e
    injection e2 with _ e2
    have e3 := List.append_cancel_left e2
    injection e3 with _ e3
    have h01 := itoa_01 o.2.2.2.1 o.2.2.2.2.1
    rw [h01.2.2.2.2] at e3
    obtain h0 | h0 : minorL c = 0 ∨ minorL c = 1 := by have := o.2.2.2.1; have := o.2.2.2.2.1; omega
    · rw [h0] at e3; rw [e3]; decide
    · rw [h0] at e3; rw [e3]; decide
theorem minorM_L {c : U8s} (h : 0 ≤ minorM c) : minorM c = minorL c := by
  unfold minorM at h ⊢
  split at h
  · rename_i e; subst e; decide
  · split at h
    · rename_i e; subst e; decide
    · exact absurd h (by decide)
theorem refReq_mk (l : U8s) (hl : l.length ≤ 1073741824) : Ev (fun k => tollhouseref06_Request.f k (mkB l)) (asQ (readQ l)) := by
  have main : Ev (fun k => tollhouseref06_Request.j1 k (mkB l) (spIdx 0 l) (if (l.length : Int) > 512 then true else ((spIdx 0 l).length : Int) != 2)) (asQ (readQ l)) := by
    by_cases hbig : 512 < l.length
    · rw [readQ_big hbig, if_pos (by omega)]
      exact refReq_bad l _
    · rw [if_neg (by omega)]
      rcases cut_cases 32 l with h0 | ⟨a, y, rfl, ha⟩
      · rw [spIdx_none l 0 h0]
        have e : readQ l = ([], [], 0, 5) := by unfold readQ; rw [spn_none 32 _ l h0]
        rw [e]
        exact refReq_bad l []
      · rcases cut_cases 32 y with h1 | ⟨b, z, rfl, hb⟩
        · rw [spIdx_app a y 0 ha, spIdx_none y _ h1]
          have e : readQ (a ++ 32 :: y) = ([], [], 0, 5) := by
            unfold readQ
            rw [show (a ++ 32 :: y).length = (a.length + y.length) + 1 by simp only [List.length_append, List.length_cons]; omega, spn_app 32 _ y a ha, spn_none 32 _ y h1]
          rw [e]
          exact refReq_bad _ _
        · rcases cut_cases 32 z with h2 | ⟨c, u, rfl, hc⟩
          · have hlen : (a ++ 32 :: (b ++ 32 :: z)).length = a.length + b.length + z.length + 2 := by simp only [List.length_append, List.length_cons]; omega
            rw [spIdx_app a _ 0 ha, spIdx_app b z _ hb, spIdx_none z _ h2]
            have e : readQ (a ++ 32 :: (b ++ 32 :: z)) = if z = [] then ([], [], 0, 5) else if putQ a b (minorL z) = (a ++ 32 :: (b ++ 32 :: z), 0) then (a, b, minorL z, 0) else ([], [], 0, 5) := by
              unfold readQ
              rw [hlen, cut3 (a.length + b.length + z.length) ha hb h2]
            have hsmall : (a ++ 32 :: (b ++ 32 :: z)).length ≤ 512 := by omega
            have hiff := putQ_iff a b z hsmall
            have e2 : readQ (a ++ 32 :: (b ++ 32 :: z)) = if tokL a = true ∧ a.length ≤ 32 ∧ tgtL b = true ∧ 0 ≤ minorM z then (a, b, minorL z, 0) else ([], [], 0, 5) := by
              rw [e]
              by_cases hC : tokL a = true ∧ a.length ≤ 32 ∧ tgtL b = true ∧ 0 ≤ minorM z
              · obtain ⟨g1, g2⟩ := hiff.1 hC
                rw [if_pos hC, if_neg g1, if_pos g2]
              · rw [if_neg hC]
                by_cases hz : z = []
                · rw [if_pos hz]
                · rw [if_neg hz, if_neg (fun g => hC (hiff.2 ⟨hz, g⟩))]
            have hpos : (tokL a = true ∧ a.length ≤ 32 ∧ tgtL b = true ∧ 0 ≤ minorM z) → readQ (a ++ 32 :: (b ++ 32 :: z)) = (a, b, minorL z, 0) := fun hC => by rw [e2, if_pos hC]
            have hneg : ¬ (tokL a = true ∧ a.length ≤ 32 ∧ tgtL b = true ∧ 0 ≤ minorM z) → readQ (a ++ 32 :: (b ++ 32 :: z)) = ([], [], 0, 5) := fun hC => by rw [e2, if_neg hC]
            clear e e2 hiff
            have r0 : rd [((0 + a.length : Nat) : Int), ((0 + a.length + 1 + b.length : Nat) : Int)] 0 = ((a.length : Nat) : Int) := by show ((0 + a.length : Nat) : Int) = _; omega
            have r1 : rd [((0 + a.length : Nat) : Int), ((0 + a.length + 1 + b.length : Nat) : Int)] 1 = ((a.length + 1 + b.length : Nat) : Int) := by show ((0 + a.length + 1 + b.length : Nat) : Int) = _; omega
            have w0 : wrap64 (((a.length : Nat) : Int) + 1) = ((a.length + 1 : Nat) : Int) := w64n _ (by omega)
            have w1 : wrap64 (((a.length + 1 + b.length : Nat) : Int) + 1) = ((a.length + 1 + b.length + 1 : Nat) : Int) := w64n _ (by omega)
            have x0 : (mkB (a ++ 32 :: (b ++ 32 :: z))).extract 0 a.length = mkB a := by rw [ext_mk]; simp
            have x1 : (mkB (a ++ 32 :: (b ++ 32 :: z))).extract (a.length + 1) (a.length + 1 + b.length) = mkB b := by
              rw [ext_mk, List.drop_take, show a ++ 32 :: (b ++ 32 :: z) = (a ++ [32]) ++ (b ++ 32 :: z) by simp, show a.length + 1 = (a ++ [(32 : UInt8)]).length by simp, List.drop_left]
              congr 1
              simp
            have x2 : (mkB (a ++ 32 :: (b ++ 32 :: z))).extract (a.length + 1 + b.length + 1) (a ++ 32 :: (b ++ 32 :: z)).length = mkB z := by
              rw [ext_mk, List.take_of_length_le (Nat.le_refl _), show a ++ 32 :: (b ++ 32 :: z) = (a ++ 32 :: (b ++ [32])) ++ z by simp, show a.length + 1 + b.length + 1 = (a ++ 32 :: (b ++ [(32 : UInt8)])).length by simp; omega, List.drop_left]
            refine Ev.step (f := fun k => (tollhouseref02_Token.f k (mkB a)).bind fun t230 => (if t230 = true then (if (a.length : Int) > 32 then some (asQ ([], [], 0, 5)) else ((tollhouseref06_target.f k (mkB b)).bind fun t231 => (if t231 = true then (if minorM z < 0 then some (asQ ([], [], 0, 5)) else some (asQ (a, b, minorM z, 0))) else some (asQ ([], [], 0, 5))))) else some (asQ ([], [], 0, 5)))) (fun k => ?_) ?_
            · rw [tollhouseref06_Request.j1, if_neg (by simp), if_pos (by simp), r0, r1, w0, w1, mkB_size, if_pos (by omega), if_pos (by omega), if_pos (by simp), if_pos (by omega), if_pos (by omega), if_pos (by omega), if_pos (by omega), if_pos (by omega)]
              simp only [Int.toNat_natCast]
              rw [x2, refMinor_mk, Option.bind_some, x0, x1, mkB_size]
              rfl
            · refine Ev.bind (refTok_mk a (by omega)) ?_
              by_cases h1 : tokL a = true
              · by_cases h3 : a.length ≤ 32
                · refine Ev.congr (fun k => by rw [if_pos h1, if_neg (by omega)]) (Ev.bind (refTgt_mk b (by omega)) ?_)
                  by_cases h4 : tgtL b = true
                  · by_cases h5 : 0 ≤ minorM z
                    · rw [hpos ⟨h1, h3, h4, h5⟩, ← minorM_L h5]
                      exact Ev.congr (fun k => by rw [if_pos h4, if_neg (by omega)]) (Ev.now _)
                    · rw [hneg (fun g => h5 g.2.2.2)]
                      exact Ev.congr (fun k => by rw [if_pos h4, if_pos (by omega)]) (Ev.now _)
                  · rw [hneg (fun g => h4 g.2.2.1)]
                    exact Ev.congr (fun k => by rw [if_neg h4]) (Ev.now _)
                · rw [hneg (fun g => h3 g.2.1)]
                  exact Ev.congr (fun k => by rw [if_pos h1, if_pos (by omega)]) (Ev.now _)
              · rw [hneg (fun g => h1 g.1)]
                exact Ev.congr (fun k => by rw [if_neg h1]) (Ev.now _)
          · rw [spIdx_app a _ 0 ha, spIdx_app b _ _ hb, spIdx_app c u _ hc]
            have hlen : (a ++ 32 :: (b ++ 32 :: (c ++ 32 :: u))).length = a.length + b.length + c.length + u.length + 1 + 1 + 1 := by simp only [List.length_append, List.length_cons]; omega
            have e : readQ (a ++ 32 :: (b ++ 32 :: (c ++ 32 :: u))) = ([], [], 0, 5) := by
              unfold readQ
              rw [hlen, spn_app 32 _ _ a ha, spn_app 32 _ _ b hb, spn_app 32 _ _ c hc]
              cases hs : spn 32 (a.length + b.length + c.length + u.length) u with
              | nil => exact absurd hs (spn_ne _ _ _)
              | cons x xs => rfl
            rw [e]
            have e3 : ∀ (p q r : Int) (t : List Int), (((p :: q :: r :: t).length : Int) != 2) = true := by intro p q r t; simp only [List.length_cons, bne_iff_ne, ne_eq]; omega
            rw [e3]
            exact refReq_bad _ _
  unfold tollhouseref06_Request.f
  exact refReq_l0 l hl _ main l.length 0 [] (by omega) (Nat.zero_le _) (Nat.le_refl _) (by rw [List.drop_zero, List.nil_append])
end Go.Proofs.YtjmaobipfpiddaaDoor.P
