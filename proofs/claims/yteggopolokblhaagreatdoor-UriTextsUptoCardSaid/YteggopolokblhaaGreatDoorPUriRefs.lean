/- URLs, plain: what the document's functions answer. -/
import Derived.Test.YteggopolokblhaaGreatDoorFuripath
import Derived.Test.YteggopolokblhaaGreatDoorPMk
import Derived.Test.YteggopolokblhaaGreatDoorPBase
import Derived.Test.YteggopolokblhaaGreatDoorFtextLower
import Derived.Test.YteggopolokblhaaGreatDoorQRef02
import Derived.Test.YteggopolokblhaaGreatDoorPUri
import Derived.Test.YteggopolokblhaaGreatDoorPNamedRef
import Derived.Test.YteggopolokblhaaGreatDoorQRef10b
import Derived.Test.YteggopolokblhaaGreatDoorFtollhouseref10port
import Derived.Test.YteggopolokblhaaGreatDoorPUriA
set_option linter.unusedVariables false
set_option linter.unusedSimpArgs false
namespace Go.Proofs.YteggopolokblhaaGreatDoor.P
open Go.RowKit Go.Proofs.YteggopolokblhaaGreatDoorW.PrintWords Go.Proofs.YteggopolokblhaaGreatDoorW.PrintLast Go.Proofs.YteggopolokblhaaGreatDoorW.PrintMore

def hex2 : U8s → Bool
  | a :: c :: _ => hexI (a.toNat : Int) && hexI (c.toNat : Int)
  | _ => false
def pctR : U8s → Bool
  | [] => true
  | b :: l => (if b = 37 then hex2 l else true) && pctR l
/-- A path, byte by byte. -/
def pathR : U8s → Bool
  | [] => true
  | b :: l => (if b = 37 then hex2 l else mayQ (b.toNat : Int)) && pathR l
theorem pathR_all : ∀ l : U8s, pathR l = (pctR l && l.all fun b => mayQ (b.toNat : Int))
  | [] => rfl
  | b :: l => by
    rw [pathR, pctR, List.all_cons, pathR_all l]
    by_cases hb : b = 37
    · rw [if_pos hb, if_pos hb, hb, show mayQ ((37 : UInt8).toNat : Int) = true by decide, Bool.true_and, Bool.and_assoc]
    · rw [if_neg hb, if_neg hb, Bool.true_and]
      cases pctR l <;> cases mayQ (b.toNat : Int) <;> rfl
theorem hex37 : hexI ((37 : UInt8).toNat : Int) = false := by decide
theorem hex63 : hexI ((63 : UInt8).toNat : Int) = false := by decide
/-- The parts of a text between its '%'s. -/
theorem parts_pct : ∀ (t : U8s) (k : Nat), t.count 37 ≤ k → ∃ x r, spn 37 k t = x :: r ∧ r.all pctOk = pctR t ∧ pctOk x = hex2 t ∧ x.head? = (match t with | [] => none | b :: _ => if b = 37 then none else some b)
  | [], k, _ => ⟨[], [], by cases k <;> rfl, rfl, rfl, rfl⟩
  | b :: t, k, h => by
    by_cases hb : b = 37
    · subst hb
      cases k with
      | zero => rw [List.count_cons_self] at h; omega
      | succ k =>
        obtain ⟨x, r, e, h1, h2, _⟩ := parts_pct t k (by rw [List.count_cons_self] at h; omega)
        refine ⟨[], x :: r, by rw [spn, if_pos (by simp), e], ?_, ?_, by simp⟩
        · rw [List.all_cons, h1, h2, pctR, if_pos rfl]
        · cases t with
          | nil => rfl
          | cons c l => rw [hex2, hex37, Bool.false_and]; rfl
    · obtain ⟨x, r, e, h1, _, h3⟩ := parts_pct t k (by rw [List.count_cons_of_ne (by simpa using hb)] at h; exact h)
      refine ⟨b :: x, r, ?_, by rw [h1, pctR, if_neg hb, Bool.true_and], ?_, by simp [hb]⟩
      · cases k with
        | zero => rw [spn, e]; rfl
        | succ k => rw [spn, if_neg (by simpa using hb), e]; rfl
      · cases t with
        | nil =>
          cases x with
          | nil => rfl
          | cons _ _ => simp at h3
        | cons c l =>
          by_cases hc : c = 37
          · subst hc
            cases x with
            | nil => rw [hex2, hex37, Bool.and_false]; rfl
            | cons _ _ => simp at h3
          · cases x with
            | nil => simp [hc] at h3
            | cons d y =>
              have : d = c := by simpa [hc] using h3
              subst this
              rw [hex2]
              unfold pctOk
              simp
theorem pct_end (l : U8s) : pctR (l ++ [63]) = pctR l := by
  induction l with
  | nil => rfl
  | cons b t ih =>
    rw [List.cons_append, pctR, pctR, ih]
    congr 1
    split
    · match t with
      | [] => rfl
      | [a] => rw [List.cons_append, List.nil_append, hex2, hex63, Bool.and_false]; rfl
      | a :: c :: _ => rfl
    · rfl
theorem path_eq (l : U8s) : pathL l = (l.head? == some 47 && pathR l) := by
  unfold pathL
  congr 1
  have ep : ((partsL l).drop 1).all pctOk = pctR (firstL l ++ 63 :: queryL l) := by
    obtain ⟨x, r, e, h1, _, _⟩ := parts_pct (firstL l ++ 63 :: queryL l) _ List.count_le_length
    unfold partsL
    rw [e, List.drop_succ_cons, List.drop_zero, h1]
  have em : ∀ x : U8s, (63 : UInt8) ∉ x → (x.all fun b => mayI (b.toNat : Int)) = x.all fun b => mayQ (b.toNat : Int) := by
    intro x hx
    induction x with
    | nil => rfl
    | cons b t ih =>
      simp only [List.mem_cons, not_or] at hx
      rw [List.all_cons, List.all_cons, ih hx.2]
      have : mayQ (b.toNat : Int) = mayI (b.toNat : Int) := by
        unfold mayQ
        have hb : ¬ ((b.toNat : Int) = 63) := fun e => hx.1 (UInt8.toNat_inj.1 (by have : (63 : UInt8).toNat = 63 := rfl; omega))
        rw [decide_eq_false hb, Bool.or_false]
      rw [this]
  rw [ep, pathR_all]
  rcases cut_cases 63 l with hc | ⟨x, y, rfl, hx⟩
  · have e : cut1 63 l = (l, [], false) := cut1_none 63 l hc
    have e1 : firstL l = l := by rw [firstL, e]
    have e2 : queryL l = [] := by rw [queryL, e]
    rw [e1, e2, pct_end, em l hc, List.all_nil, Bool.and_true]
  · have e : cut1 63 (x ++ 63 :: y) = (x, y, true) := cut1_app 63 y x hx
    have e1 : firstL (x ++ 63 :: y) = x := by rw [firstL, e]
    have e2 : queryL (x ++ 63 :: y) = y := by rw [queryL, e]
    rw [e1, e2, em x hx, List.all_append, List.all_cons, show mayQ ((63 : UInt8).toNat : Int) = true by decide, Bool.true_and]
theorem bytes_lowB (s : ByteArray) : bytesOf (lowB s) = (bytesOf s).map lowI := by
  unfold bytesOf lowB
  rw [show (ByteArray.mk (s.data.toList.map lowU).toArray).data.toList = s.data.toList.map lowU from by simp, List.map_map, List.map_map]
  apply List.map_congr_left
  intro c _
  exact (lowI_U c).symm
theorem refLower_from (s : ByteArray) (hs : s.size < 140737488355328) : ∀ (d i : Nat) (acc : List Int), s.size - i = d → i ≤ s.size → acc = ((bytesOf s).take i).map lowI → Ev (fun k => tollhouseref02_Lower.l0 k s acc (i : Int)) (lowB s) := by
  intro d
  induction d with
  | zero =>
    intro i acc hd hi ha
    refine Ev.step (f := fun _ => some (strOfNums acc)) (fun k => ?_) ?_
    · rw [tollhouseref02_Lower.l0, if_neg (by omega)]
    · rw [ha, List.take_of_length_le (by rw [bytes_len]; omega), ← bytes_lowB, strNums_bytes]
      exact Ev.now _
  | succ d ih =>
    intro i acc hd hi ha
    have hlt : i < (bytesOf s).length := by rw [bytes_len]; omega
    have hal : acc.length = i := by rw [ha, List.length_map, List.length_take]; omega
    have hb := bt_bytes s i hlt
    have hr := bytes_range (List.getElem_mem hlt)
    refine Ev.step (f := fun k => tollhouseref02_Lower.l0 k s (acc ++ [lowI (bytesOf s)[i]]) ((i + 1 : Nat) : Int)) (fun k => ?_) ?_
    · rw [tollhouseref02_Lower.l0, if_pos (by rw [bytes_len] at hlt; omega), if_pos (by omega), hb, w64n i (by omega)]
      rw [if_pos (show acc.length < 140737488355328 by omega), if_pos (show acc.length < 140737488355328 by omega)]
      unfold lowI
      by_cases h1 : (bytesOf s)[i] ≥ 65
      · rw [if_pos h1]
        by_cases h2 : (bytesOf s)[i] ≤ 90
        · rw [if_pos h2, if_pos ⟨h1, h2⟩, show ((bytesOf s)[i] + 32) % 256 = (bytesOf s)[i] + 32 by omega]
        · rw [if_neg h2, if_neg (fun h => h2 h.2)]
      · rw [if_neg h1, if_neg (fun h => h1 h.1)]
    · refine ih (i + 1) _ (by omega) (by rw [bytes_len] at hlt; omega) ?_
      rw [ha, List.take_succ_eq_append_getElem hlt, List.map_append]
      rfl
theorem refLower_ok (s : ByteArray) (hs : s.size < 140737488355328) : Ev (fun k => tollhouseref02_Lower.f k s) (lowB s) := by
  unfold tollhouseref02_Lower.f
  exact refLower_from s hs s.size 0 [] (by omega) (Nat.zero_le _) (by simp)
/-! ### paths -/
def signsB : ByteArray := ⟨#[45, 46, 95, 126, 33, 36, 38, 39, 40, 41, 42, 43, 44, 59, 61, 58, 64, 47]⟩
theorem hexR_fin : ∀ n : Fin 256, tollhouseref10_hex.f ((n.val : Nat) : Int) = some (hexI ((n.val : Nat) : Int)) := by decide +kernel
theorem hexR_ok (b : UInt8) : tollhouseref10_hex.f (b.toNat : Int) = some (hexI (b.toNat : Int)) := hexR_fin ⟨b.toNat, b.toNat_lt⟩
def letterB (c : Int) : Bool := (tollhouseref10_letter.f c).getD false
theorem letterR_fin : ∀ n : Fin 256, tollhouseref10_letter.f ((n.val : Nat) : Int) = some (letterB ((n.val : Nat) : Int)) := by decide +kernel
theorem letterR_ok (b : UInt8) : tollhouseref10_letter.f (b.toNat : Int) = some (letterB (b.toNat : Int)) := letterR_fin ⟨b.toNat, b.toNat_lt⟩
theorem okR_fin : ∀ n : Fin 256, n.val ≠ 37 → ((if letterB ((n.val : Nat) : Int) = true then true else (((n.val : Nat) : Int) == 63)) || (signsL.any fun s => ((n.val : Nat) : Int) == (s.toNat : Int))) = mayQ ((n.val : Nat) : Int) := by decide +kernel
theorem refPath_l1 (l : U8s) (i : Nat) (q : Bool) (c : Int) (r : Bool) (hi : i < 1073741824) (hr : Ev (fun k => tollhouseref10_path.l0 k (mkB l) signsB q ((i + 1 : Nat) : Int)) r) : ∀ (d j : Nat) (x : Bool), 18 - j = d → j ≤ 18 → Ev (fun k => tollhouseref10_path.l1 k (mkB l) signsB q (i : Int) c x (j : Int)) ((x || ((signsL.drop j).any fun s => c == (s.toNat : Int))) && r) := by
  have hw : wrap64 ((i : Int) + 1) = ((i + 1 : Nat) : Int) := w64n i (by omega)
  have hz : (signsB.size : Int) = 18 := rfl
  have hl : signsL.length = 18 := rfl
  intro d
  induction d with
  | zero =>
    intro j x hd hj
    rw [List.drop_eq_nil_of_le (by omega), List.any_nil, Bool.or_false]
    refine Ev.step (fun k => by rw [tollhouseref10_path.l1, hz, if_neg (by omega), hw]) ?_
    cases x with
    | true => exact Ev.congr (fun k => if_pos rfl) hr
    | false => exact Ev.congr (fun k => if_neg (by decide)) (Ev.now _)
  | succ d ih =>
    intro j x hd hj
    have hlt : j < signsL.length := by omega
    have hb : bt signsB (j : Int) = ((signsL[j]'hlt).toNat : Int) := bt_mk signsL j hlt
    have hwj : wrap64 ((j : Int) + 1) = ((j + 1 : Nat) : Int) := w64n j (by omega)
    rw [List.drop_eq_getElem_cons hlt, List.any_cons]
    refine Ev.step (fun k => by rw [tollhouseref10_path.l1, hz, if_pos (by omega), hwj, hb]) ?_
    cases x with
    | true =>
      refine Ev.congr (fun k => if_pos rfl) ?_
      have := ih (j + 1) true (by omega) (by omega)
      rw [Bool.true_or] at this ⊢
      exact this
    | false =>
      refine Ev.congr (fun k => by rw [if_neg (by decide), if_pos (by omega)]) ?_
      have := ih (j + 1) (c == ((signsL[j]'hlt).toNat : Int)) (by omega) (by omega)
      rw [Bool.false_or]
      exact this
theorem refPath_l0 (l : U8s) (hl : l.length ≤ 1048576) : ∀ (d i : Nat) (q : Bool), l.length - i = d → i ≤ l.length → Ev (fun k => tollhouseref10_path.l0 k (mkB l) signsB q (i : Int)) (pathR (l.drop i)) := by
  intro d
  induction d with
  | zero =>
    intro i q hd hi
    rw [List.drop_eq_nil_of_le (by omega), show pathR [] = true from rfl]
    exact Ev.step (fun k => by rw [tollhouseref10_path.l0, mkB_size, if_neg (by omega)]) (Ev.now _)
  | succ d ih =>
    intro i q hd hi
    have hlt : i < l.length := by omega
    have hb := bt_mk l i hlt
    have hw1 : wrap64 ((i : Int) + 1) = ((i + 1 : Nat) : Int) := w64n i (by omega)
    have hw2 : wrap64 ((i : Int) + 2) = ((i + 2 : Nat) : Int) := by unfold wrap64; omega
    have hn : ∀ c : UInt8, ((l[i].toNat : Int) = (c.toNat : Int)) ↔ l[i] = c := fun c => by
      rw [← UInt8.toNat_inj]; omega
    rw [List.drop_eq_getElem_cons hlt, pathR]
    refine Ev.step (fun k => by rw [tollhouseref10_path.l0, mkB_size, if_pos (by omega), if_pos (by omega), hb, hw1, hw2]) ?_
    refine ev_ifL (fun h37 => ?_) (fun h37 => ?_)
    · have e37 : l[i] = 37 := (hn 37).1 h37
      rw [if_pos e37]
      refine ev_ifL (fun h2 => ?_) (fun h2 => ?_)
      · have : hex2 (l.drop (i + 1)) = false := by
          have hlen : (l.drop (i + 1)).length ≤ 1 := by rw [List.length_drop]; omega
          match l.drop (i + 1), hlen with
          | [], _ => rfl
          | [_], _ => rfl
        rw [this, Bool.false_and]
        exact Ev.now _
      · have hl1 : i + 1 < l.length := by omega
        have hl2 : i + 2 < l.length := by omega
        have hb1 := bt_mk l (i + 1) hl1
        have hb2 := bt_mk l (i + 2) hl2
        have eh : hex2 (l.drop (i + 1)) = (hexI (l[i + 1].toNat : Int) && hexI (l[i + 2].toNat : Int)) := by
          rw [List.drop_eq_getElem_cons hl1, List.drop_eq_getElem_cons hl2]; rfl
        rw [eh, Bool.and_assoc]
        refine Ev.congr (fun k => by rw [if_pos (by omega), if_pos (by omega), hb1, hexR_ok, Option.bind_some]) ?_
        refine ev_ifL (fun g1 => ?_) (fun g1 => ?_)
        · rw [g1, Bool.true_and]
          refine Ev.congr (fun k => by rw [if_pos (by omega), if_pos (by omega), hb2, hexR_ok, Option.bind_some]) ?_
          refine ev_ifL (fun g2 => ?_) (fun g2 => ?_)
          · rw [g2, Bool.true_and]
            exact ih (i + 1) q (by omega) (by omega)
          · rw [Bool.eq_false_iff.2 g2, Bool.false_and]; exact Ev.now _
        · rw [Bool.eq_false_iff.2 g1, Bool.false_and]; exact Ev.now _
    · have e37 : ¬ l[i] = 37 := fun e => h37 ((hn 37).2 e)
      rw [if_neg e37]
      have hok := okR_fin ⟨l[i].toNat, l[i].toNat_lt⟩ (fun e => e37 (UInt8.toNat_inj.1 e))
      have hok : ((if letterB (l[i].toNat : Int) = true then true else ((l[i].toNat : Int) == 63)) || (signsL.any fun s => (l[i].toNat : Int) == (s.toNat : Int))) = mayQ (l[i].toNat : Int) := hok
      have hj : ∀ (q2 x : Bool), Ev (fun k => tollhouseref10_path.j3 k (mkB l) signsB q2 (i : Int) (l[i].toNat : Int) x) ((x || (signsL.any fun s => (l[i].toNat : Int) == (s.toNat : Int))) && pathR (l.drop (i + 1))) := fun q2 x => by
        refine Ev.step (fun k => by rw [tollhouseref10_path.j3]) ?_
        have := refPath_l1 l i q2 (l[i].toNat : Int) (pathR (l.drop (i + 1))) (by omega) (ih (i + 1) q2 (by omega) (by omega)) 18 0 x rfl (by decide)
        rw [List.drop_zero] at this
        exact this
      have hj2 : ∀ x : Bool, Ev (fun k => tollhouseref10_path.j2 k (mkB l) signsB q (i : Int) (l[i].toNat : Int) x) ((x || (signsL.any fun s => (l[i].toNat : Int) == (s.toNat : Int))) && pathR (l.drop (i + 1))) := fun x => by
        refine Ev.step (fun k => by rw [tollhouseref10_path.j2]) ?_
        exact ev_ifL (fun _ => hj _ x) (fun _ => hj _ x)
      refine Ev.congr (fun k => by rw [letterR_ok, Option.bind_some]) ?_
      rw [← hok]
      refine ev_ifL (fun g => ?_) (fun g => ?_)
      · rw [if_pos g]; exact hj2 true
      · rw [if_neg g]; exact hj2 _
theorem refPath_ok (l : U8s) (hl : l.length ≤ 1048576) : Ev (fun k => tollhouseref10_path.f k (mkB l)) (pathL l) := by
  rw [path_eq]
  unfold tollhouseref10_path.f
  have hj : ∀ x : Bool, Ev (fun k => tollhouseref10_path.j0 k (mkB l) signsB x) (!x && pathR l) := fun x => by
    refine Ev.step (fun k => by rw [tollhouseref10_path.j0]) ?_
    cases x with
    | true => exact Ev.congr (fun k => if_pos rfl) (Ev.now _)
    | false =>
      have := refPath_l0 l hl l.length 0 false (by omega) (Nat.zero_le _)
      rw [List.drop_zero] at this
      exact Ev.congr (fun k => if_neg (by decide)) this
  cases l with
  | nil => exact Ev.congr (fun k => if_pos (by rw [mkB_size]; rfl)) (hj true)
  | cons b t =>
    have hb : bt (mkB (b :: t)) 0 = (b.toNat : Int) := bt_mk (b :: t) 0 (by simp)
    refine Ev.congr (fun k => by rw [if_neg (by rw [mkB_size, List.length_cons]; omega), if_pos (by rw [mkB_size, List.length_cons]; omega), hb]) ?_
    have e : (!(((b.toNat : Nat) : Int) != 47)) = (some b == some 47) := by
      by_cases hq : b = 47
      · subst hq; rfl
      · have h1 : ¬ ((b.toNat : Int) = 47) := fun e => hq (UInt8.toNat_inj.1 (by have : (47 : UInt8).toNat = 47 := rfl; omega))
        have h2 : (((b.toNat : Nat) : Int) != 47) = true := bne_iff_ne.2 h1
        rw [h2]
        symm
        simpa using hq
    have := hj (((b.toNat : Nat) : Int) != 47)
    rw [e] at this
    exact this
/-! ### cuts -/
def outside (c : U8s) (b : UInt8) : Bool := !(c.any fun x => b == x)
theorem refCut_l1 (s c : U8s) (i : Nat) (hi : i < s.length) (hs : s.length ≤ 1073741824) (hc : c.length ≤ 64) (r : ByteArray × ByteArray) (hr : Ev (fun k => tollhouseref10_cut.l0 k (mkB s) (mkB c) ((i + 1 : Nat) : Int)) r) : ∀ (d j : Nat), c.length - j = d → j ≤ c.length → Ev (fun k => tollhouseref10_cut.l1 k (mkB s) (mkB c) (i : Int) (j : Int)) (if ((c.drop j).any fun x => s[i] == x) = true then (mkB (s.take i), mkB (s.drop i)) else r) := by
  have hw : wrap64 ((i : Int) + 1) = ((i + 1 : Nat) : Int) := w64n i (by omega)
  have hb := bt_mk s i hi
  intro d
  induction d with
  | zero =>
    intro j hd hj
    rw [List.drop_eq_nil_of_le (by omega), List.any_nil, if_neg (by decide)]
    exact Ev.step (fun k => by rw [tollhouseref10_cut.l1, mkB_size, mkB_size, if_neg (by omega), hw]) hr
  | succ d ih =>
    intro j hd hj
    have hlt : j < c.length := by omega
    have ih := ih (j + 1) (by omega) (by omega)
    have hwj : wrap64 ((j : Int) + 1) = ((j + 1 : Nat) : Int) := w64n j (by omega)
    have z1 : (j : Int) < (c.length : Int) := Int.ofNat_lt.2 hlt
    have z2 : (0 : Int) ≤ (i : Int) := Int.natCast_nonneg _
    have z3 : (i : Int) < (s.length : Int) := Int.ofNat_lt.2 hi
    have z4 : (0 : Int) ≤ (j : Int) := Int.natCast_nonneg _
    have z5 : (i : Int) ≤ (s.length : Int) := Int.le_of_lt z3
    have hbc := bt_mk c j hlt
    rw [List.drop_eq_getElem_cons hlt, List.any_cons]
    refine Ev.step (fun k => by rw [tollhouseref10_cut.l1, mkB_size, mkB_size, if_pos z1, if_pos z2, if_pos z3, if_pos z4, hb, hbc, hwj]) ?_
    refine ev_ifL (fun g => ?_) (fun g => ?_)
    · have e : (s[i] == c[j]) = true := by
        rw [beq_iff_eq]; exact UInt8.toNat_inj.1 (Int.ofNat.inj g)
      rw [e, Bool.true_or, if_pos rfl]
      have e1 : (mkB s).extract 0 ((i : Int)).toNat = mkB (s.take i) := by rw [Int.toNat_natCast, ext_mk, List.drop_zero]
      have e2 : (mkB s).extract ((i : Int)).toNat s.length = mkB (s.drop i) := by rw [Int.toNat_natCast, ext_mk, List.take_of_length_le (Nat.le_refl _)]
      exact Ev.congr (fun k => by rw [if_pos z5, e1, e2]) (Ev.now _)
    · have e : (s[i] == c[j]) = false := by
        rw [beq_eq_false_iff_ne]; intro e; exact g (by rw [e])
      rw [e, Bool.false_or]
      exact ih
theorem refCut_l0 (s c : U8s) (hs : s.length ≤ 1073741824) (hc : c.length ≤ 64) : ∀ (d i : Nat), s.length - i = d → i ≤ s.length → Ev (fun k => tollhouseref10_cut.l0 k (mkB s) (mkB c) (i : Int)) (mkB (s.take i ++ (s.drop i).takeWhile (outside c)), mkB ((s.drop i).dropWhile (outside c))) := by
  intro d
  induction d with
  | zero =>
    intro i hd hi
    rw [List.drop_eq_nil_of_le (by omega), List.take_of_length_le (by omega), List.takeWhile_nil, List.append_nil, List.dropWhile_nil]
    exact Ev.step (fun k => by rw [tollhouseref10_cut.l0, mkB_size, if_neg (by omega)]; rfl) (Ev.now _)
  | succ d ih =>
    intro i hd hi
    have hlt : i < s.length := by omega
    refine Ev.step (fun k => by rw [tollhouseref10_cut.l0, mkB_size, if_pos (by omega)]) ?_
    have h := refCut_l1 s c i hlt hs hc _ (ih (i + 1) (by omega) (by omega)) c.length 0 (by omega) (Nat.zero_le _)
    rw [List.drop_zero] at h
    have e : (mkB (s.take i ++ (s.drop i).takeWhile (outside c)), mkB ((s.drop i).dropWhile (outside c))) = (if (c.any fun x => s[i] == x) = true then (mkB (s.take i), mkB (s.drop i)) else (mkB (s.take (i + 1) ++ (s.drop (i + 1)).takeWhile (outside c)), mkB ((s.drop (i + 1)).dropWhile (outside c)))) := by
      rw [List.drop_eq_getElem_cons hlt, List.takeWhile_cons, List.dropWhile_cons]
      have eo : outside c s[i] = !(c.any fun x => s[i] == x) := rfl
      rw [eo]
      cases (c.any fun x => s[i] == x) with
      | true => simp
      | false =>
        rw [if_pos (by decide), if_pos (by decide), if_neg (by decide), List.take_succ_eq_append_getElem hlt, List.append_assoc]
        rfl
    rw [e]
    exact h
theorem refCut_ok (s c : U8s) (hs : s.length ≤ 1073741824) (hc : c.length ≤ 64) : Ev (fun k => tollhouseref10_cut.f k (mkB s) (mkB c)) (mkB (s.takeWhile (outside c)), mkB (s.dropWhile (outside c))) := by
  have := refCut_l0 s c hs hc s.length 0 (by omega) (Nat.zero_le _)
  rw [List.take_zero, List.nil_append, List.drop_zero] at this
  exact this
theorem outside_cuts : outside [47, 63] = notCut := by
  funext b
  simp [outside, notCut]
theorem cut_colon : ∀ l : U8s, (l.takeWhile (outside [58]) = (cut1 58 l).1) ∧ (l.dropWhile (outside [58]) = if (cut1 58 l).2.2 = true then 58 :: (cut1 58 l).2.1 else [])
  | [] => ⟨rfl, rfl⟩
  | b :: l => by
    have ih := cut_colon l
    have eo : outside [58] b = !(b == 58) := by simp [outside]
    rw [List.takeWhile_cons, List.dropWhile_cons, eo, cut1]
    by_cases hb : b = 58
    · subst hb
      simp
    · have : (!(b == 58)) = true := by simp [hb]
      rw [this, if_pos rfl, if_pos rfl, if_neg hb, ih.1, ih.2]
      exact ⟨rfl, rfl⟩
theorem cut1_empty (c : UInt8) : ∀ l : U8s, (cut1 c l).2.2 = false → (cut1 c l).2.1 = []
  | [], _ => rfl
  | b :: l, h => by
    rw [cut1] at h ⊢
    split at h
    · exact Bool.noConfusion h
    · rename_i hb
      rw [if_neg hb]
      exact cut1_empty c l h
/-! ### ports -/
theorem refPort_ok (y : U8s) (hy : y.length ≤ 1073741824) : tollhouseref10_port.f (mkB y) = some (portR y) := by
  unfold tollhouseref10_port.f
  rw [if_pos (by rw [mkB_size]; omega)]
  rfl
theorem valR_parse : ∀ (y : U8s) (acc : Nat), acc < 1000000000000 → (acc + 1) * 10 ^ y.length ≤ 1000000000000 → (∃ u, Lib.parseUint10 acc y = .ok u ∧ valR acc y = (if u > 65535 then 0 else (u : Int)) ∧ (1 ≤ acc → 1 ≤ u ∧ Lib.decDigits u = Lib.decDigits acc ++ y)) ∨ valR acc y = 0
  | [], acc, _, _ => .inl ⟨acc, rfl, rfl, fun h => ⟨h, by rw [List.append_nil]⟩⟩
  | b :: r, acc, h, hp => by
    rw [valR, Lib.parseUint10]
    by_cases hd : b.toNat < 48 ∨ 57 < b.toNat
    · rw [if_pos hd]; exact .inr rfl
    · rw [if_neg hd, if_pos (by omega), if_neg (by omega), if_neg (by omega)]
      rw [List.length_cons, Nat.pow_succ] at hp
      have hpos : 1 ≤ 10 ^ r.length := Nat.one_le_iff_ne_zero.2 (by simp)
      have hle : (acc * 10 + (b.toNat - 48) + 1) * 10 ^ r.length ≤ (acc + 1) * (10 ^ r.length * 10) := by
        have : acc * 10 + (b.toNat - 48) + 1 ≤ (acc + 1) * 10 := by omega
        calc (acc * 10 + (b.toNat - 48) + 1) * 10 ^ r.length ≤ ((acc + 1) * 10) * 10 ^ r.length := Nat.mul_le_mul_right _ this
          _ = (acc + 1) * (10 ^ r.length * 10) := by rw [Nat.mul_assoc, Nat.mul_comm 10]
      have hlt : acc * 10 + (b.toNat - 48) < 1000000000000 := by
        have : acc * 10 + (b.toNat - 48) + 1 ≤ (acc * 10 + (b.toNat - 48) + 1) * 10 ^ r.length := Nat.le_mul_of_pos_right _ hpos
        omega
      have e : 10 * acc + (b.toNat - 48) = acc * 10 + (b.toNat - 48) := by omega
      rw [e]
      rcases valR_parse r (acc * 10 + (b.toNat - 48)) hlt (by omega) with ⟨u, h1, h2, h3⟩ | h0
      · refine .inl ⟨u, h1, h2, fun ha => ?_⟩
        obtain ⟨g1, g2⟩ := h3 (by omega)
        refine ⟨g1, ?_⟩
        rw [g2, Lib.decDigits, dif_neg (by omega)]
        have e1 : (acc * 10 + (b.toNat - 48)) / 10 = acc := by omega
        have e2 : (acc * 10 + (b.toNat - 48)) % 10 = b.toNat - 48 := by omega
        have e3 : UInt8.ofNat (48 + (b.toNat - 48)) = b := by
          apply UInt8.toNat_inj.1
          rw [UInt8.toNat_ofNat']
          have := b.toNat_lt
          omega
        rw [e1, e2, e3, List.append_assoc]
        rfl
      · exact .inr h0
theorem dec_head : ∀ (f p : Nat), p < 10 ^ f → 1 ≤ p → (Lib.decDigits p).head? ≠ some 48
  | 0, p, h, h1 => by simp at h; omega
  | f + 1, p, h, h1 => by
    rw [Lib.decDigits]
    split
    · intro e
      have e : UInt8.ofNat (48 + p) = 48 := by simpa using e
      have := congrArg UInt8.toNat e
      rw [dec_ofNat p (by assumption)] at this
      have h48 : (48 : UInt8).toNat = 48 := rfl
      omega
    · have ih := dec_head f (p / 10) (by rw [Nat.pow_succ] at h; omega) (by omega)
      rw [List.head?_append]
      cases hd : (Lib.decDigits (p / 10)).head? with
      | none => exact absurd (List.head?_eq_none_iff.1 hd) (dec_ne _)
      | some b => rw [hd] at ih; exact ih
theorem port_eq (y : U8s) : portR y = portL y := by
  rcases portL_cases y with h | ⟨p, h, h1, h2, rfl⟩
  · rw [h]
    unfold portR
    split
    · rfl
    · rename_i hc
      rcases y with _ | ⟨b, r⟩
      · exact absurd (.inl rfl) hc
      · have hl : (b :: r).length ≤ 5 := by
          by_cases hq : 5 < (b :: r).length
          · exact absurd (.inr (.inl hq)) hc
          · omega
        have h48 : b ≠ 48 := fun e => hc (.inr (.inr (by rw [e]; rfl)))
        rw [valR]
        split
        · rfl
        · rename_i hd
          have hn48 : b.toNat ≠ 48 := fun e => h48 (UInt8.toNat_inj.1 e)
          rw [List.length_cons] at hl
          have hpw : 10 ^ r.length ≤ 10000 := by
            have : (10 : Nat) ^ r.length ≤ 10 ^ 4 := Nat.pow_le_pow_right (by decide) (by omega)
            omega
          have hmul : (10 * 0 + (b.toNat - 48) + 1) * 10 ^ r.length ≤ 10 * 10000 := Nat.mul_le_mul (by omega) hpw
          rcases valR_parse r (10 * 0 + (b.toNat - 48)) (by omega) (by omega) with ⟨u, g1, g2, g3⟩ | g0
          · rw [g2]
            split
            · rfl
            · exfalso
              obtain ⟨k1, k2⟩ := g3 (by omega)
              have e1 : Lib.decDigits (10 * 0 + (b.toNat - 48)) = [b] := by
                rw [Lib.decDigits, dif_pos (by omega)]
                have e3 : UInt8.ofNat (48 + (10 * 0 + (b.toNat - 48))) = b := by
                  apply UInt8.toNat_inj.1
                  rw [UInt8.toNat_ofNat']
                  have := b.toNat_lt
                  omega
                rw [e3]
              rw [e1] at k2
              have hpd := portL_dec u k1 (by omega)
              rw [k2] at hpd
              have h : portL ([b] ++ r) = 0 := h
              omega
          · exact g0
  · rw [h]
    have hlen := dec_len 5 p (by omega) (by decide)
    have hne := dec_ne p
    have hhd := dec_head 5 p (by omega) h1
    have hm := dec_mem 5 p (by omega)
    have hp := dec_parse 5 p (by omega) (by omega)
    unfold portR
    rw [if_neg (by
      rintro (e | e | e)
      · exact hne e
      · omega
      · exact hhd e)]
    have hpw : 10 ^ (Lib.decDigits p).length ≤ 100000 := by
      have : (10 : Nat) ^ (Lib.decDigits p).length ≤ 10 ^ 5 := Nat.pow_le_pow_right (by decide) hlen
      omega
    have key : ∀ (y : U8s) (acc u : Nat), (∀ b ∈ y, 48 ≤ b.toNat ∧ b.toNat ≤ 57) → Lib.parseUint10 acc y = .ok u → valR acc y = if u > 65535 then 0 else (u : Int) := by
      intro y
      induction y with
      | nil =>
        intro acc u _ hq
        have : acc = u := by injection hq
        rw [valR, this]
      | cons b r ih =>
        intro acc u hb hq
        have hb0 := hb b List.mem_cons_self
        rw [Lib.parseUint10, if_pos hb0] at hq
        split at hq
        · cases hq
        · split at hq
          · cases hq
          · rw [valR, if_neg (by omega), show 10 * acc + (b.toNat - 48) = acc * 10 + (b.toNat - 48) by omega]
            exact ih _ u (fun c hc => hb c (List.mem_cons_of_mem _ hc)) hq
    rw [key _ 0 p hm hp, if_neg (by omega)]
/-! ### numbers -/
theorem refDec_l0 : ∀ (f n : Nat) (acc : U8s), n < 10 ^ f → n < 1000000000000000000 → acc.length + f ≤ 1000 → 0 < f → Ev (fun k => tollhouseref10_decimal.l0 k (n : Int) (mkB acc)) (mkB (Lib.decDigits n ++ acc))
  | 0, n, acc, _, _, _, h => absurd h (by decide)
  | f + 1, n, acc, h, hb, hl, _ => by
    rw [Lib.decDigits]
    refine Ev.step (fun k => by rw [tollhouseref10_decimal.l0]) ?_
    have hd : ∀ m : Nat, m < 10 → strOfNums [(wrap64 (48 + (m : Int))) % 256] = mkB [UInt8.ofNat (48 + m)] := fun m hm => by
      have : ((wrap64 (48 + (m : Int))) % 256).toNat = 48 + m := by unfold wrap64; omega
      show mkB [UInt8.ofNat ((wrap64 (48 + (m : Int))) % 256).toNat] = _
      rw [this]
    by_cases h10 : n < 10
    · rw [dif_pos h10]
      refine Ev.congr (fun k => by rw [if_neg (by omega), Option.bind_some, hd n h10, mkB_size, mkB_size, if_pos (by simp only [List.length_cons, List.length_nil]; omega), mkB_app]) (Ev.now _)
    · rw [dif_neg h10]
      have et : Int.tmod (n : Int) 10 = ((n % 10 : Nat) : Int) := by
        rw [Int.tmod_eq_emod_of_nonneg (by omega)]; omega
      have eq : wrap64 (Int.tdiv (n : Int) 10) = ((n / 10 : Nat) : Int) := by
        rw [Int.tdiv_eq_ediv_of_nonneg (by omega)]; unfold wrap64; omega
      refine Ev.congr (fun k => by rw [if_pos (by omega), et, eq, Option.bind_some, hd (n % 10) (by omega), mkB_size, mkB_size, if_pos (by simp only [List.length_cons, List.length_nil]; omega), mkB_app]) ?_
      rw [List.append_assoc]
      have hf : 0 < f := by
        cases f with
        | zero => simp at h; omega
        | succ f => omega
      exact refDec_l0 f (n / 10) ([UInt8.ofNat (48 + n % 10)] ++ acc) (by rw [Nat.pow_succ] at h; omega) (by omega) (by simp only [List.length_append, List.length_cons, List.length_nil]; omega) hf
theorem refAuth_ok (h t : U8s) (p : Int) (hl : h.length ≤ 1073741824) (h1 : 1 ≤ p) (h2 : p ≤ 65535) : Ev (fun k => tollhouseref10_authority.f k (mkB h) p (mkB t)) (mkB (authL h p)) := by
  obtain ⟨n, rfl⟩ : ∃ n : Nat, p = n := ⟨p.toNat, by omega⟩
  unfold tollhouseref10_authority.f authL
  refine ev_ifL (fun h8 => ?_) (fun h8 => ?_)
  · rw [if_pos h8]; exact Ev.now _
  · rw [if_neg h8]
    have hd := refDec_l0 5 n [] (by omega) (by omega) (by decide) (by decide)
    rw [List.append_nil] at hd
    have hlen := dec_len 5 n (by omega) (by decide)
    refine Ev.congr (fun k => by rw [mkB_size, if_pos (by omega)]) ?_
    refine Ev.bind (show Ev (fun k => tollhouseref10_decimal.f k (n : Int)) _ from hd) ?_
    have e1 : (⟨#[58]⟩ : ByteArray) = mkB [58] := rfl
    rw [Lib.itoa_nonneg, e1, mkB_app, mkB_size, mkB_size]
    refine Ev.congr (fun k => by rw [if_pos (by rw [List.length_append]; simp only [List.length_cons, List.length_nil]; omega), mkB_app, List.append_assoc]; rfl) (Ev.now _)
theorem refMay_ok (h t : U8s) (p : Int) (hh : h.length ≤ 1048576) (ht : t.length ≤ 1048576) : Ev (fun k => tollhouseref10_May.f k (mkB h) p (mkB t)) (mayL h p t) := by
  unfold tollhouseref10_May.f mayL
  refine Ev.bind (namedRef_ok h hh) ?_
  refine ev_ifL (fun hn => ?_) (fun hn => ?_)
  · rw [hn, Bool.true_and]
    refine ev_ifL (fun h1 => ?_) (fun h1 => ?_)
    · rw [decide_eq_false (show ¬ 1 ≤ p by omega), Bool.false_and]; exact Ev.now _
    · rw [decide_eq_true (show 1 ≤ p by omega), Bool.true_and]
      refine ev_ifL (fun h2 => ?_) (fun h2 => ?_)
      · rw [decide_eq_false (show ¬ p ≤ 65535 by omega), Bool.false_and]; exact Ev.now _
      · rw [decide_eq_true (show p ≤ 65535 by omega), Bool.true_and]
        refine Ev.bind (refPath_ok t ht) ?_
        refine ev_ifL (fun h3 => ?_) (fun h3 => ?_)
        · rw [h3, Bool.true_and]
          have hal := authL_len h p (by omega) (by omega)
          have e : wrap64 ((wrap64 (7 + ((mkB (authL h p)).size : Int))) + ((mkB t).size : Int)) = ((7 + (authL h p).length + t.length : Nat) : Int) := by
            rw [mkB_size, mkB_size]; unfold wrap64; omega
          refine Ev.bind (refAuth_ok h t p (by omega) (by omega) (by omega)) ?_
          rw [e]
          have e2 : decide (((7 + (authL h p).length + t.length : Nat) : Int) ≤ 384) = decide (7 + (authL h p).length + t.length ≤ 384) := by
            congr 1; rw [eq_iff_iff]; omega
          rw [e2]
          exact Ev.now _
        · rw [Bool.eq_false_iff.2 h3, Bool.false_and]; exact Ev.now _
  · rw [Bool.eq_false_iff.2 hn, Bool.false_and]; exact Ev.now _
theorem refText_ok (h t : U8s) (p : Int) (hh : h.length ≤ 1048576) (ht : t.length ≤ 1048576) : Ev (fun k => tollhouseref10_Text.f k (mkB h) p (mkB t)) (mkB (textL h p t)) := by
  unfold tollhouseref10_Text.f textL
  refine Ev.bind (refMay_ok h t p hh ht) ?_
  refine ev_ifL (fun hm => ?_) (fun hm => ?_)
  · obtain ⟨_, h1, h2, _, hs⟩ := mayL_port hm
    have e1 : (⟨#[104, 116, 116, 112, 58, 47, 47]⟩ : ByteArray) = mkB schemeL := rfl
    have hz : schemeL.length = 7 := rfl
    refine Ev.bind (refAuth_ok h t p (by omega) h1 h2) ?_
    refine Ev.congr (fun k => by rw [mkB_size, if_pos (by omega), e1, mkB_app, mkB_size, mkB_size, if_pos (by rw [List.length_append]; omega), mkB_app]) ?_
    rw [if_pos hm]
    exact Ev.now _
  · rw [if_neg hm]; exact Ev.now _
theorem refHost_ok (h t : U8s) (p : Int) (hh : h.length ≤ 1048576) (ht : t.length ≤ 1048576) : Ev (fun k => tollhouseref10_Host.f k (mkB h) p (mkB t)) (mkB (hostL h p t)) := by
  unfold tollhouseref10_Host.f hostL
  refine Ev.bind (refMay_ok h t p hh ht) ?_
  refine ev_ifL (fun hm => ?_) (fun hm => ?_)
  · obtain ⟨_, h1, h2, _, hs⟩ := mayL_port hm
    refine Ev.bind (refAuth_ok h t p (by omega) h1 h2) ?_
    rw [if_pos hm]
    exact Ev.now _
  · rw [if_neg hm]; exact Ev.now _
theorem refLow_ok (l : U8s) (hl : l.length ≤ 1073741824) : Ev (fun k => tollhouseref02_Lower.f k (mkB l)) (mkB (lowL l)) := refLower_ok (mkB l) (by rw [mkB_size]; omega)
theorem refCheck (h t : U8s) (p : Int) (hh : h.length ≤ 1048576) (ht : t.length ≤ 1048576) : Ev (fun k => (tollhouseref10_May.f k (mkB h) p (mkB t)).bind fun m => (if m = true then (some (mkB h, p, mkB t, (0 : Int))) else (some ((⟨#[]⟩ : ByteArray), 0, (⟨#[]⟩ : ByteArray), 23)))) (checkedL h p t) := by
  refine Ev.bind (refMay_ok h t p hh ht) ?_
  unfold checkedL
  refine ev_ifL (fun hm => ?_) (fun hm => ?_)
  · rw [if_pos hm]; exact Ev.now _
  · rw [if_neg hm]; exact Ev.now _
theorem refParse_j2 (x t : U8s) (hx : x.length ≤ 1048576) (ht : t.length ≤ 1048576) : Ev (fun k => tollhouseref10_Parse.j2 k (mkB x) (mkB t)) (parseEnd x t) := by
  have hle := cut1_le 58 x
  obtain ⟨c1, c2⟩ := cut_colon x
  refine Ev.step (fun k => by rw [tollhouseref10_Parse.j2]) ?_
  refine Ev.bind (refCut_ok x [58] (by omega) (by decide)) ?_
  rw [c1, c2]
  refine Ev.bind (refLow_ok _ (by omega)) ?_
  unfold parseEnd
  cases hc : (cut1 58 x).2.2 with
  | false =>
    rw [if_neg (by decide), if_neg (by decide)]
    refine Ev.congr (fun k => if_pos (by rw [mkB_toList])) ?_
    exact refCheck _ t 80 (by rw [lowL_len]; omega) ht
  | true =>
    rw [if_pos rfl, if_pos rfl]
    have e1 : (mkB (58 :: (cut1 58 x).2.1)).extract 1 (mkB (58 :: (cut1 58 x).2.1)).size = mkB (cut1 58 x).2.1 := by
      rw [ext_mk, mkB_size, List.take_of_length_le (Nat.le_refl _)]; rfl
    refine Ev.congr (fun k => by rw [if_neg (by rw [mkB_toList]; simp), if_pos (by rw [mkB_size, List.length_cons]; omega), e1, refPort_ok _ (by omega), Option.bind_some, port_eq]) ?_
    exact refCheck _ t _ (by rw [lowL_len]; omega) ht
theorem refParse_j1 (x t : U8s) (b : Bool) (hx : x.length ≤ 1048576) (ht : t.length ≤ 1048575) : Ev (fun k => tollhouseref10_Parse.j1 k (mkB x) (mkB t) b) (parseEnd x (if b = true then 47 :: t else t)) := by
  refine Ev.step (fun k => by rw [tollhouseref10_Parse.j1]) ?_
  cases b with
  | true =>
    have e : (⟨#[47]⟩ : ByteArray) ++ mkB t = mkB (47 :: t) := mkB_app [47] t
    refine Ev.congr (fun k => by rw [if_pos rfl, if_pos (by rw [mkB_size]; omega), e]) ?_
    rw [if_pos rfl]
    exact refParse_j2 x (47 :: t) hx (by rw [List.length_cons]; omega)
  | false =>
    refine Ev.congr (fun k => if_neg (by decide)) ?_
    rw [if_neg (by decide)]
    exact refParse_j2 x t hx (by omega)
theorem ahead_len (l : U8s) : (aheadL l).length ≤ l.length ∧ (fromL l).length ≤ l.length := by
  have := congrArg List.length (List.takeWhile_append_dropWhile (p := notCut) (l := l))
  rw [List.length_append] at this
  unfold aheadL fromL
  omega
theorem refParse_ok (s : U8s) (hs : s.length ≤ 1048576) : Ev (fun k => tollhouseref10_Parse.f k (mkB s)) (parseL s) := by
  unfold tollhouseref10_Parse.f parseL
  have hj : Ev (fun k => tollhouseref10_Parse.j0 k (mkB s) true) noUrl := by
    refine Ev.step (fun k => by rw [tollhouseref10_Parse.j0]) ?_
    exact Ev.congr (fun k => if_pos rfl) (Ev.now _)
  rw [mkB_size]
  refine ev_ifL (fun h7 => ?_) (fun h7 => ?_)
  · rw [if_neg (by
      intro e
      have := congrArg List.length e
      rw [lowL_len, List.length_take] at this
      have hz : schemeL.length = 7 := rfl
      omega)]
    exact hj
  · have e1 : (mkB s).extract 0 7 = mkB (s.take 7) := by rw [ext_mk, List.drop_zero]
    have e2 : (mkB s).extract 7 (mkB s).size = mkB (s.drop 7) := by rw [ext_mk, mkB_size, List.take_of_length_le (Nat.le_refl _)]
    refine Ev.congr (fun k => by rw [if_pos (by decide), if_pos (by omega), e1]) ?_
    refine Ev.bind (refLow_ok _ (by rw [List.length_take]; omega)) ?_
    rw [mkB_toList]
    by_cases hc : lowL (s.take 7) = schemeL
    · rw [if_pos hc]
      have hne : (lowL (s.take 7) != [104, 116, 116, 112, 58, 47, 47]) = false := bne_eq_false_iff_eq.2 hc
      rw [hne]
      refine Ev.step (fun k => by rw [tollhouseref10_Parse.j0]) ?_
      refine Ev.congr (fun k => by rw [if_neg (by decide), if_pos (by rw [mkB_size]; omega), e2]) ?_
      have hdl : (s.drop 7).length ≤ 1048569 := by rw [List.length_drop]; omega
      generalize s.drop 7 = l at hdl ⊢
      refine Ev.bind (refCut_ok l [47, 63] (by omega) (by decide)) ?_
      rw [outside_cuts]
      have hal := ahead_len l
      show Ev (fun k => if (mkB (fromL l)).toList = ([] : List UInt8) then tollhouseref10_Parse.j1 k (mkB (aheadL l)) (mkB (fromL l)) true else if 0 < ((mkB (fromL l)).size : Int) then tollhouseref10_Parse.j1 k (mkB (aheadL l)) (mkB (fromL l)) (bt (mkB (fromL l)) 0 == 63) else none) _
      rw [mkB_toList]
      cases hf : fromL l with
      | nil =>
        refine Ev.congr (fun k => if_pos rfl) ?_
        exact refParse_j1 (aheadL l) [] true (by omega) (by decide)
      | cons b r =>
        rw [hf] at hal
        have hb : bt (mkB (b :: r)) 0 = (b.toNat : Int) := bt_mk (b :: r) 0 (by simp)
        refine Ev.congr (fun k => by rw [if_neg (by simp), if_pos (by rw [mkB_size, List.length_cons]; omega), hb]) ?_
        have := refParse_j1 (aheadL l) (b :: r) (((b.toNat : Nat) : Int) == 63) (by omega) (by omega)
        have e : (if (((b.toNat : Nat) : Int) == 63) = true then 47 :: b :: r else b :: r) = pathOf (b :: r) := by
          rw [pathOf]
          by_cases hq : b = 63
          · subst hq; rfl
          · rw [if_neg hq, if_neg (by
              intro e
              have e : (b.toNat : Int) = 63 := beq_iff_eq.1 e
              exact hq (UInt8.toNat_inj.1 (by have : (63 : UInt8).toNat = 63 := rfl; omega)))]
        rw [e] at this
        exact this
    · rw [if_neg hc]
      have hne : (lowL (s.take 7) != [104, 116, 116, 112, 58, 47, 47]) = true := bne_iff_ne.2 hc
      rw [hne]
      exact hj
theorem refAuthority_ok (s : U8s) (hs : s.length ≤ 1048576) : Ev (fun k => tollhouseref10_Authority.f k (mkB s)) (authorityL s) := by
  have hle := cut1_le 58 s
  obtain ⟨c1, c2⟩ := cut_colon s
  unfold tollhouseref10_Authority.f authorityL
  refine Ev.bind (refCut_ok s [58] (by omega) (by decide)) ?_
  rw [c1, c2]
  refine Ev.bind (refLow_ok _ (by omega)) ?_
  cases hc : (cut1 58 s).2.2 with
  | false =>
    have hp : portL (cut1 58 s).2.1 = 0 := by rw [cut1_empty 58 s hc]; decide
    rw [if_neg (by decide), hp]
    refine Ev.congr (fun k => if_pos (by rw [mkB_toList])) ?_
    rw [if_pos rfl, ite_self]
    exact Ev.now _
  | true =>
    rw [if_pos rfl]
    have e1 : (mkB (58 :: (cut1 58 s).2.1)).extract 1 (mkB (58 :: (cut1 58 s).2.1)).size = mkB (cut1 58 s).2.1 := by
      rw [ext_mk, mkB_size, List.take_of_length_le (Nat.le_refl _)]; rfl
    refine Ev.congr (fun k => if_neg (by rw [mkB_toList]; simp)) ?_
    refine Ev.bind (namedRef_ok _ (by rw [lowL_len]; omega)) ?_
    refine ev_ifL (fun hn => ?_) (fun hn => ?_)
    · rw [if_pos hn]
      refine Ev.congr (fun k => by rw [if_pos (by rw [mkB_size, List.length_cons]; omega), e1, refPort_ok _ (by omega), Option.bind_some, port_eq]) ?_
      refine ev_ifL (fun h0 => ?_) (fun h0 => ?_)
      · rw [if_pos h0]; exact Ev.now _
      · rw [if_neg h0]; exact Ev.now _
    · rw [if_neg hn]; exact Ev.now _
theorem refJoin_ok (h t r : U8s) (p : Int) (hh : h.length ≤ 1048576) (ht : t.length ≤ 1048576) (hr : r.length ≤ 1048576) : Ev (fun k => tollhouseref10_Join.f k (mkB h) p (mkB t) (mkB r)) (joinL h p t r) := by
  unfold tollhouseref10_Join.f joinL
  refine Ev.bind (refMay_ok h t p hh ht) ?_
  refine ev_ifL (fun hm => ?_) (fun hm => ?_)
  · rw [if_pos hm]
    have hj : ∀ b, Ev (fun k => tollhouseref10_Join.j0 k (mkB r) b (mkB h) p (mkB t)) (if b = true then checkedL h p r else parseL r) := fun b => by
      refine Ev.step (fun k => by rw [tollhouseref10_Join.j0]) ?_
      cases b with
      | true =>
        refine Ev.congr (fun k => if_pos rfl) ?_
        exact refCheck h r p hh hr
      | false =>
        refine Ev.congr (fun k => if_neg (by decide)) ?_
        exact Ev.bind (refParse_ok r hr) (Ev.now _)
    cases r with
    | nil => exact Ev.congr (fun k => if_neg (by rw [mkB_size]; simp)) (hj false)
    | cons b v =>
      have hb : bt (mkB (b :: v)) 0 = (b.toNat : Int) := bt_mk (b :: v) 0 (by simp)
      refine Ev.congr (fun k => by rw [if_pos (by rw [mkB_size, List.length_cons]; omega), if_pos (by rw [mkB_size, List.length_cons]; omega), hb]) ?_
      refine ev_ifL (fun h47 => ?_) (fun h47 => ?_)
      · have e47 : b = 47 := UInt8.toNat_inj.1 (by have : (47 : UInt8).toNat = 47 := rfl; omega)
        subst e47
        cases v with
        | nil => exact Ev.congr (fun k => if_pos (by rw [mkB_size]; rfl)) (hj true)
        | cons c u =>
          have hc : bt (mkB (47 :: c :: u)) 1 = (c.toNat : Int) := bt_mk (47 :: c :: u) 1 (by simp)
          refine Ev.congr (fun k => by rw [if_neg (by rw [mkB_size]; simp only [List.length_cons]; omega), if_pos (by rw [mkB_size]; simp only [List.length_cons]; omega), hc]) ?_
          have := hj (((c.toNat : Nat) : Int) != 47)
          have e : (((c.toNat : Nat) : Int) != 47) = refIs (47 :: c :: u) := by
            unfold refIs
            by_cases hq : c = 47
            · subst hq; rfl
            · have h1 : (((c.toNat : Nat) : Int) != 47) = true := bne_iff_ne.2 fun e => hq (UInt8.toNat_inj.1 (by have : (47 : UInt8).toNat = 47 := rfl; omega))
              rw [h1]
              symm
              simp [hq]
          rw [e] at this ⊢
          exact this
      · have hne : b ≠ 47 := fun e => h47 (by rw [e]; rfl)
        have e : refIs (b :: v) = false := by
          unfold refIs
          simp [hne]
        rw [e]
        exact hj false
  · rw [if_neg hm]; exact Ev.now _
end Go.Proofs.YteggopolokblhaaGreatDoor.P
