/- Plain law: AuthOne. -/
import Derived.Test.YtepljhleaohbcaaGreatDoorPText
import Derived.Test.YtepljhleaohbcaaGreatDoorFheadDrop
import Derived.Test.YtepljhleaohbcaaGreatDoorQtollhouselaw15AuthOne
set_option linter.unusedVariables false
set_option linter.unusedSimpArgs false
namespace Go.Proofs.YtepljhleaohbcaaGreatDoor.P
open Go.RowKit Go.Proofs.YtepljhleaohbcaaGreatDoorW.PrintWords Go.Proofs.YtepljhleaohbcaaGreatDoorW.PrintLast Go.Proofs.YtepljhleaohbcaaGreatDoorW.PrintMore

theorem drop_ok (l : List S48) (ns : List ByteArray) (hl : l.length * 32 ≤ 140737488355328) (hx : ∀ x ∈ l, x.f0.size ≤ 9223372036854775807) (hn : ∀ n ∈ ns, n.size ≤ 9223372036854775807) : head_Drop.f l ns = some (dropB l ns) := by
  unfold head_Drop.f
  rw [if_pos ⟨hl, List.all_eq_true.2 fun x h => decide_eq_true (hx x h), List.all_eq_true.2 fun x h => decide_eq_true (hn x h)⟩]
theorem dropB_le (l : List S48) (ns : List ByteArray) : (dropB l ns).length ≤ l.length := List.length_filter_le _ _
theorem dropB_mem {l : List S48} {ns : List ByteArray} {x : S48} (h : x ∈ dropB l ns) : x ∈ l ∧ hasName ns x = false := by
  have := List.mem_filter.1 h
  exact ⟨this.1, by simpa using this.2⟩
theorem hasName_one (n : ByteArray) (x : S48) : hasName [n] x = sameB x.f0 n := by simp [hasName]
theorem getB_append (a b : List S48) (n : ByteArray) : getB (a ++ b) n = getB a n ++ getB b n := by simp [getB]
theorem getB_dropped (l : List S48) (n : ByteArray) : getB (dropB l [n]) n = [] := by
  unfold getB
  rw [List.filter_eq_nil_iff.2 fun x hx => by rw [← hasName_one, (dropB_mem hx).2]; exact Bool.false_ne_true]
  rfl
/-! ### one field -/
def PAS : ByteArray := ⟨#[80, 114, 111, 120, 121, 45, 65, 117, 116, 104, 111, 114, 105, 122, 97, 116, 105, 111, 110]⟩
def bearS : ByteArray := ⟨#[66, 101, 97, 114, 101, 114, 32]⟩
def ofF (t : ByteArray) : List S48 := [⟨PAS, bearS ++ t⟩]
theorem of_ok (t : ByteArray) (h : t.size ≤ 1073741824) : tollhouselaw15_of.f t = some (ofF t) := by
  unfold tollhouselaw15_of.f
  rw [if_pos (by omega)]
  rfl
theorem same_PAS : sameB PAS paS = true := by decide +kernel
theorem getB_of (t : ByteArray) : getB (ofF t) paS = [bearS ++ t] := by
  unfold ofF
  rw [getB_cons, if_pos same_PAS]
  rfl
def bearL : U8s := [66, 101, 97, 114, 101, 114]
theorem bear_mk (t : U8s) : bearS ++ mkB t = mkB (bearL ++ 32 :: t) := by
  rw [show bearS = mkB (bearL ++ [32]) from rfl, mkB_app, List.append_assoc]
  rfl
theorem cred_of (t : U8s) (h : t.head? ≠ some 32) : credOf (bearL ++ 32 :: t) = if tokMay t = true then (mkB t, true) else (⟨#[]⟩, false) := by
  unfold credOf credT
  have hd : t.dropWhile (· == 32) = t := by
    cases t with
    | nil => rfl
    | cons b r =>
      rw [List.dropWhile_cons_of_neg]
      intro e
      exact h (by rw [List.head?_cons, beq_iff_eq.1 e])
  rw [cut1_app 32 t bearL (by decide)]
  dsimp only
  rw [hd, show (bearL.map lowU == bearerL) = true by decide, Bool.true_and]
  unfold tokMay
  cases mayT okU t with
  | true => rw [if_pos rfl, if_pos rfl]
  | false => rw [if_neg (by decide), if_neg (by decide)]
theorem holds_own (t : U8s) (h : t.head? ≠ some 32) : holdsV (mkB t) [bearS ++ mkB t] = tokMay t := by
  rw [holdsV_one, bear_mk, mkB_l, cred_of t h]
  cases tokMay t with
  | true => rw [if_pos rfl]; simp
  | false => rw [if_neg (by decide)]; rfl
theorem holdsV_two (tok a b : ByteArray) (r : List ByteArray) : holdsV tok (a :: b :: r) = false := rfl
theorem holdsV_nil (tok : ByteArray) : holdsV tok [] = false := rfl
theorem SmallF.app {a b : List S48} (ha : SmallF a) (hb : SmallF b) (h : a.length + b.length ≤ 1073741824) : SmallF (a ++ b) :=
  ⟨by rw [List.length_append]; exact h, fun x hx => (List.mem_append.1 hx).elim (ha.names x) (hb.names x), fun x hx => (List.mem_append.1 hx).elim (ha.vals x) (hb.vals x)⟩
theorem SmallF.drop {l : List S48} (h : SmallF l) (ns : List ByteArray) : SmallF (dropB l ns) :=
  ⟨Nat.le_trans (dropB_le l ns) h.len, fun x hx => h.names x (dropB_mem hx).1, fun x hx => h.vals x (dropB_mem hx).1⟩
theorem SmallF.of (t : ByteArray) (h : t.size ≤ 1048576) : SmallF (ofF t) :=
  ⟨by show 1 ≤ 1073741824; decide, fun x hx => by rw [List.mem_singleton.1 hx]; show PAS.size ≤ _; decide, fun x hx => by rw [List.mem_singleton.1 hx]; show (bearS ++ t).size ≤ _; rw [ByteArray.size_append, show bearS.size = 7 from rfl]; omega⟩
theorem holdsEv (tok : ByteArray) (l : List S48) (h : SmallF l) {b : Bool} (e : holdsB tok l = b) : Ev (fun k => auth_Holds.f k tok l) b := ⟨l.length + 1, fun k hk => (holds_code tok l h k (by omega)).trans (congrArg some e)⟩
/-! ### what is held -/
theorem holdsV_true {tok : ByteArray} {vs : List ByteArray} (h : holdsV tok vs = true) : ∃ v, vs = [v] ∧ (credOf v.data.toList).2 = true ∧ (credOf v.data.toList).1.toList = tok.toList := by
  match vs, h with
  | [v], h =>
    rw [holdsV_one, Bool.and_eq_true, beq_iff_eq] at h
    exact ⟨v, rfl, h.1, h.2⟩
theorem holds_one {a b : ByteArray} {vs : List ByteArray} (ha : holdsV a vs = true) (hb : holdsV b vs = true) : a.toList = b.toList := by
  obtain ⟨v, rfl, _, e1⟩ := holdsV_true ha
  obtain ⟨v2, e, _, e2⟩ := holdsV_true hb
  obtain rfl : v = v2 := (List.cons.inj e).1
  exact e1.symm.trans e2
theorem holds_may {t : U8s} {vs : List ByteArray} (h : holdsV (mkB t) vs = true) : tokMay t = true := by
  obtain ⟨v, rfl, h1, h2⟩ := holdsV_true h
  unfold credOf credT at h1 h2
  split at h1
  · rename_i u hu
    split at hu
    · rename_i hc
      have e := Option.some.inj hu
      rw [if_pos hc] at h2
      rw [Bool.and_eq_true] at hc
      have h2 : (mkB ((cut1 32 v.data.toList).2.1.dropWhile (· == 32))).toList = (mkB t).toList := h2
      rw [mkB_toList, mkB_toList] at h2
      unfold tokMay
      rw [← h2]
      exact hc.2
    · exact absurd hu (by simp)
  · exact absurd h1 (by decide)

section
variable (l : List S48) (t : U8s) (x2 n v : ByteArray) (hl : SmallF l) (hl2 : l.length ≤ 1048576) (ht : t.length ≤ 1048576) (h32 : t.head? ≠ some 32) (h2 : x2.size ≤ 1048576) (hn : n.size ≤ 1048576) (hv : v.size ≤ 1048576)
def ownF : List S48 := ([] ++ dropB l [paS]) ++ ofF (mkB t)
theorem getB_own : getB (ownF l t) paS = [bearS ++ mkB t] := by
  unfold ownF
  rw [getB_append, List.nil_append, getB_dropped, getB_of]
  rfl
include hl2 in
theorem own_len : (ownF l t).length ≤ 1048577 := by
  unfold ownF
  rw [List.length_append, List.nil_append, show (ofF (mkB t)).length = 1 from rfl]
  have := dropB_le l [paS]
  omega
include hl hl2 ht in
theorem own_small : SmallF (ownF l t) := by
  have h1 := hl.drop [paS]
  have := dropB_le l [paS]
  exact SmallF.app (by rw [List.nil_append]; exact h1) (SmallF.of _ (by rw [mkB_size]; exact ht)) (by rw [List.nil_append, show (ofF (mkB t)).length = 1 from rfl]; omega)
include hl hl2 ht hn hv in
theorem one_j3 : Ev (fun k => tollhouselaw15_AuthOne.j3 k l (mkB t) (ownF l t) false n v) true := by
  have hf : SmallF [(⟨n, v⟩ : S48)] := ⟨by show 1 ≤ 1073741824; decide, fun x hx => by rw [List.mem_singleton.1 hx]; show n.size ≤ _; omega, fun x hx => by rw [List.mem_singleton.1 hx]; show v.size ≤ _; omega⟩
  have ho := own_len l t hl2
  refine Ev.step (fun k => by rw [tollhouselaw15_AuthOne.j3]) ?_
  refine Ev.congr (fun k => if_neg (by decide)) ?_
  refine Ev.congr (fun k => by rw [show text_Same.f n (⟨#[112, 114, 111, 120, 121, 45, 97, 117, 116, 104, 111, 114, 105, 122, 97, 116, 105, 111, 110]⟩ : ByteArray) = some (sameB n paS) from textSame_ok _ _ (by omega) (by decide), Option.bind_some]) ?_
  cases hs : sameB n paS with
  | true =>
    refine Ev.congr (fun k => if_pos rfl) ?_
    refine Ev.congr (fun k => Option.bind_some _ _) ?_
    refine Ev.congr (fun k => if_pos (by rw [List.length_singleton]; omega)) ?_
    refine Ev.bind (holdsEv (b := false) (mkB t) _ (hf.app (own_small l t hl hl2 ht) (by rw [List.length_singleton]; omega)) ?_) ?_
    · unfold holdsB
      rw [getB_append, getB_own, getB_cons, if_pos hs]
      rfl
    · refine Ev.congr (fun k => if_neg (by decide)) (Ev.bind wakesEv15 (Ev.now _))
  | false =>
    refine Ev.congr (fun k => if_neg (by decide)) ?_
    refine Ev.congr (fun k => Option.bind_some _ _) ?_
    refine Ev.congr (fun k => if_pos (by rw [List.length_singleton]; omega)) ?_
    refine Ev.bind (holdsEv (b := holdsB (mkB t) l) (mkB t) _ (hf.app hl (by rw [List.length_singleton]; omega)) ?_) ?_
    · unfold holdsB
      rw [getB_append, getB_cons, if_neg (by rw [hs]; decide)]
      rfl
    · refine Ev.bind (holdsEv (mkB t) l hl rfl) (Ev.congr (fun k => if_pos (beq_self_eq_true _)) (Ev.bind wakesEv15 (Ev.now _)))
include hl hl2 ht h32 h2 hn hv in
theorem one_j2 : Ev (fun k => tollhouselaw15_AuthOne.j2 k l (mkB t) x2 false n v) true := by
  have hbare := hl.drop [paS]
  have hdl := dropB_le l [paS]
  have ho := own_len l t hl2
  have hos := own_small l t hl hl2 ht
  have hof : (ofF (mkB t)).length = 1 := rfl
  have hof2 : (ofF x2).length = 1 := rfl
  have hsm := SmallF.of (mkB t) (by rw [mkB_size]; exact ht)
  have hsm2 := SmallF.of x2 h2
  have eD : head_Drop.f l [(⟨#[112, 114, 111, 120, 121, 45, 97, 117, 116, 104, 111, 114, 105, 122, 97, 116, 105, 111, 110]⟩ : ByteArray)] = some (dropB l [paS]) := drop_ok l [paS] (by omega) (fun x hx => by have := hl.names x hx; omega) (fun m hm => by rw [List.mem_singleton.1 hm]; decide)
  have eO := of_ok (mkB t) (by rw [mkB_size]; omega)
  have eO2 := of_ok x2 (by omega)
  have eM := may_code t (by omega)
  refine Ev.step (fun k => by rw [tollhouselaw15_AuthOne.j2]) ?_
  refine Ev.congr (fun k => if_neg (by decide)) ?_
  refine Ev.congr (fun k => by rw [eD, Option.bind_some]) ?_
  refine Ev.congr (fun k => if_pos (by rw [List.length_nil]; omega)) ?_
  refine Ev.congr (fun k => Option.bind_some _ _) ?_
  refine Ev.congr (fun k => by rw [eO, Option.bind_some]) ?_
  refine Ev.congr (fun k => if_pos (by rw [List.nil_append]; omega)) ?_
  refine Ev.congr (fun k => Option.bind_some _ _) ?_
  show Ev (fun k => (auth_Holds.f k (mkB t) (dropB l [paS])).bind fun t250 => (if t250 = true then (tollhouselaw15_AuthOne.j3 k l (mkB t) (ownF l t) true n v) else ((auth_Holds.f k (mkB t) (ownF l t)).bind fun t251 => ((auth_May.f (mkB t)).bind fun t252 => (if (t251 != t252) = true then (tollhouselaw15_AuthOne.j3 k l (mkB t) (ownF l t) true n v) else (if ([] : List (S48)).length + (ownF l t).length < 4398046511104 then ((some (([] : List (S48)) ++ (ownF l t) : List (S48))).bind fun y253 => ((some (ofF (mkB t))).bind fun t256 => (if y253.length + t256.length < 4398046511104 then ((auth_Holds.f k (mkB t) (y253 ++ t256)).bind fun t262 => (if t262 = true then (tollhouselaw15_AuthOne.j3 k l (mkB t) (ownF l t) true n v) else ((tollhouselaw15_of.f x2).bind fun t263 => (if t263.length + (ownF l t).length < 4398046511104 then ((auth_Holds.f k (mkB t) (t263 ++ (ownF l t))).bind fun t269 => (tollhouselaw15_AuthOne.j3 k l (mkB t) (ownF l t) t269 n v)) else (none))))) else (none)))) else (none))))))) true
  refine Ev.bind (holdsEv (b := false) (mkB t) _ hbare (by unfold holdsB; rw [getB_dropped]; rfl)) ?_
  refine Ev.congr (fun k => if_neg (by decide)) ?_
  refine Ev.bind (holdsEv (b := tokMay t) (mkB t) _ hos (by unfold holdsB; rw [getB_own, holds_own t h32])) ?_
  refine Ev.congr (fun k => by rw [eM, Option.bind_some]) ?_
  refine Ev.congr (fun k => if_neg (by rw [bne_self_eq_false]; decide)) ?_
  refine Ev.congr (fun k => if_pos (by rw [List.length_nil]; omega)) ?_
  refine Ev.congr (fun k => Option.bind_some _ _) ?_
  refine Ev.congr (fun k => Option.bind_some _ _) ?_
  refine Ev.congr (fun k => if_pos (by rw [List.nil_append]; omega)) ?_
  refine Ev.bind (holdsEv (b := false) (mkB t) _ (SmallF.app (by rw [List.nil_append]; exact hos) hsm (by rw [List.nil_append]; omega)) (by unfold holdsB; rw [getB_append, List.nil_append, getB_own, getB_of]; rfl)) ?_
  refine Ev.congr (fun k => if_neg (by decide)) ?_
  refine Ev.congr (fun k => by rw [eO2, Option.bind_some]) ?_
  refine Ev.congr (fun k => if_pos (by omega)) ?_
  refine Ev.bind (holdsEv (b := false) (mkB t) _ (hsm2.app hos (by omega)) (by unfold holdsB; rw [getB_append, getB_own, getB_of]; rfl)) ?_
  exact one_j3 l t n v hl hl2 ht hn hv
include hl hl2 ht h32 h2 hn hv in
theorem one_j1 : Ev (fun k => tollhouselaw15_AuthOne.j1 k l (mkB t) x2 n v) true := by
  have j2 := one_j2 l t x2 n v hl hl2 ht h32 h2 hn hv
  have eM := may_code t (by omega)
  have hH := holdsEv (mkB t) l hl rfl
  refine Ev.step (fun k => by rw [tollhouselaw15_AuthOne.j1]) ?_
  refine Ev.bind hH ?_
  have tail : Ev (fun k => (auth_Holds.f k (mkB t) l).bind fun t229 => (if t229 = true then ((auth_May.f (mkB t)).bind fun t230 => (tollhouselaw15_AuthOne.j2 k l (mkB t) x2 (!t230) n v)) else (tollhouselaw15_AuthOne.j2 k l (mkB t) x2 false n v))) true := by
    refine Ev.bind hH ?_
    cases hh : holdsB (mkB t) l with
    | true =>
      refine Ev.congr (fun k => if_pos rfl) ?_
      refine Ev.congr (fun k => by rw [eM, Option.bind_some, holds_may (t := t) hh]) ?_
      exact j2
    | false => exact Ev.congr (fun k => if_neg (by decide)) j2
  cases hh : holdsB (mkB t) l with
  | true =>
    refine Ev.congr (fun k => if_pos rfl) ?_
    refine Ev.bind (holdsEv x2 l hl rfl) ?_
    cases hh2 : holdsB x2 l with
    | true =>
      refine Ev.congr (fun k => if_pos rfl) ?_
      exact Ev.congr (fun k => if_pos (holds_one hh hh2)) tail
    | false => exact Ev.congr (fun k => if_neg (by decide)) tail
  | false => exact Ev.congr (fun k => if_neg (by decide)) tail
end
theorem bt32 (c : UInt8) (t : U8s) : bt (mkB (c :: t)) 0 = 32 ↔ c = 32 := by
  have e := bt_mk (c :: t) 0 (by simp)
  rw [show ((0 : Nat) : Int) = 0 from rfl] at e
  rw [e]
  exact b32 c
theorem one_l0 (l : List S48) (x2 n v : ByteArray) (hl : SmallF l) (hl2 : l.length ≤ 1048576) (h2 : x2.size ≤ 1048576) (hn : n.size ≤ 1048576) (hv : v.size ≤ 1048576) : ∀ t : U8s, t.length ≤ 1048576 → Ev (fun k => tollhouselaw15_AuthOne.l0 k l (mkB t) x2 n v) true := by
  intro t
  induction t with
  | nil =>
    intro ht
    exact Ev.step (fun k => by rw [tollhouselaw15_AuthOne.l0]) (Ev.congr (fun k => if_neg (by decide)) (one_j1 l [] x2 n v hl hl2 ht (by simp) h2 hn hv))
  | cons c t ih =>
    intro ht
    have hp : 0 < ((mkB (c :: t)).size : Int) := by rw [mkB_size, List.length_cons]; omega
    refine Ev.step (fun k => by rw [tollhouselaw15_AuthOne.l0]) (Ev.congr (fun k => if_pos hp) (Ev.congr (fun k => if_pos hp) ?_))
    by_cases hc : c = 32
    · refine Ev.congr (fun k => if_pos ((bt32 c t).2 hc)) (Ev.congr (fun k => if_pos (by omega)) ?_)
      have e : (mkB (c :: t)).extract 1 (mkB (c :: t)).size = mkB t := by rw [ext_end]; rfl
      rw [e]
      exact ih (by rw [List.length_cons] at ht; omega)
    · refine Ev.congr (fun k => if_neg (fun e => hc ((bt32 c t).1 e))) ?_
      exact one_j1 l (c :: t) x2 n v hl hl2 ht (by simpa using hc) h2 hn hv
theorem AuthOne_true (l0 : List S48) (a1 a2 a3 b3 : ByteArray) (hl0 : l0.length * 32 ≤ 140737488351232) (hy0 : ∀ x ∈ l0, x.f0.size ≤ 140737488351232 ∧ x.f1.size ≤ 140737488351232) (w1 : a1.size ≤ 140737488351232) (w2 : a2.size ≤ 140737488351232) (wa3 : a3.size ≤ 140737488351232) (wb3 : b3.size ≤ 140737488351232) (hB : bulkFs l0 + a1.size + a2.size + (a3.size + b3.size + 3) ≤ 1048576) : ∃ k, tollhouselaw15_AuthOne.f k l0 a1 a2 a3 b3 = some true := by
  refine Ev.rounds (g := fun k => tollhouselaw15_AuthOne.f k l0 a1 a2 a3 b3) ?_
  obtain ⟨t, rfl⟩ := mkOf a1
  rw [mkB_size] at hB
  have h1 := bulkFs_len l0
  exact one_l0 l0 a2 a3 b3 (small_of (by omega)) (by omega) (by omega) (by omega) (by omega) t (by omega)
end Go.Proofs.YtepljhleaohbcaaGreatDoor.P
