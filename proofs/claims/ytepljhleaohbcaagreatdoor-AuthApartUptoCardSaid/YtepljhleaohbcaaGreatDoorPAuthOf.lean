/- A token's own field; what fields hold. -/
import Derived.Test.YtepljhleaohbcaaGreatDoorPText
import Derived.Test.YtepljhleaohbcaaGreatDoorQtollhouselaw15of
set_option linter.unusedVariables false
set_option linter.unusedSimpArgs false
namespace Go.Proofs.YtepljhleaohbcaaGreatDoor.P
open Go.RowKit Go.Proofs.YtepljhleaohbcaaGreatDoorW.PrintWords Go.Proofs.YtepljhleaohbcaaGreatDoorW.PrintLast Go.Proofs.YtepljhleaohbcaaGreatDoorW.PrintMore

theorem getB_append (a b : List S48) (n : ByteArray) : getB (a ++ b) n = getB a n ++ getB b n := by simp [getB]
/-! ### one field -/
def PAS : ByteArray := ⟨#[80, 114, 111, 120, 121, 45, 65, 117, 116, 104, 111, 114, 105, 122, 97, 116, 105, 111, 110]⟩
def bearS : ByteArray := ⟨#[66, 101, 97, 114, 101, 114, 32]⟩
def ofF (t : ByteArray) : List S48 := [⟨PAS, bearS ++ t⟩]
theorem of_ok (t : ByteArray) (h : t.size ≤ 1073741824) : tollhouselaw15_of.f t = some (ofF t) := by
  unfold tollhouselaw15_of.f
  rw [if_pos (by omega)]
  rfl
theorem same_PAS : sameB PAS paS = true := by decide +kernel
theorem getB_of (t : ByteArray) : getB (ofF t) paS = [bearS ++ t] := by
  unfold ofF
  rw [getB_cons, if_pos same_PAS]
  rfl
def bearL : U8s := [66, 101, 97, 114, 101, 114]
theorem bear_mk (t : U8s) : bearS ++ mkB t = mkB (bearL ++ 32 :: t) := by
  rw [show bearS = mkB (bearL ++ [32]) from rfl, mkB_app, List.append_assoc]
  rfl
theorem cred_of (t : U8s) (h : t.head? ≠ some 32) : credOf (bearL ++ 32 :: t) = if tokMay t = true then (mkB t, true) else (⟨#[]⟩, false) := by
  unfold credOf credT
  have hd : t.dropWhile (· == 32) = t := by
    cases t with
    | nil => rfl
    | cons b r =>
      rw [List.dropWhile_cons_of_neg]
      intro e
      exact h (by rw [List.head?_cons, beq_iff_eq.1 e])
  rw [cut1_app 32 t bearL (by decide)]
  dsimp only
  rw [hd, show (bearL.map lowU == bearerL) = true by decide, Bool.true_and]
  unfold tokMay
  cases mayT okU t with
  | true => rw [if_pos rfl, if_pos rfl]
  | false => rw [if_neg (by decide), if_neg (by decide)]
theorem holds_own (t : U8s) (h : t.head? ≠ some 32) : holdsV (mkB t) [bearS ++ mkB t] = tokMay t := by
  rw [holdsV_one, bear_mk, mkB_l, cred_of t h]
  cases tokMay t with
  | true => rw [if_pos rfl]; simp
  | false => rw [if_neg (by decide)]; rfl
theorem holdsV_two (tok a b : ByteArray) (r : List ByteArray) : holdsV tok (a :: b :: r) = false := rfl
theorem holdsV_nil (tok : ByteArray) : holdsV tok [] = false := rfl
theorem SmallF.app {a b : List S48} (ha : SmallF a) (hb : SmallF b) (h : a.length + b.length ≤ 1073741824) : SmallF (a ++ b) :=
  ⟨by rw [List.length_append]; exact h, fun x hx => (List.mem_append.1 hx).elim (ha.names x) (hb.names x), fun x hx => (List.mem_append.1 hx).elim (ha.vals x) (hb.vals x)⟩
theorem SmallF.of (t : ByteArray) (h : t.size ≤ 1048576) : SmallF (ofF t) :=
  ⟨by show 1 ≤ 1073741824; decide, fun x hx => by rw [List.mem_singleton.1 hx]; show PAS.size ≤ _; decide, fun x hx => by rw [List.mem_singleton.1 hx]; show (bearS ++ t).size ≤ _; rw [ByteArray.size_append, show bearS.size = 7 from rfl]; omega⟩
theorem holdsEv (tok : ByteArray) (l : List S48) (h : SmallF l) {b : Bool} (e : holdsB tok l = b) : Ev (fun k => auth_Holds.f k tok l) b := ⟨l.length + 1, fun k hk => (holds_code tok l h k (by omega)).trans (congrArg some e)⟩
/-! ### what is held -/
theorem holdsV_true {tok : ByteArray} {vs : List ByteArray} (h : holdsV tok vs = true) : ∃ v, vs = [v] ∧ (credOf v.data.toList).2 = true ∧ (credOf v.data.toList).1.toList = tok.toList := by
  match vs, h with
  | [v], h =>
    rw [holdsV_one, Bool.and_eq_true, beq_iff_eq] at h
    exact ⟨v, rfl, h.1, h.2⟩
theorem holds_one {a b : ByteArray} {vs : List ByteArray} (ha : holdsV a vs = true) (hb : holdsV b vs = true) : a.toList = b.toList := by
  obtain ⟨v, rfl, _, e1⟩ := holdsV_true ha
  obtain ⟨v2, e, _, e2⟩ := holdsV_true hb
  obtain rfl : v = v2 := (List.cons.inj e).1
  exact e1.symm.trans e2
theorem holds_may {t : U8s} {vs : List ByteArray} (h : holdsV (mkB t) vs = true) : tokMay t = true := by
  obtain ⟨v, rfl, h1, h2⟩ := holdsV_true h
  unfold credOf credT at h1 h2
  split at h1
  · rename_i u hu
    split at hu
    · rename_i hc
      have e := Option.some.inj hu
      rw [if_pos hc] at h2
      rw [Bool.and_eq_true] at hc
      have h2 : (mkB ((cut1 32 v.data.toList).2.1.dropWhile (· == 32))).toList = (mkB t).toList := h2
      rw [mkB_toList, mkB_toList] at h2
      unfold tokMay
      rw [← h2]
      exact hc.2
    · exact absurd hu (by simp)
  · exact absurd h1 (by decide)

end Go.Proofs.YtepljhleaohbcaaGreatDoor.P
