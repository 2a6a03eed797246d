/- head.Parse's law, read off the bytes that are left: quick to reckon. -/
import Derived.Test.YtdofgilfmgdpkaaDoorFheadParse
set_option linter.unusedVariables false
set_option linter.unusedSimpArgs false
namespace Go.Proofs.YtdofgilfmgdpkaaDoor.P
open Go.RowKit Go.Proofs.YtdofgilfmgdpkaaDoorW.PrintWords Go.Proofs.YtdofgilfmgdpkaaDoorW.PrintLast Go.Proofs.YtdofgilfmgdpkaaDoorW.PrintMore

def pRun (b : List Int) : Nat → PM → List Int → Nat → Nat → Nat → Int → List S45 → Option PR
  | 0, _, _, _, _, _, _, _ => none
  | k + 1, .line, rest, pl, _, to', _, l =>
    match rest with
    | [] => some ([], 0, 8)
    | x :: r => if pl = 2048 then some ([], 0, 21)
      else if x = 13 then pRun b k .fin r (pl + 1) pl to' x l
      else if 32 ≤ l.length then some ([], 0, 21)
      else pRun b k .name r (pl + 1) pl to' x l
  | k + 1, .name, rest, pl, from', to', c, l =>
    if c = 58 ∧ from' + 1 < pl then pRun b k .value rest pl from' pl c l
    else if tokI c = false then some ([], 0, 20)
    else match rest with
    | [] => some ([], 0, 8)
    | x :: r => if pl = 2048 then some ([], 0, 21)
      else if ¬ x = 13 ∧ 512 < pl + 1 - from' then some ([], 0, 21)
      else pRun b k .name r (pl + 1) from' to' x l
  | k + 1, .value, rest, pl, from', to', _, l =>
    match rest with
    | [] => some ([], 0, 8)
    | x :: r => if pl = 2048 then some ([], 0, 21)
      else if x = 13 then pRun b k .ended r (pl + 1) from' to' x l
      else if 512 < pl + 1 - from' then some ([], 0, 21)
      else if shownI x = false then some ([], 0, 20)
      else pRun b k .value r (pl + 1) from' to' x l
  | k + 1, .ended, rest, pl, from', to', _, l =>
    match rest with
    | [] => some ([], 0, 8)
    | x :: r => if pl = 2048 then some ([], 0, 21)
      else if x = 10 then pRun b k .line r (pl + 1) from' to' x (l ++ [pField b from' to' pl])
      else some ([], 0, 20)
  | _ + 1, .fin, rest, pl, _, _, _, l =>
    match rest with
    | [] => some ([], 0, 8)
    | x :: _ => if pl = 2048 then some ([], 0, 21)
      else if x = 10 then some (l, (pl : Int) + 1, 0)
      else some ([], 0, 20)
theorem pRun_eq (b : List Int) : ∀ (k : Nat) (m : PM) (pl from' to' : Nat) (c : Int) (l : List S45), pl ≤ b.length → pGo b k m pl from' to' c l = pRun b k m (b.drop pl) pl from' to' c l := by
  intro k
  induction k with
  | zero => intro m pl f t c l _; rw [pGo, pRun]
  | succ k ih =>
    intro m pl f t c l h
    by_cases hlt : pl < b.length
    · have hd := List.drop_eq_getElem_cons hlt
      have hg : b.getD pl 0 = b[pl] := by rw [List.getD_eq_getElem?_getD, List.getElem?_eq_getElem hlt]; rfl
      have hne : ¬ pl = b.length := by omega
      cases m with
      | line => rw [pGo, hd, pRun, if_neg hne, hg]; simp only [ih _ (pl + 1) _ _ _ _ (by omega)]
      | name => rw [pGo, ih _ pl _ _ _ _ h, hd, pRun, if_neg hne, hg]; simp only [ih _ (pl + 1) _ _ _ _ (by omega)]
      | value => rw [pGo, hd, pRun, if_neg hne, hg]; simp only [ih _ (pl + 1) _ _ _ _ (by omega)]
      | ended => rw [pGo, hd, pRun, if_neg hne, hg]; simp only [ih _ (pl + 1) _ _ _ _ (by omega)]
      | fin => rw [pGo, hd, pRun, if_neg hne, hg]
    · have e : pl = b.length := by omega
      have hd : b.drop pl = [] := List.drop_eq_nil_of_le (by omega)
      cases m with
      | line => rw [pGo, hd, pRun, if_pos e]
      | name => rw [pGo, ih _ pl _ _ _ _ h, hd, pRun, if_pos e]
      | value => rw [pGo, hd, pRun, if_pos e]
      | ended => rw [pGo, hd, pRun, if_pos e]
      | fin => rw [pGo, hd, pRun, if_pos e]
def parseQ (l : List Int) : Option (Int × Int) := if l.length ≤ 140737488355328 ∧ l.all isByte = true then (pRun l (2 * l.length + 2) .line l 0 0 0 0 []).map (fun r => r.2) else none
theorem parseQ_ok (l : List Int) (n e : Int) (h : parseQ l = some (n, e)) : ∃ r, head_Parse.f l = some (r, n, e) := by
  unfold parseQ at h
  unfold head_Parse.f
  split at h
  · rename_i hc
    rw [if_pos hc, pRun_eq l _ .line 0 0 0 0 [] (Nat.zero_le _), List.drop_zero]
    match hq : pRun l (2 * l.length + 2) .line l 0 0 0 0 [], h with
    | some (r, n', e'), h =>
      obtain ⟨rfl, rfl⟩ := Prod.mk.inj (Option.some.inj h)
      exact ⟨r, rfl⟩
  · cases h
def lineI : List Int := 97 :: 58 :: List.replicate 510 98
set_option maxRecDepth 1000000
theorem known_p1 : parseQ (lineI ++ [13, 10, 13, 10]) = some (516, 0) := by decide +kernel
theorem known_p2 : parseQ (lineI ++ [98]) = some (0, 21) := by decide +kernel
def fieldsI : List Int := (List.replicate 32 [97, 58, 13, 10]).flatten
theorem known_p3 : parseQ (fieldsI ++ [13, 10]) = some (130, 0) := by decide +kernel
theorem known_p4 : parseQ (fieldsI ++ [97]) = some (0, 21) := by decide +kernel
theorem known_p5 : parseQ (fieldsI ++ [32]) = some (0, 21) := by decide +kernel
def threeI : List Int := ((((lineI ++ [13, 10]) ++ lineI) ++ [13, 10]) ++ lineI) ++ [13, 10]
theorem known_p6 : parseQ ((threeI ++ lineI.take 502) ++ [13, 10, 13, 10]) = some (2048, 0) := by decide +kernel
theorem known_p7 : parseQ ((threeI ++ lineI.take 502) ++ [98, 13, 10, 13, 10]) = some (0, 21) := by decide +kernel
theorem known_p8 : parseQ ((threeI ++ lineI.take 502) ++ [98, 13, 10, 13]) = some (0, 8) := by decide +kernel
end Go.Proofs.YtdofgilfmgdpkaaDoor.P
