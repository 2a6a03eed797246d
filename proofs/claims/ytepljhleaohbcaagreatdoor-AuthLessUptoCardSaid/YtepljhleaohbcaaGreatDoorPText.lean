/- Contracts of small functions and plain laws, laid together. Conditions: none but those that each theorem names. -/
import Derived.Test.YtepljhleaohbcaaGreatDoorPBase
import Derived.Test.YtepljhleaohbcaaGreatDoorFLow
import Derived.Test.YtepljhleaohbcaaGreatDoorFtextLower
import Derived.Test.YtepljhleaohbcaaGreatDoorQheadGet
import Derived.Test.YtepljhleaohbcaaGreatDoorQauthHolds
import Derived.Test.YtepljhleaohbcaaGreatDoorFOpen
import Derived.Test.YtepljhleaohbcaaGreatDoorQtollhouselaw15wakes
set_option linter.unusedVariables false
set_option linter.unusedSimpArgs false

section
/- Texts as lists of bytes. -/
namespace Go.Proofs.YtepljhleaohbcaaGreatDoor.P
open Go.RowKit Go.Proofs.YtepljhleaohbcaaGreatDoorW.PrintWords Go.Proofs.YtepljhleaohbcaaGreatDoorW.PrintLast Go.Proofs.YtepljhleaohbcaaGreatDoorW.PrintMore

abbrev U8s := List UInt8
def mkB (l : U8s) : ByteArray := ⟨l.toArray⟩
theorem mkB_data (s : ByteArray) : mkB s.data.toList = s := by cases s; rfl
theorem mkB_l (l : U8s) : (mkB l).data.toList = l := rfl
theorem mkB_size (l : U8s) : (mkB l).size = l.length := by simp [mkB, ByteArray.size]
theorem mkB_app (a b : U8s) : mkB a ++ mkB b = mkB (a ++ b) := by
  have : (mkB a ++ mkB b).data.toList = a ++ b := by rw [ByteArray.data_append]; simp [mkB]
  rw [← this, mkB_data]
theorem mkB_toList (l : U8s) : (mkB l).toList = l := by rw [ByteArray.toList_eq, mkB_l]
theorem mkB_inj {a b : U8s} (h : mkB a = mkB b) : a = b := by rw [← mkB_l a, ← mkB_l b, h]
theorem mkOf (s : ByteArray) : ∃ l, s = mkB l := ⟨_, (mkB_data s).symm⟩
theorem ext_mk (l : U8s) (i j : Nat) : (mkB l).extract i j = mkB ((l.take j).drop i) := by
  rw [← mkB_data ((mkB l).extract i j)]
  congr 1
  rw [show ((mkB l).extract i j).data = (mkB l).data.extract i j from by simp [ByteArray.data_extract]]
  simp [mkB, List.extract_eq_take_drop, List.drop_take]
theorem bt_mk (l : U8s) (i : Nat) (h : i < l.length) : bt (mkB l) (i : Int) = ((l[i]'h).toNat : Int) := by
  rw [bt_get _ _ (by rw [mkB_size]; exact h), get_at' _ _ (by rw [mkB_size]; exact h)]; rfl
end Go.Proofs.YtepljhleaohbcaaGreatDoor.P
end

section
/- Tokens and credentials, plain: trimmed and cut, or byte by byte. -/
namespace Go.Proofs.YtepljhleaohbcaaGreatDoor.P
open Go.RowKit

/-- A text without the '='s at its end. -/
def bareT (s : U8s) : U8s := (s.reverse.dropWhile (· == 61)).reverse
/-- May a text be a token? ok: which bytes may stand in one. -/
def mayT (ok : UInt8 → Bool) (s : U8s) : Bool := !(bareT s).isEmpty && (decide (s.length ≤ 64) && (bareT s).all ok)
/-- The same, from the left. -/
def mayR (ok : UInt8 → Bool) (s : U8s) : Bool := (s.takeWhile (fun b => !(b == 61))).all ok && ((s.dropWhile (fun b => !(b == 61))).all (· == 61) && (!(s.takeWhile (fun b => !(b == 61))).isEmpty && decide (s.length ≤ 64)))
theorem drop_all : ∀ l : U8s, (l.all (· == 61)) = true → l.dropWhile (· == 61) = []
  | [], _ => rfl
  | b :: l, h => by
    rw [List.all_cons, Bool.and_eq_true] at h
    rw [List.dropWhile_cons, if_pos h.1, drop_all l h.2]
theorem drop_some : ∀ l : U8s, (l.all (· == 61)) = false → l.dropWhile (· == 61) ≠ []
  | [], h => absurd h (by decide)
  | b :: l, h => by
    rw [List.all_cons] at h
    rw [List.dropWhile_cons]
    split
    · rename_i hb
      rw [hb, Bool.true_and] at h
      exact drop_some l h
    · simp
theorem all_rev (l : U8s) (p : UInt8 → Bool) : l.reverse.all p = l.all p := by
  rw [Bool.eq_iff_iff, List.all_eq_true, List.all_eq_true]
  simp
theorem may_eq (ok : UInt8 → Bool) (h61 : ok 61 = false) (s : U8s) : mayT ok s = mayR ok s := by
  have hs : s.takeWhile (fun b => !(b == 61)) ++ s.dropWhile (fun b => !(b == 61)) = s := List.takeWhile_append_dropWhile
  have hx : ∀ b ∈ s.takeWhile (fun b => !(b == 61)), (b == 61) = false := fun b hb => by
    have := List.all_eq_true.1 (List.all_takeWhile (p := fun b : UInt8 => !(b == 61)) (l := s)) b hb
    simpa using this
  have hy : s.dropWhile (fun b => !(b == 61)) = [] ∨ ∃ r, s.dropWhile (fun b => !(b == 61)) = 61 :: r := by
    cases hd : s.dropWhile (fun b => !(b == 61)) with
    | nil => exact .inl rfl
    | cons b r =>
      have := List.head?_dropWhile_not (fun b : UInt8 => !(b == 61)) s
      rw [hd] at this
      have hb : b = 61 := by simpa using this
      exact .inr ⟨r, by rw [hb]⟩
  unfold mayT mayR
  generalize s.takeWhile (fun b => !(b == 61)) = x at hs hx ⊢
  generalize s.dropWhile (fun b => !(b == 61)) = y at hs hy ⊢
  subst hs
  cases hq : y.all (· == 61) with
  | true =>
    have e : bareT (x ++ y) = x := by
      unfold bareT
      rw [List.reverse_append, List.dropWhile_append, drop_all _ (by rw [all_rev]; exact hq), show ([] : U8s).isEmpty = true from rfl, if_pos rfl]
      have : x.reverse.dropWhile (· == 61) = x.reverse := by
        cases hr : x.reverse with
        | nil => rfl
        | cons b r =>
          rw [List.dropWhile_cons, if_neg]
          have hb : b ∈ x := by rw [← List.mem_reverse, hr]; exact List.mem_cons_self
          rw [hx b hb]; decide
      rw [this, List.reverse_reverse]
    rw [e, Bool.true_and]
    cases x.isEmpty <;> cases x.all ok <;> cases decide ((x ++ y).length ≤ 64) <;> rfl
  | false =>
    rw [Bool.false_and, Bool.and_false]
    have hm : (61 : UInt8) ∈ bareT (x ++ y) := by
      obtain hy | ⟨r, hr⟩ := hy
      · rw [hy] at hq; exact absurd hq (by decide)
      · subst hr
        rw [List.all_cons, show ((61 : UInt8) == 61) = true from rfl, Bool.true_and] at hq
        have hne := drop_some r.reverse (by rw [all_rev]; exact hq)
        unfold bareT
        rw [List.mem_reverse, List.reverse_append, List.reverse_cons, List.append_assoc, List.dropWhile_append, if_neg (by simpa using hne)]
        simp
    have : (bareT (x ++ y)).all ok = false := by
      rw [Bool.eq_false_iff]
      intro h
      exact absurd (List.all_eq_true.1 h 61 hm) (by rw [h61]; decide)
    rw [this, Bool.and_false, Bool.and_false]
def bearerL : U8s := [98, 101, 97, 114, 101, 114]
/-- The token of a credential. -/
def credT (ok : UInt8 → Bool) (s : U8s) : Option U8s := if ((cut1 32 s).1.map lowU == bearerL && mayT ok ((cut1 32 s).2.1.dropWhile (· == 32))) = true then some ((cut1 32 s).2.1.dropWhile (· == 32)) else none
def credR (ok : UInt8 → Bool) (s : U8s) : Option U8s := if s.length < 8 ∨ (s.take 6).map lowU ≠ bearerL ∨ s[6]? ≠ some 32 then none else (if mayR ok ((s.drop 6).dropWhile (· == 32)) = true then some ((s.drop 6).dropWhile (· == 32)) else none)
theorem mayT_nil (ok : UInt8 → Bool) : mayT ok [] = false := rfl
theorem low32 : ∀ l : U8s, l.map lowU = bearerL → (32 : UInt8) ∉ l := by
  intro l h hm
  have : lowU 32 ∈ l.map lowU := List.mem_map.2 ⟨32, hm, rfl⟩
  rw [h] at this
  exact absurd this (by decide)
theorem cred_eq (ok : UInt8 → Bool) (h61 : ok 61 = false) (s : U8s) : credT ok s = credR ok s := by
  unfold credT credR
  by_cases hc : s.length < 8 ∨ (s.take 6).map lowU ≠ bearerL ∨ s[6]? ≠ some 32
  · rw [if_pos hc, if_neg]
    intro h
    rw [Bool.and_eq_true, beq_iff_eq] at h
    obtain ⟨h1, h2⟩ := h
    have hl : (cut1 32 s).1.length = 6 := by
      have := congrArg List.length h1
      rw [List.length_map] at this
      exact this
    rcases Classical.em ((32 : UInt8) ∈ s) with hm | hm
    · obtain ⟨x, y, rfl, hx⟩ := List.eq_append_cons_of_mem hm
      rw [cut1_app 32 y x hx] at h1 h2 hl
      dsimp only at h1 h2 hl
      rcases hc with hc | hc | hc
      · rw [List.length_append, List.length_cons] at hc
        have : y = [] := List.length_eq_zero_iff.1 (by omega)
        subst this
        exact absurd h2 (by rw [show List.dropWhile (· == 32) ([] : U8s) = [] from rfl, mayT_nil]; decide)
      · rw [List.take_left' hl] at hc; exact hc h1
      · rw [List.getElem?_append_right (by omega), hl] at hc; exact hc rfl
    · rw [cut1_none 32 s hm] at h2
      exact absurd h2 (by rw [show List.dropWhile (· == 32) ([] : U8s) = [] from rfl, mayT_nil]; decide)
  · rw [if_neg hc]
    simp only [not_or, Decidable.not_not] at hc
    obtain ⟨h1, h2, h3⟩ := hc
    have hlt : 6 < s.length := by omega
    have e6 : s[6] = 32 := by
      rw [List.getElem?_eq_getElem hlt] at h3
      exact Option.some.inj h3
    have es : s = s.take 6 ++ 32 :: s.drop 7 := by
      conv => lhs; rw [← List.take_append_drop 6 s, List.drop_eq_getElem_cons hlt, e6]
    have ec : cut1 32 s = (s.take 6, s.drop 7, true) := by
      conv => lhs; rw [es]
      exact cut1_app 32 _ _ (low32 _ h2)
    have ed : s.drop 6 = 32 :: s.drop 7 := by rw [List.drop_eq_getElem_cons hlt, e6]
    have ed2 : (s.drop 6).dropWhile (· == 32) = (s.drop 7).dropWhile (· == 32) := by
      rw [ed, List.dropWhile_cons, if_pos (by decide)]
    rw [ec, ed2, may_eq ok h61]
    dsimp only
    have e1 : ((s.take 6).map lowU == bearerL) = true := beq_iff_eq.2 h2
    rw [e1, Bool.true_and]
end Go.Proofs.YtepljhleaohbcaaGreatDoor.P
end

section
/- Plain law: head.Get. -/
namespace Go.Proofs.YtepljhleaohbcaaGreatDoor.P
open Go.RowKit Go.Proofs.YtepljhleaohbcaaGreatDoorW.PrintWords Go.Proofs.YtepljhleaohbcaaGreatDoorW.PrintLast Go.Proofs.YtepljhleaohbcaaGreatDoorW.PrintMore

/-- What Get tells. -/
def getB (l : List S48) (n : ByteArray) : List ByteArray := (l.filter fun x => sameB x.f0 n).map (·.f1)
theorem getB_cons (x : S48) (r : List S48) (n : ByteArray) : getB (x :: r) n = if sameB x.f0 n = true then x.f1 :: getB r n else getB r n := by
  unfold getB
  simp only [List.filter_cons]
  split <;> rfl
theorem rd_at (l : List S48) (i : Nat) (h : i < l.length) : rd_T48 l (i : Int) = l[i] := by
  unfold rd_T48
  rw [Int.toNat_natCast, List.getD_eq_getElem?_getD, List.getElem?_eq_getElem h]
  rfl
theorem get_from (l : List S48) (n : ByteArray) (hl : l.length < 8796093022208) (hx : ∀ x ∈ l, x.f0.size ≤ 9223372036854775807) (hn : n.size ≤ 9223372036854775807) :
    ∀ (k i : Nat) (acc : List ByteArray), i ≤ l.length → acc.length ≤ i → l.length - i < k → head_Get.l0 k n acc l (l.length : Int) (i : Int) = some (acc ++ getB (l.drop i) n) := by
  intro k
  induction k with
  | zero => intro i acc _ _ h; omega
  | succ k ih =>
    intro i acc hi ha hk
    rw [head_Get.l0]
    by_cases hlt : i < l.length
    · rw [if_pos (show (i : Int) < (l.length : Int) by omega), if_pos (show (0 : Int) ≤ (i : Int) by omega), if_pos (show (i : Int) < (l.length : Int) by omega), rd_at l i hlt, textSame_ok _ _ (hx _ (List.getElem_mem hlt)) hn]
      have hw : wrap64 ((i : Int) + 1) = ((i + 1 : Nat) : Int) := by unfold wrap64; omega
      rw [hw]
      have hd : l.drop i = l[i] :: l.drop (i + 1) := List.drop_eq_getElem_cons hlt
      simp only [Option.bind_some]
      by_cases hs : sameB l[i].f0 n = true
      · rw [if_pos hs, if_pos (show acc.length < 8796093022208 by omega), ih (i + 1) (acc ++ [l[i].f1]) (by omega) (by rw [List.length_append]; simp; omega) (by omega)]
        have e1 : getB (l.drop i) n = l[i].f1 :: getB (l.drop (i + 1)) n := by rw [hd, getB_cons, if_pos hs]
        rw [e1, List.append_assoc]
        rfl
      · rw [if_neg hs, ih (i + 1) acc (by omega) (by omega) (by omega)]
        have e1 : getB (l.drop i) n = getB (l.drop (i + 1)) n := by rw [hd, getB_cons, if_neg hs]
        rw [e1]
    · rw [if_neg (show ¬ (i : Int) < (l.length : Int) by omega), List.drop_eq_nil_of_le (by omega)]
      simp [getB]
theorem get_ok (k : Nat) (l : List S48) (n : ByteArray) (hl : l.length < 8796093022208) (hx : ∀ x ∈ l, x.f0.size ≤ 9223372036854775807) (hn : n.size ≤ 9223372036854775807) (hk : l.length < k) : head_Get.f k l n = some (getB l n) := by
  unfold head_Get.f
  have := get_from l n hl hx hn k 0 [] (Nat.zero_le _) (Nat.zero_le _) (by omega)
  simpa using this

end Go.Proofs.YtepljhleaohbcaaGreatDoor.P
end

section
/- Tokens and credentials: what the code answers. -/
namespace Go.Proofs.YtepljhleaohbcaaGreatDoor.P
open Go.RowKit Go.Proofs.YtepljhleaohbcaaGreatDoorW.PrintWords Go.Proofs.YtepljhleaohbcaaGreatDoorW.PrintLast Go.Proofs.YtepljhleaohbcaaGreatDoorW.PrintMore

/-- May a byte stand in a token? -/
def okU (b : UInt8) : Bool := !badI (b.toNat : Int)
theorem ok61 : okU 61 = false := by decide +kernel
/-- May a text be a token? -/
def tokMay (l : U8s) : Bool := mayT okU l
theorem may_code (l : U8s) (h : l.length ≤ 1073741824) : auth_May.f (mkB l) = some (tokMay l) := by
  unfold auth_May.f
  rw [if_pos (by rw [mkB_size]; exact h)]
  congr 1
  unfold tokMay mayT
  have e1 : Lib.trimRightB (mkB l).data.toList 61 = bareT l := rfl
  rw [e1, mkB_size]
  congr 1
  congr 1
  show (!((bareT l).map fun b => ((b.toNat : Nat) : Int)).any badI) = _
  rw [List.any_map, List.not_any_eq_all_not]
  rfl

/-! ### credentials -/
def credOf (l : U8s) : ByteArray × Bool := match credT okU l with
  | some t => (mkB t, true)
  | none => (⟨#[]⟩, false)
def bearerB : ByteArray := ⟨#[98, 101, 97, 114, 101, 114]⟩
theorem lowB_mk (l : U8s) : lowB (mkB l) = mkB (l.map lowU) := rfl
theorem same_bearer (l : U8s) : sameB (mkB l) bearerB = (l.map lowU == bearerL) := by
  unfold sameB
  rw [lowB_mk, mkB_l]
  rfl
theorem cred_code (l : U8s) (h : l.length ≤ 1073741824) : auth_Credential.f (mkB l) = some (credOf l) := by
  unfold auth_Credential.f
  have e1 : strings_Cut.f (mkB l) (⟨#[32]⟩ : ByteArray) = some (mkB (cut1 32 l).1, mkB (cut1 32 l).2.1, (cut1 32 l).2.2) := by
    unfold strings_Cut.f
    rw [if_pos ⟨by rw [mkB_size]; exact h, rfl⟩]
    rfl
  have hle := cut1_le 32 l
  have e2 : strings_TrimLeft.f (mkB (cut1 32 l).2.1) (⟨#[32]⟩ : ByteArray) = some (mkB ((cut1 32 l).2.1.dropWhile (· == 32))) := by
    unfold strings_TrimLeft.f
    rw [if_pos rfl]
    rfl
  have e3 : text_Same.f (mkB (cut1 32 l).1) bearerB = some ((cut1 32 l).1.map lowU == bearerL) := by
    rw [textSame_ok _ _ (by rw [mkB_size]; omega) (by decide), same_bearer]
  have hd : ((cut1 32 l).2.1.dropWhile (· == 32)).length ≤ 1073741824 := Nat.le_trans (List.dropWhile_sublist _).length_le (by omega)
  rw [e1, Option.bind_some, e2, Option.bind_some]
  show (text_Same.f (mkB (cut1 32 l).1) bearerB).bind _ = _
  rw [e3, Option.bind_some]
  unfold credOf credT
  cases hs : ((cut1 32 l).1.map lowU == bearerL) with
  | false => rw [if_neg (by decide), Bool.false_and, if_neg (by decide)]
  | true =>
    rw [if_pos rfl, may_code _ hd, Option.bind_some, Bool.true_and]
    unfold tokMay
    cases mayT okU ((cut1 32 l).2.1.dropWhile (· == 32)) with
    | true => rw [if_pos rfl, if_pos rfl]
    | false => rw [if_neg (by decide), if_neg (by decide)]
theorem b32 (c : UInt8) : (((c.toNat : Nat) : Int) = 32) ↔ c = 32 := ⟨fun e => UInt8.toNat_inj.1 (by have : ((c.toNat : Nat) : Int) = ((32 : UInt8).toNat : Int) := e; omega), fun e => by rw [e]; rfl⟩
theorem ext_end (l : U8s) (i : Nat) : (mkB l).extract i (mkB l).size = mkB (l.drop i) := by
  rw [ext_mk, mkB_size, List.take_length]
/-! ### fields -/
def paS : ByteArray := ⟨#[112, 114, 111, 120, 121, 45, 97, 117, 116, 104, 111, 114, 105, 122, 97, 116, 105, 111, 110]⟩
/-- What values hold a token: one, and it is a credential of this token. -/
def holdsV (tok : ByteArray) : List ByteArray → Bool
  | [v] => (credOf v.data.toList).2 && ((credOf v.data.toList).1.toList == tok.toList)
  | _ => false
def holdsB (tok : ByteArray) (l : List S48) : Bool := holdsV tok (getB l paS)
theorem holdsV_one (tok v : ByteArray) : holdsV tok [v] = ((credOf v.data.toList).2 && ((credOf v.data.toList).1.toList == tok.toList)) := rfl
theorem one_len (v : ByteArray) : (([v] : List ByteArray).length : Int) = 1 := rfl
theorem one_pos (v : ByteArray) : 0 < (([v] : List ByteArray).length : Int) := by rw [one_len]; decide
theorem holds_end (k : Nat) (tok : ByteArray) (vs : List ByteArray) (hv : ∀ v ∈ vs, v.size ≤ 1073741824) :
    (if (vs.length : Int) = 1 then (if 0 < (vs.length : Int) then ((auth_Credential.f (rdOf ByteArray.empty vs 0)).bind fun bt123 => (if bt123.2 = true then (some (bt123.1.toList == tok.toList)) else (some false))) else none) else some false) = some (holdsV tok vs) := by
  match vs, hv with
  | [], _ => rfl
  | [v], hv =>
    rw [if_pos (one_len v), if_pos (one_pos v)]
    have hsz := hv v (by simp)
    have e : rdOf ByteArray.empty [v] 0 = mkB v.data.toList := (mkB_data v).symm
    have hl : v.data.toList.length ≤ 1073741824 := by rw [Array.length_toList]; exact hsz
    rw [e, cred_code _ hl, Option.bind_some, holdsV_one]
    cases (credOf v.data.toList).2 with
    | true => rw [if_pos rfl, Bool.true_and]
    | false => rw [if_neg (by decide), Bool.false_and]
  | a :: b :: r, _ =>
    rw [if_neg (by simp only [List.length_cons]; omega)]
    rfl
theorem getB_mem {l : List S48} {n v : ByteArray} (h : v ∈ getB l n) : ∃ x ∈ l, x.f1 = v := by
  unfold getB at h
  obtain ⟨x, hx, rfl⟩ := List.mem_map.1 h
  exact ⟨x, (List.mem_filter.1 hx).1, rfl⟩
/-- Fields small enough to be walked over. -/
structure SmallF (l : List S48) : Prop where
  len : l.length ≤ 1073741824
  names : ∀ x ∈ l, x.f0.size ≤ 1073741824
  vals : ∀ x ∈ l, x.f1.size ≤ 1073741824
theorem holds_code (tok : ByteArray) (l : List S48) (h : SmallF l) (k : Nat) (hk : l.length < k) : auth_Holds.f k tok l = some (holdsB tok l) := by
  unfold auth_Holds.f
  have hg := get_ok k l paS (by have := h.len; omega) (fun x hx => by have := h.names x hx; omega) (by decide) hk
  show (head_Get.f k l paS).bind _ = _
  rw [hg, Option.bind_some]
  exact holds_end k tok _ (fun v hv => by
    obtain ⟨x, hx, rfl⟩ := getB_mem hv
    exact h.vals x hx)
theorem wakesEv15 : Ev (fun k => tollhouselaw15_wakes.f k) true := Ev.of (fun k => tollhouselaw15_wakes.mono k) tollhouselaw15_wakes.told
theorem bulkFs_mem {l : List S48} {x : S48} (h : x ∈ l) : bulkF x ≤ bulkFs l := by
  induction l with
  | nil => simp at h
  | cons y r ih =>
    have e : bulkFs (y :: r) = bulkF y + bulkFs r := by simp [bulkFs]
    rcases List.mem_cons.1 h with rfl | h
    · omega
    · have := ih h; omega
theorem bulkFs_len (l : List S48) : l.length ≤ bulkFs l := by
  induction l with
  | nil => exact Nat.zero_le _
  | cons y r ih =>
    have e : bulkFs (y :: r) = bulkF y + bulkFs r := by simp [bulkFs]
    have : 1 ≤ bulkF y := by unfold bulkF; omega
    rw [List.length_cons]; omega
theorem small_of {l : List S48} (h : bulkFs l ≤ 1073741824) : SmallF l :=
  ⟨Nat.le_trans (bulkFs_len l) h, fun x hx => by have := bulkFs_mem hx; unfold bulkF at this; omega, fun x hx => by have := bulkFs_mem hx; unfold bulkF at this; omega⟩
end Go.Proofs.YtepljhleaohbcaaGreatDoor.P
end
