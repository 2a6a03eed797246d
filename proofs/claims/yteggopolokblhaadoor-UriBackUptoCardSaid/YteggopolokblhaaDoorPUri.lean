/- URLs, plain: what the program's functions answer. -/
import Derived.Test.YteggopolokblhaaDoorPNamedP
import Derived.Test.YteggopolokblhaaDoorPPort
import Derived.Test.YteggopolokblhaaDoorQUriB
import Derived.Lib.ItoaLen
set_option linter.unusedVariables false
set_option linter.unusedSimpArgs false
namespace Go.Proofs.YteggopolokblhaaDoor.P
open Go.RowKit Go.Proofs.YteggopolokblhaaDoorW.PrintWords Go.Proofs.YteggopolokblhaaDoorW.PrintLast Go.Proofs.YteggopolokblhaaDoorW.PrintMore

def lowL (l : U8s) : U8s := l.map lowU
def schemeL : U8s := [104, 116, 116, 112, 58, 47, 47]
def authL (h : U8s) (p : Int) : U8s := if p = 80 then h else h ++ 58 :: Lib.itoa p
def mayL (h : U8s) (p : Int) (t : U8s) : Bool := namedL h && (decide (1 ≤ p) && (decide (p ≤ 65535) && (pathL t && decide (7 + (authL h p).length + t.length ≤ 384))))
def textL (h : U8s) (p : Int) (t : U8s) : U8s := if mayL h p t = true then schemeL ++ authL h p ++ t else []
def hostL (h : U8s) (p : Int) (t : U8s) : U8s := if mayL h p t = true then authL h p else []
def urlOut (h : U8s) (p : Int) (t : U8s) (e : Int) : ByteArray × Int × ByteArray × Int := (mkB h, p, mkB t, e)
def noUrl : ByteArray × Int × ByteArray × Int := urlOut [] 0 [] 23
def checkedL (h : U8s) (p : Int) (t : U8s) : ByteArray × Int × ByteArray × Int := if mayL h p t = true then urlOut h p t 0 else noUrl
def notCut (b : UInt8) : Bool := !(b == 47 || b == 63)
def aheadL (l : U8s) : U8s := l.takeWhile notCut
def fromL (l : U8s) : U8s := l.dropWhile notCut
def pathOf : U8s → U8s
  | [] => [47]
  | b :: r => if b = 63 then 47 :: b :: r else b :: r
def parseEnd (x t : U8s) : ByteArray × Int × ByteArray × Int := checkedL (lowL (cut1 58 x).1) (if (cut1 58 x).2.2 = true then portL (cut1 58 x).2.1 else 80) t
def parseL (s : U8s) : ByteArray × Int × ByteArray × Int := if lowL (s.take 7) = schemeL then parseEnd (aheadL (s.drop 7)) (pathOf (fromL (s.drop 7))) else noUrl
def refIs (r : U8s) : Bool := r.head? == some 47 && !(r.take 2 == [47, 47])
def joinL (h : U8s) (p : Int) (t r : U8s) : ByteArray × Int × ByteArray × Int := if mayL h p t = true then (if refIs r = true then checkedL h p r else parseL r) else noUrl
def authorityL (s : U8s) : ByteArray × Int × Int := if namedL (lowL (cut1 58 s).1) = true then (if portL (cut1 58 s).2.1 = 0 then (mkB [], 0, 23) else (mkB (lowL (cut1 58 s).1), portL (cut1 58 s).2.1, 0)) else (mkB [], 0, 23)

theorem lowL_len (l : U8s) : (lowL l).length = l.length := List.length_map ..
theorem low_ok (l : U8s) (hl : l.length ≤ 1073741824) : text_Lower.f (mkB l) = some (mkB (lowL l)) := by
  unfold text_Lower.f
  rw [if_pos (by rw [mkB_size]; omega)]
  rfl
theorem path_ok (l : U8s) (hl : l.length ≤ 536870912) : uri_path.f (mkB l) = some (pathL l) := by
  unfold uri_path.f
  rw [if_pos (by rw [mkB_size]; omega)]
  rfl
theorem port_ok (l : U8s) (hl : l.length ≤ 1073741824) : uri_port.f (mkB l) = some (portL l) := by
  unfold uri_port.f
  rw [if_pos (by rw [mkB_size]; omega)]
  rfl
theorem cut_ok (c : UInt8) (l : U8s) (hl : l.length ≤ 1073741824) : strings_Cut.f (mkB l) (⟨#[c]⟩ : ByteArray) = some (mkB (cut1 c l).1, mkB (cut1 c l).2.1, (cut1 c l).2.2) := by
  unfold strings_Cut.f
  rw [if_pos ⟨by rw [mkB_size]; omega, rfl⟩]
  rfl
theorem itoa_len (p : Int) (h0 : -9223372036854775808 ≤ p) (h1 : p ≤ 9223372036854775807) : (Lib.itoa p).length ≤ 21 := Lib.itoa_length_le p h0 h1
theorem auth_ok (h t : U8s) (p : Int) (hl : h.length ≤ 1073741824) (h0 : -9223372036854775808 ≤ p) (h1 : p ≤ 9223372036854775807) : uri_authority.f (mkB h) p (mkB t) = some (mkB (authL h p)) := by
  unfold uri_authority.f authL
  by_cases h8 : p = 80
  · rw [if_pos h8, if_pos h8]
  · have hi := itoa_len p h0 h1
    have e1 : (⟨#[58]⟩ : ByteArray) = mkB [58] := rfl
    rw [if_neg h8, if_neg h8, mkB_size, if_pos (by omega)]
    unfold itoaS.f
    have e2 : (⟨(Lib.itoa p).toArray⟩ : ByteArray) = mkB (Lib.itoa p) := rfl
    rw [if_pos ⟨h0, h1⟩, Option.bind_some, e1, mkB_app, e2, mkB_size, mkB_size, if_pos (by rw [List.length_append]; simp only [List.length_cons, List.length_nil]; omega), mkB_app, List.append_assoc]
    rfl
theorem authL_len (h : U8s) (p : Int) (h0 : 1 ≤ p) (h1 : p ≤ 65535) : (authL h p).length ≤ h.length + 22 := by
  unfold authL
  have hi := itoa_len p (by omega) (by omega)
  split
  · omega
  · rw [List.length_append, List.length_cons]; omega
theorem may_ok (h t : U8s) (p : Int) (hh : h.length ≤ 268435456) (ht : t.length ≤ 268435456) : Ev (fun k => uri_May.f k (mkB h) p (mkB t)) (mayL h p t) := by
  unfold uri_May.f mayL
  refine Ev.bind (named_ok h (by omega)) ?_
  refine ev_ifL (fun hn => ?_) (fun hn => ?_)
  · rw [hn, Bool.true_and]
    refine ev_ifL (fun h1 => ?_) (fun h1 => ?_)
    · rw [decide_eq_true (show 1 ≤ p from h1), Bool.true_and]
      refine ev_ifL (fun h2 => ?_) (fun h2 => ?_)
      · rw [decide_eq_true h2, Bool.true_and]
        refine Ev.congr (fun k => by rw [path_ok t (by omega), Option.bind_some]) ?_
        refine ev_ifL (fun h3 => ?_) (fun h3 => ?_)
        · rw [h3, Bool.true_and]
          have hal := authL_len h p h1 h2
          have e : wrap64 ((wrap64 (7 + ((mkB (authL h p)).size : Int))) + ((mkB t).size : Int)) = ((7 + (authL h p).length + t.length : Nat) : Int) := by
            rw [mkB_size, mkB_size]; unfold wrap64; omega
          refine Ev.congr (fun k => by rw [auth_ok h t p (by omega) (by omega) (by omega), Option.bind_some, e]) ?_
          have e2 : decide (((7 + (authL h p).length + t.length : Nat) : Int) ≤ 384) = decide (7 + (authL h p).length + t.length ≤ 384) := by
            congr 1; rw [eq_iff_iff]; omega
          rw [e2]
          exact Ev.now _
        · rw [Bool.eq_false_iff.2 h3, Bool.false_and]; exact Ev.now _
      · rw [decide_eq_false h2, Bool.false_and]; exact Ev.now _
    · rw [decide_eq_false (show ¬ 1 ≤ p from h1), Bool.false_and]; exact Ev.now _
  · rw [Bool.eq_false_iff.2 hn, Bool.false_and]; exact Ev.now _
theorem mayL_port {h t : U8s} {p : Int} (h1 : mayL h p t = true) : namedL h = true ∧ 1 ≤ p ∧ p ≤ 65535 ∧ pathL t = true ∧ 7 + (authL h p).length + t.length ≤ 384 := by
  unfold mayL at h1
  simp only [Bool.and_eq_true, decide_eq_true_eq] at h1
  exact ⟨h1.1, h1.2.1, h1.2.2.1, h1.2.2.2.1, h1.2.2.2.2⟩
theorem text_ok (h t : U8s) (p : Int) (hh : h.length ≤ 268435456) (ht : t.length ≤ 268435456) : Ev (fun k => uri_Text.f k (mkB h) p (mkB t)) (mkB (textL h p t)) := by
  unfold uri_Text.f textL
  refine Ev.bind (may_ok h t p hh ht) ?_
  refine ev_ifL (fun hm => ?_) (fun hm => ?_)
  · obtain ⟨_, h1, h2, _, hs⟩ := mayL_port hm
    have e1 : (⟨#[104, 116, 116, 112, 58, 47, 47]⟩ : ByteArray) = mkB schemeL := rfl
    have hz : schemeL.length = 7 := rfl
    refine Ev.congr (fun k => by rw [auth_ok h t p (by omega) (by omega) (by omega), Option.bind_some, mkB_size, if_pos (by omega), e1, mkB_app, mkB_size, mkB_size, if_pos (by rw [List.length_append]; omega), mkB_app]) ?_
    rw [if_pos hm]
    exact Ev.now _
  · rw [if_neg hm]; exact Ev.now _
theorem host_ok (h t : U8s) (p : Int) (hh : h.length ≤ 268435456) (ht : t.length ≤ 268435456) : Ev (fun k => uri_Host.f k (mkB h) p (mkB t)) (mkB (hostL h p t)) := by
  unfold uri_Host.f hostL
  refine Ev.bind (may_ok h t p hh ht) ?_
  refine ev_ifL (fun hm => ?_) (fun hm => ?_)
  · obtain ⟨_, h1, h2, _, hs⟩ := mayL_port hm
    refine Ev.congr (fun k => by rw [auth_ok h t p (by omega) (by omega) (by omega), Option.bind_some]) ?_
    rw [if_pos hm]
    exact Ev.now _
  · rw [if_neg hm]; exact Ev.now _
theorem named_nil : namedL [] = false := by
  unfold namedL
  have : (labsL []).all labOk = false := by decide
  rw [this, Bool.false_and]
theorem mayL_nil (p : Int) (t : U8s) : mayL [] p t = false := by rw [mayL, named_nil, Bool.false_and]
theorem checked_ok (h t : U8s) (p : Int) (hh : h.length ≤ 268435456) (ht : t.length ≤ 268435456) : Ev (fun k => uri_checked.f k (mkB h) p (mkB t)) (checkedL h p t) := by
  unfold uri_checked.f checkedL
  refine ev_ifL (fun hc => ?_) (fun hc => ?_)
  · rw [mkB_toList, mkB_toList] at hc
    have : h = [] := by
      cases h with
      | nil => rfl
      | cons a r => exact absurd hc (by simp)
    subst this
    rw [mayL_nil, if_neg (by decide)]
    exact Ev.now _
  · refine Ev.bind (may_ok h t p hh ht) ?_
    refine ev_ifL (fun hm => ?_) (fun hm => ?_)
    · rw [if_pos hm]; exact Ev.now _
    · rw [if_neg hm]; exact Ev.now _
theorem drop_of {l a b : U8s} (h : l = a ++ b) : l.drop a.length = b := by subst h; exact List.drop_left
theorem take_of {l a b : U8s} (h : l = a ++ b) : l.take a.length = a := by subst h; exact List.take_left
theorem any_cases : ∀ l : U8s, (fromL l = [] ∧ aheadL l = l ∧ Lib.indexAny l [47, 63] = -1) ∨ (∃ b r, fromL l = b :: r ∧ (b = 47 ∨ b = 63) ∧ l = aheadL l ++ b :: r ∧ Lib.indexAny l [47, 63] = ((aheadL l).length : Int))
  | [] => .inl ⟨rfl, rfl, rfl⟩
  | b :: l => by
    have hcon : List.contains ([47, 63] : U8s) b = (b == 47 || b == 63) := by rw [Bool.eq_iff_iff]; simp
    by_cases hb : (b == 47 || b == 63) = true
    · refine .inr ⟨b, l, ?_, by simpa using hb, ?_, ?_⟩
      · rw [fromL, List.dropWhile_cons, if_neg (by simp only [notCut, hb]; decide)]
      · rw [aheadL, List.takeWhile_cons, if_neg (by simp only [notCut, hb]; decide)]; rfl
      · rw [aheadL, List.takeWhile_cons, if_neg (by simp only [notCut, hb]; decide), Lib.indexAny, hcon, if_pos hb]; rfl
    · have hb' : (b == 47 || b == 63) = false := Bool.eq_false_iff.2 hb
      have e1 : fromL (b :: l) = fromL l := by rw [fromL, List.dropWhile_cons, if_pos (by simp only [notCut, hb']; decide)]; rfl
      have e2 : aheadL (b :: l) = b :: aheadL l := by rw [aheadL, List.takeWhile_cons, if_pos (by simp only [notCut, hb']; decide)]; rfl
      have e3 : Lib.indexAny (b :: l) [47, 63] = if Lib.indexAny l [47, 63] == -1 then -1 else Lib.indexAny l [47, 63] + 1 := by
        rw [Lib.indexAny, hcon, if_neg hb]
      rcases any_cases l with ⟨h1, h2, h3⟩ | ⟨c, r, h1, h2, h3, h4⟩
      · exact .inl ⟨e1.trans h1, by rw [e2, h2], by rw [e3, h3]; rfl⟩
      · refine .inr ⟨c, r, e1.trans h1, h2, by rw [e2, List.cons_append, ← h3], ?_⟩
        rw [e3, h4, if_neg (by simp), e2, List.length_cons]; omega
theorem parse_j0 (x t : U8s) (hx : x.length ≤ 268435456) (ht : t.length ≤ 268435456) (y : ByteArray) : Ev (fun k => uri_Parse.j0 k (mkB x) y 80 (mkB t)) (parseEnd x t) := by
  have hle := cut1_le 58 x
  unfold parseEnd
  refine Ev.step (fun k => by rw [uri_Parse.j0, cut_ok 58 x (by omega), Option.bind_some, low_ok _ (by omega), Option.bind_some]) ?_
  dsimp only
  refine ev_ifL (fun hc => ?_) (fun hc => ?_)
  · rw [if_pos hc]
    refine Ev.congr (fun k => by rw [port_ok _ (by omega), Option.bind_some]) ?_
    exact Ev.bind (checked_ok _ _ _ (by rw [lowL_len]; omega) ht) (Ev.now _)
  · rw [if_neg hc]
    exact Ev.bind (checked_ok _ _ _ (by rw [lowL_len]; omega) ht) (Ev.now _)
theorem cuts_any (l : U8s) (hl : l.length ≤ 1073741824) : strings_IndexAny.f (mkB l) (⟨#[47, 63]⟩ : ByteArray) = some (Lib.indexAny l [47, 63]) := by
  unfold strings_IndexAny.f
  rw [if_pos ⟨by rw [mkB_size]; omega, rfl⟩]
  rfl
theorem parse_ok (s : U8s) (hs : s.length ≤ 134217728) : Ev (fun k => uri_Parse.f k (mkB s)) (parseL s) := by
  have hmn : mn ((mkB s).size : Int) 7 = ((min s.length 7 : Nat) : Int) := by
    rw [mkB_size]; unfold mn; split <;> omega
  have et : s.take (min s.length 7) = s.take 7 := by
    by_cases h : s.length ≤ 7
    · rw [show min s.length 7 = s.length by omega, List.take_of_length_le (Nat.le_refl _), List.take_of_length_le h]
    · rw [show min s.length 7 = 7 by omega]
  have ed : s.drop (min s.length 7) = s.drop 7 := by
    by_cases h : s.length ≤ 7
    · rw [show min s.length 7 = s.length by omega, List.drop_of_length_le (Nat.le_refl _), List.drop_of_length_le h]
    · rw [show min s.length 7 = 7 by omega]
  have e1 : (mkB s).extract 0 (((min s.length 7 : Nat) : Int).toNat) = mkB (s.take 7) := by rw [Int.toNat_natCast, ext_mk, List.drop_zero, et]
  have e2 : (mkB s).extract (((min s.length 7 : Nat) : Int).toNat) (mkB s).size = mkB (s.drop 7) := by
    rw [Int.toNat_natCast, ext_mk, mkB_size, List.take_of_length_le (Nat.le_refl _), ed]
  have hdl : (s.drop 7).length ≤ 134217728 := by rw [List.length_drop]; omega
  unfold uri_Parse.f parseL
  rw [hmn, e1, e2]
  refine Ev.congr (fun k => by rw [if_pos (by omega), mkB_size, if_pos (by omega), low_ok _ (by rw [List.length_take]; omega), Option.bind_some]) ?_
  rw [mkB_toList]
  refine ev_ifL (fun hc => ?_) (fun hc => ?_)
  · rw [if_pos (show lowL (s.take 7) = schemeL from hc)]
    generalize s.drop 7 = l at hdl ⊢
    refine Ev.congr (fun k => by rw [cuts_any l (by omega), Option.bind_some]) ?_
    rcases any_cases l with ⟨h1, h2, h3⟩ | ⟨b, r, h1, h2, h3, h4⟩
    · rw [h3, h1, h2]
      refine Ev.congr (fun k => if_neg (by decide)) ?_
      exact parse_j0 l [47] (by omega) (by decide) _
    · rw [h4, h1]
      have hal : (aheadL l).length ≤ l.length := by rw [congrArg List.length h3, List.length_append]; omega
      have hrl : (aheadL l).length + (r.length + 1) = l.length := by
        have := congrArg List.length h3
        rw [List.length_append, List.length_cons] at this; omega
      have e3 : (mkB l).extract (((aheadL l).length : Int).toNat) (mkB l).size = mkB (b :: r) := by
        rw [Int.toNat_natCast, ext_mk, mkB_size, List.take_of_length_le (Nat.le_refl _)]
        exact congrArg mkB (drop_of h3)
      have e4 : (mkB l).extract 0 (((aheadL l).length : Int).toNat) = mkB (aheadL l) := by
        rw [Int.toNat_natCast, ext_mk, List.drop_zero]
        exact congrArg mkB (take_of h3)
      have hb0 : bt (mkB (b :: r)) 0 = (b.toNat : Int) := bt_mk (b :: r) 0 (by simp)
      rw [e3, e4]
      refine Ev.congr (fun k => by rw [if_pos (by omega), if_pos (by omega), if_pos (by rw [mkB_size]; omega), if_pos (by rw [mkB_size, List.length_cons]; omega), hb0]) ?_
      refine ev_ifL (fun h63 => ?_) (fun h63 => ?_)
      · have hb : b = 63 := by
          apply UInt8.toNat_inj.1
          have : (63 : UInt8).toNat = 63 := rfl
          omega
        refine Ev.congr (fun k => by rw [if_pos (by rw [mkB_size, List.length_cons]; omega), show (⟨#[47]⟩ : ByteArray) = mkB [47] from rfl, mkB_app]) ?_
        rw [show pathOf (b :: r) = [47] ++ b :: r by rw [pathOf, if_pos hb]; rfl]
        exact parse_j0 _ _ (by omega) (by simp only [List.length_append, List.length_cons, List.length_nil]; omega) _
      · have hb : b ≠ 63 := fun e => h63 (by rw [e]; rfl)
        rw [show pathOf (b :: r) = b :: r by rw [pathOf, if_neg hb]]
        exact parse_j0 _ _ (by omega) (by rw [List.length_cons]; omega) _
  · rw [if_neg (show ¬ lowL (s.take 7) = schemeL from hc)]
    exact Ev.now _
theorem prefix_ok (q : U8s) (l : U8s) (hl : l.length ≤ 1073741824) (hq : q.length ≤ 64) : strings_HasPrefix.f (mkB l) (mkB q) = some (l.take q.length == q) := by
  unfold strings_HasPrefix.f stringslite_HasPrefix.f
  rw [mkB_size, mkB_size, mkB_toList]
  by_cases h : q.length ≤ l.length
  · rw [if_pos (by omega), if_pos (by omega), if_pos (by omega), Int.toNat_natCast, ext_mk, mkB_toList, List.drop_zero, Option.bind_some]
  · rw [if_neg (by omega), Option.bind_some]
    congr 1
    symm
    rw [beq_eq_false_iff_ne]
    intro e
    have := congrArg List.length e
    rw [List.length_take] at this
    omega
theorem head_take (l : U8s) : (l.take 1 == [47]) = (l.head? == some 47) := by
  cases l with
  | nil => rfl
  | cons a r => simp
theorem join_ok (h t r : U8s) (p : Int) (hh : h.length ≤ 134217728) (ht : t.length ≤ 134217728) (hr : r.length ≤ 134217728) : Ev (fun k => uri_Join.f k (mkB h) p (mkB t) (mkB r)) (joinL h p t r) := by
  unfold uri_Join.f joinL
  refine Ev.bind (may_ok h t p (by omega) (by omega)) ?_
  refine ev_ifL (fun hm => ?_) (fun hm => ?_)
  · rw [if_pos hm]
    have hj : ∀ b, Ev (fun k => uri_Join.j0 k (mkB r) b (mkB h) p (mkB t)) (if b = true then checkedL h p r else parseL r) := fun b => by
      refine Ev.step (fun k => by rw [uri_Join.j0]) ?_
      cases b with
      | true =>
        refine Ev.congr (fun k => if_pos rfl) ?_
        exact Ev.bind (checked_ok h r p (by omega) (by omega)) (Ev.now _)
      | false =>
        refine Ev.congr (fun k => if_neg (by decide)) ?_
        exact Ev.bind (parse_ok r hr) (Ev.now _)
    have e1 : strings_HasPrefix.f (mkB r) (⟨#[47]⟩ : ByteArray) = some (r.take 1 == [47]) := prefix_ok [47] r (by omega) (by decide)
    have e2 : strings_HasPrefix.f (mkB r) (⟨#[47, 47]⟩ : ByteArray) = some (r.take 2 == [47, 47]) := prefix_ok [47, 47] r (by omega) (by decide)
    refine Ev.congr (fun k => by rw [e1, Option.bind_some]) ?_
    unfold refIs
    rw [← head_take]
    refine ev_ifL (fun h1 => ?_) (fun h1 => ?_)
    · refine Ev.congr (fun k => by rw [e2, Option.bind_some]) ?_
      rw [h1, Bool.true_and]
      exact hj _
    · rw [Bool.eq_false_iff.2 h1, Bool.false_and]
      exact hj false
  · rw [if_neg hm]; exact Ev.now _
theorem authority_ok (s : U8s) (hs : s.length ≤ 134217728) : Ev (fun k => uri_Authority.f k (mkB s)) (authorityL s) := by
  have hle := cut1_le 58 s
  unfold uri_Authority.f authorityL
  refine Ev.congr (fun k => by rw [cut_ok 58 s (by omega), Option.bind_some, low_ok _ (by omega), Option.bind_some, port_ok _ (by omega), Option.bind_some]) ?_
  refine Ev.bind (named_ok _ (by rw [lowL_len]; omega)) ?_
  refine ev_ifL (fun h1 => ?_) (fun h1 => ?_)
  · rw [if_pos h1]
    refine ev_ifL (fun h2 => ?_) (fun h2 => ?_)
    · rw [if_pos h2]; exact Ev.now _
    · rw [if_neg h2]; exact Ev.now _
  · rw [if_neg h1]; exact Ev.now _
end Go.Proofs.YteggopolokblhaaDoor.P
