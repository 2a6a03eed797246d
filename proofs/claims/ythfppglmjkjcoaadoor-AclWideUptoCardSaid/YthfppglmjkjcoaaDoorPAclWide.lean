/- Plain law: AclWide. -/
import Derived.Test.YthfppglmjkjcoaaDoorPMatch
import Derived.Test.YthfppglmjkjcoaaDoorFOpenR
import Derived.Test.YthfppglmjkjcoaaDoorQtollhouselaw14AclWide
set_option linter.unusedVariables false
set_option linter.unusedSimpArgs false
namespace Go.Proofs.YthfppglmjkjcoaaDoor.P
open Go.RowKit Go.Proofs.YthfppglmjkjcoaaDoorW.PrintWords Go.Proofs.YthfppglmjkjcoaaDoorW.PrintLast Go.Proofs.YthfppglmjkjcoaaDoorW.PrintMore

theorem wakesEv14 : Ev (fun k => tollhouselaw14_wakes.f k) true := Ev.of (fun k => tollhouselaw14_wakes.mono k) tollhouselaw14_wakes.told
theorem mn_le (a b : Int) : mn a b ≤ a := by unfold mn; omega
theorem le_mx (a b : Int) : a ≤ mx a b := by unfold mx; omega
theorem ofL_star (host : U8s) : ofL [42] host = true := by unfold ofL; rw [if_pos rfl]
theorem matchB_true {h : U8s} {lo hi : Int} {ms : List ByteArray} {host : U8s} {port : Int} {m : ByteArray} : matchB h lo hi ms host port m = true ↔ ofL h host = true ∧ lo ≤ port ∧ port ≤ hi ∧ (ms.isEmpty || ms.any fun x => x.toList == m.toList) = true := by
  unfold matchB
  rw [Bool.and_eq_true, Bool.and_eq_true, Bool.and_eq_true, decide_eq_true_eq, decide_eq_true_eq, and_assoc, and_assoc]
theorem ofL_dot {h host : U8s} (hd : h.head? = some 46) : ofL h host = true ↔ h.length < host.length ∧ host.drop (host.length - h.length) = h := by
  unfold ofL
  have hn : h ≠ [42] := fun e => by rw [e] at hd; exact absurd hd (by decide)
  rw [if_neg hn, if_pos hd, Bool.and_eq_true, decide_eq_true_eq, beq_iff_eq]
theorem ofL_x {h host : U8s} (hd : h.head? = some 46) (ho : ofL h host = true) : ofL h (120 :: host) = true := by
  obtain ⟨h1, h2⟩ := (ofL_dot hd).1 ho
  refine (ofL_dot hd).2 ⟨by simp only [List.length_cons]; omega, ?_⟩
  rw [List.length_cons, show host.length + 1 - h.length = (host.length - h.length) + 1 by omega, List.drop_succ_cons, h2]
theorem ofL_self_x {h : U8s} (hd : h.head? = some 46) : ofL h (120 :: h) = true := by
  refine (ofL_dot hd).2 ⟨by simp only [List.length_cons]; omega, ?_⟩
  rw [List.length_cons, show h.length + 1 - h.length = 0 + 1 by omega, List.drop_succ_cons, List.drop_zero]
theorem ofL_self {h : U8s} (hd : h.head? = some 46) : ofL h h = false := by
  cases hq : ofL h h with
  | false => rfl
  | true => exact absurd ((ofL_dot hd).1 hq).1 (by omega)
theorem wide_j2 (b : Bool) (h : U8s) (lo hi : Int) (ms : List ByteArray) (host : U8s) (port : Int) (m : ByteArray) (h1 : h.length ≤ 1048576) (h2 : host.length ≤ 1048576) (h3 : ms.length ≤ 1048576) (hm : matchB h lo hi ms host port m = true) (x : Bool) (hx : x = (h.head? == some 46)) : Ev (fun k => tollhouselaw14_AclWide.j2 k (mkB host) port m x b (mkB h) lo hi ms) true := by
  obtain ⟨g1, g2, g3, g4⟩ := matchB_true.1 hm
  have ex : (⟨#[120]⟩ : ByteArray) = mkB [120] := rfl
  have m1 : ∀ hst : U8s, ofL h hst = true → matchB h lo hi ms hst port m = true := fun hst e => matchB_true.2 ⟨e, g2, g3, g4⟩
  by_cases hd : h.head? = some 46
  · have hx1 : x = true := by rw [hx, hd]; rfl
    have z1 : matchB h lo hi ms (120 :: host) port m = true := m1 _ (ofL_x hd g1)
    have z2 : matchB h lo hi ms (120 :: h) port m = true := m1 _ (ofL_self_x hd)
    have z3 : matchB h lo hi ms h port m = false := by
      cases hq : matchB h lo hi ms h port m with
      | false => rfl
      | true => exact absurd ((ofL_self hd).symm.trans (matchB_true.1 hq).1) (by decide)
    refine Ev.step (f := fun k => (acl_Matches.f k b (mkB h) lo hi ms (mkB (120 :: host)) port m).bind fun t145 => (if t145 = true then ((acl_Matches.f k b (mkB h) lo hi ms (mkB (120 :: h)) port m).bind fun t146 => (if t146 = true then ((acl_Matches.f k b (mkB h) lo hi ms (mkB h) port m).bind fun t147 => (if t147 = true then (some false) else ((tollhouselaw14_wakes.f k).bind fun t148 => (some t148)))) else (some false))) else (some false))) (fun k => ?_) ?_
    · rw [tollhouselaw14_AclWide.j2, if_pos hx1, if_pos (by rw [mkB_size]; omega), ex, mkB_app, mkB_app, if_pos (show 1 + (mkB h).size ≤ 9223372036854775807 by rw [mkB_size]; omega)]
      rfl
    · refine Ev.bind (matches_ok b h lo hi ms _ port m (by omega) (by simp only [List.length_cons]; omega) (by omega)) ?_
      rw [z1]
      refine Ev.congr (fun k => if_pos rfl) (Ev.bind (matches_ok b h lo hi ms _ port m (by omega) (by simp only [List.length_cons]; omega) (by omega)) ?_)
      rw [z2]
      refine Ev.congr (fun k => if_pos rfl) (Ev.bind (matches_ok b h lo hi ms _ port m (by omega) (by omega) (by omega)) ?_)
      rw [z3]
      exact Ev.congr (fun k => if_neg (by decide)) (Ev.bind wakesEv14 (Ev.now _))
  · have hx1 : ¬ x = true := by rw [hx]; simpa using hd
    have z1 : (h == [42]) = matchB h lo hi ms (host ++ [120]) port m := by
      by_cases e : h = [42]
      · subst e
        rw [m1 _ (ofL_star _)]; rfl
      · have e2 : (h == [42]) = false := by simpa using e
        rw [e2]
        cases hq : matchB h lo hi ms (host ++ [120]) port m with
        | false => rfl
        | true =>
          have q1 := (matchB_true.1 hq).1
          unfold ofL at q1 g1
          rw [if_neg e, if_neg hd, beq_iff_eq] at q1 g1
          rw [g1] at q1
          have := congrArg List.length q1
          rw [List.length_append] at this
          simp at this
    refine Ev.step (f := fun k => (acl_Matches.f k b (mkB h) lo hi ms (mkB (host ++ [120])) port m).bind fun t149 => (if ((h == [42]) == t149) = true then ((tollhouselaw14_wakes.f k).bind fun t150 => (some t150)) else (some false))) (fun k => ?_) ?_
    · rw [tollhouselaw14_AclWide.j2, if_neg hx1, if_pos (by rw [mkB_size]; omega), ex, mkB_app, mkB_toList]
    · refine Ev.bind (matches_ok b h lo hi ms _ port m (by omega) (by rw [List.length_append]; simp only [List.length_cons, List.length_nil]; omega) (by omega)) ?_
      rw [← z1]
      exact Ev.congr (fun k => if_pos (by simp)) (Ev.bind wakesEv14 (Ev.now _))
theorem wide_j1 (b : Bool) (h : U8s) (lo hi : Int) (ms : List ByteArray) (host : U8s) (port : Int) (m : ByteArray) (h1 : h.length ≤ 1048576) (h2 : host.length ≤ 1048576) (h3 : ms.length ≤ 1048576) (hm : matchB h lo hi ms host port m = true) : Ev (fun k => tollhouselaw14_AclWide.j1 k (mkB host) port m false b (mkB h) lo hi ms) true := by
  have j2 := wide_j2 b h lo hi ms host port m h1 h2 h3 hm (h.head? == some 46) rfl
  refine Ev.step (fun k => ?_) j2
  rw [tollhouselaw14_AclWide.j1, if_neg (by decide), mkB_size]
  cases h with
  | nil => rw [if_neg (by simp)]; rfl
  | cons c t =>
    rw [if_pos (by simp only [List.length_cons]; omega), if_pos (by simp only [List.length_cons]; omega)]
    congr 1
    rw [show ((0 : Int)) = ((0 : Nat) : Int) from rfl, bt_mk _ 0 (by simp)]
    show (((c.toNat : Nat) : Int) == 46) = (some c == some 46)
    rw [Bool.eq_iff_iff, beq_iff_eq, beq_iff_eq, Option.some.injEq]
    constructor
    · intro e; exact UInt8.toNat_inj.1 (by have : ((c.toNat : Nat) : Int) = ((46 : UInt8).toNat : Int) := e; omega)
    · intro e; rw [e]; rfl
theorem wide_j0 (b : Bool) (h : U8s) (lo hi : Int) (ms : List ByteArray) (host : U8s) (port : Int) (m : ByteArray) (h1 : h.length ≤ 1048576) (h2 : host.length ≤ 1048576) (h3 : ms.length ≤ 1048576) : Ev (fun k => tollhouselaw14_AclWide.j0 k (mkB host) port m false b (mkB h) lo hi ms) true := by
  refine Ev.step (f := fun k => (acl_Matches.f k b (mkB h) lo hi ms (mkB host) port m).bind fun t140 => (if t140 = true then ((acl_Matches.f k b (mkB h) (mn lo 1) (mx hi 65535) ([] : List ByteArray) (mkB host) port m).bind fun t143 => (if t143 = true then ((acl_Matches.f k b (mkB h) (mn lo 1) (mx hi 65535) ([] : List ByteArray) (mkB host) lo (mkB [])).bind fun t144 => (tollhouselaw14_AclWide.j1 k (mkB host) port m (!t144) b (mkB h) lo hi ms)) else (tollhouselaw14_AclWide.j1 k (mkB host) port m true b (mkB h) lo hi ms))) else ((tollhouselaw14_wakes.f k).bind fun t141 => (some t141)))) (fun k => by rw [tollhouselaw14_AclWide.j0, if_neg (by decide)]; rfl) ?_
  refine Ev.bind (matches_ok b h lo hi ms host port m (by omega) (by omega) (by omega)) ?_
  cases hm : matchB h lo hi ms host port m with
  | false => exact Ev.congr (fun k => if_neg (by decide)) (Ev.bind wakesEv14 (Ev.now _))
  | true =>
    obtain ⟨g1, g2, g3, g4⟩ := matchB_true.1 hm
    have a1 := mn_le lo 1
    have a2 := le_mx hi 65535
    have z1 : matchB h (mn lo 1) (mx hi 65535) [] host port m = true := matchB_true.2 ⟨g1, by omega, by omega, rfl⟩
    have z2 : matchB h (mn lo 1) (mx hi 65535) [] host lo (mkB []) = true := matchB_true.2 ⟨g1, by omega, by omega, rfl⟩
    refine Ev.congr (fun k => if_pos rfl) (Ev.bind (matches_ok b h _ _ [] host port m (by omega) (by omega) (by decide)) ?_)
    rw [z1]
    refine Ev.congr (fun k => if_pos rfl) (Ev.bind (matches_ok b h _ _ [] host lo (mkB []) (by omega) (by omega) (by decide)) ?_)
    rw [z2]
    exact wide_j1 b h lo hi ms host port m h1 h2 h3 hm
theorem bulkSs_len : ∀ l : List ByteArray, l.length ≤ bulkSs l
  | [] => Nat.zero_le _
  | x :: r => by
    have := bulkSs_len r
    unfold bulkSs at this ⊢
    simp only [List.length_cons, List.map_cons, List.sum_cons]
    omega
theorem AclWide_true (r : S25) (host : ByteArray) (port : Int) (method : ByteArray) (w1 : host.size ≤ 140737488351232) (w2 : (Lit.int .i64 port).wf = true) (w3 : method.size ≤ 140737488351232) (hB : bulkR r + host.size + method.size ≤ 1048576) : ∃ k, tollhouselaw14_AclWide.f k r.f0 r.f1 r.f2 r.f3 r.f4 host port method = some true := by
  obtain ⟨h1, h3⟩ : r.f1.size ≤ 1048576 ∧ r.f4.length ≤ 1048576 := by
    have := bulkSs_len r.f4
    unfold bulkR at hB
    omega
  obtain ⟨b, hs, lo, hi, ms⟩ := r
  simp only at h1 h3 ⊢
  obtain ⟨h, rfl⟩ := mkOf hs
  obtain ⟨hst, rfl⟩ := mkOf host
  replace hB : hst.length ≤ 1048576 := by rw [mkB_size] at hB; omega
  rw [mkB_size] at h1
  refine Ev.rounds (g := fun k => tollhouselaw14_AclWide.f k b (mkB h) lo hi ms (mkB hst) port method) ?_
  unfold tollhouselaw14_AclWide.f
  refine Ev.bind (matches_ok false [42] 1 65535 [] hst port method (by decide) (by omega) (by decide)) ?_
  have j0 := wide_j0 b h lo hi ms hst port method h1 hB h3
  have z : matchB [42] 1 65535 [] hst port method = (decide (1 ≤ port) && decide (port ≤ 65535)) := by
    unfold matchB
    rw [ofL_star]
    simp
  rw [z]
  by_cases e : 1 ≤ port
  · refine Ev.congr (fun k => if_pos e) ?_
    rw [decide_eq_true e, Bool.true_and, show (decide (port ≤ 65535) != decide (port ≤ 65535)) = false by simp]
    exact j0
  · refine Ev.congr (fun k => if_neg e) ?_
    rw [decide_eq_false e, Bool.false_and]
    exact j0
end Go.Proofs.YthfppglmjkjcoaaDoor.P
