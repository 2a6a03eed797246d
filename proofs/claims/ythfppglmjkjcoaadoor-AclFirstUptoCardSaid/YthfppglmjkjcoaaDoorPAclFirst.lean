/- AclFirst: the plain law. -/
import Derived.Test.YthfppglmjkjcoaaDoorPAdm
import Derived.Test.YthfppglmjkjcoaaDoorQtollhouselaw14AclFirst
set_option linter.unusedVariables false
set_option linter.unusedSimpArgs false
namespace Go.Proofs.YthfppglmjkjcoaaDoor.P
open Go.RowKit Go.Proofs.YthfppglmjkjcoaaDoorW.PrintWords Go.Proofs.YthfppglmjkjcoaaDoorW.PrintLast Go.Proofs.YthfppglmjkjcoaaDoorW.PrintMore
theorem wakesEvF : Ev (fun k => tollhouselaw14_wakes.f k) true := Ev.of (fun k => tollhouselaw14_wakes.mono k) tollhouselaw14_wakes.told
section
variable (l more : List S25) (r : S25) (host : U8s) (port : Int) (m : ByteArray) (hl : l.length ≤ 1048576) (hm : more.length ≤ 1048576) (hR : ∀ x ∈ l, R2 x) (hRm : ∀ x ∈ more, R2 x) (hr : R2 r) (h2 : host.length ≤ 1048576)
include hl hR hr h2 in
theorem first_j1 : Ev (fun k => tollhouselaw14_AclFirst.j1 k l (mkB host) port m (admB l host port m) false r.f0 r.f1 r.f2 r.f3 r.f4) true := by
  refine Ev.step (f := fun k => (acl_Matches.f k r.f0 r.f1 r.f2 r.f3 r.f4 (mkB host) port m).bind fun t253 => (if t253 = true then ((acl_Admits.f k ([r] ++ l) (mkB host) port m).bind fun t254 => (if (t254 == r.f0) = true then ((tollhouselaw14_wakes.f k).bind fun t255 => some t255) else some false)) else ((acl_Admits.f k ([r] ++ l) (mkB host) port m).bind fun t256 => (if (t256 == (admB l host port m)) = true then ((tollhouselaw14_wakes.f k).bind fun t257 => some t257) else some false)))) (fun k => ?_) ?_
  · rw [tollhouselaw14_AclFirst.j1, if_neg (by decide), Option.bind_some, if_pos (by simp only [List.length_cons, List.length_nil]; omega), Option.bind_some]
  · have hA := admits_ok ([r] ++ l) (by simp only [List.length_append, List.length_cons, List.length_nil]; omega) (by intro x hx; rcases List.mem_append.1 hx with h | h; (· rw [List.mem_singleton.1 h]; exact hr); exact hR x h) host port m h2
    rw [show [r] ++ l = r :: l from rfl, admB] at hA
    refine Ev.bind (match_codeR r hr host port m h2) ?_
    cases hq : matchR r host port m with
    | true =>
      rw [hq, if_pos rfl] at hA
      exact Ev.congr (fun k => if_pos rfl) (Ev.bind hA (Ev.congr (fun k => if_pos (beq_self_eq_true _)) (Ev.bind wakesEvF (Ev.now _))))
    | false =>
      rw [hq, if_neg (by decide)] at hA
      exact Ev.congr (fun k => if_neg (by decide)) (Ev.bind hA (Ev.congr (fun k => if_pos (beq_self_eq_true _)) (Ev.bind wakesEvF (Ev.now _))))
include hl hm hR hRm hr h2 in
theorem first_end (M O : List S25) (hM : l.filter (fun x => matchR x host port m) = M) (hO : l.filter (fun x => !matchR x host port m) = O) :
    Ev (fun k => tollhouselaw14_AclFirst.l0 k l more (mkB host) port m (admB l host port m) M O (l.length : Int) r.f0 r.f1 r.f2 r.f3 r.f4) true := by
  have hML : M.length ≤ l.length := by rw [← hM]; exact List.length_filter_le _ _
  have hOL : O.length ≤ l.length := by rw [← hO]; exact List.length_filter_le _ _
  have hfind : l.find? (fun x => matchR x host port m) = M.head? := by rw [← hM, List.head?_filter]
  have hall := admits_ok (l ++ more) (by rw [List.length_append]; omega) (by intro x hx; rcases List.mem_append.1 hx with h | h; (· exact hR x h); exact hRm x h) host port m h2
  rw [find_app, hfind] at hall
  match M, hM, hML, hfind, hall with
  | [], hM, hML, hfind, hall =>
    have hall : Ev (fun k => acl_Admits.f k (l ++ more) (mkB host) port m) (admB more host port m) := hall
    have ha : admB l host port m = false := by rw [admB_find, hfind]; rfl
    rw [ha]
    refine Ev.step (f := fun k => (acl_Admits.f k (l ++ more) (mkB host) port m).bind fun t226 => ((acl_Admits.f k more (mkB host) port m).bind fun t227 => (if (t226 == t227) = true then ((tollhouselaw14_wakes.f k).bind fun t228 => (some t228)) else (some false)))) (fun k => ?_) ?_
    · rw [tollhouselaw14_AclFirst.l0, if_neg (by omega), if_pos (show (([] : List S25).length : Int) = 0 from rfl), if_neg (by decide), if_pos (show ([] : List S25).length + l.length < 2199023255552 by simp only [List.length_nil]; omega), Option.bind_some, List.nil_append, if_pos (by omega)]
    · exact Ev.bind hall (Ev.bind (admits_ok more (by omega) hRm host port m h2) (Ev.congr (fun k => if_pos (beq_self_eq_true _)) (Ev.bind wakesEvF (Ev.now _))))
  | x :: t, hM, hML, hfind, hall =>
    have hx : matchR x host port m = true := by have : x ∈ l.filter (fun x => matchR x host port m) := by rw [hM]; exact List.mem_cons_self
                                                exact (List.mem_filter.1 this).2
    have hxl : ∀ y ∈ x :: t, R2 y := by intro y hy; rw [← hM] at hy; exact hR y (List.mem_filter.1 hy).1
    have hol : ∀ y ∈ O, R2 y := by intro y hy; rw [← hO] at hy; exact hR y (List.mem_filter.1 hy).1
    have ha : admB l host port m = x.f0 := by rw [admB_find, hfind]; rfl
    have h1 := admits_ok [x] (by simp) (by intro y hy; rw [List.mem_singleton.1 hy]; exact hxl x List.mem_cons_self) host port m h2
    rw [admB, if_pos hx] at h1
    have hno : O.find? (fun x => matchR x host port m) = none := by
      rw [List.find?_eq_none]
      intro y hy hc
      rw [← hO] at hy
      have := (List.mem_filter.1 hy).2
      rw [hc] at this
      exact absurd this (by decide)
    have h3 := admits_ok (O ++ x :: t) (by rw [List.length_append]; simp only [List.length_cons] at hML ⊢; omega) (by intro y hy; rcases List.mem_append.1 hy with h | h; (· exact hol y h); exact hxl y h) host port m h2
    rw [find_app, hno] at h3
    simp only [admB, if_pos hx] at h3
    have hj := first_j1 l r host port m hl hR hr h2
    have hall' : Ev (fun k => acl_Admits.f k (l ++ more) (mkB host) port m) x.f0 := hall
    rw [ha] at hj ⊢
    simp only [List.length_cons] at hML
    refine Ev.step (f := fun k => (acl_Admits.f k [x] (mkB host) port m).bind fun t235 => (if (t235 != x.f0) = true then (tollhouselaw14_AclFirst.j1 k l (mkB host) port m x.f0 true r.f0 r.f1 r.f2 r.f3 r.f4) else ((acl_Admits.f k (O ++ x :: t) (mkB host) port m).bind fun t239 => (if (t239 != x.f0) = true then (tollhouselaw14_AclFirst.j1 k l (mkB host) port m x.f0 true r.f0 r.f1 r.f2 r.f3 r.f4) else ((acl_Admits.f k (l ++ more) (mkB host) port m).bind fun t246 => (tollhouselaw14_AclFirst.j1 k l (mkB host) port m x.f0 (t246 != x.f0) r.f0 r.f1 r.f2 r.f3 r.f4)))))) (fun k => ?_) ?_
    · rw [tollhouselaw14_AclFirst.l0, if_neg (by omega), if_neg (by simp only [List.length_cons]; omega), if_pos (by simp only [List.length_cons]; omega), show rd_T25 (x :: t) 0 = x from rfl, if_neg (by simp), if_pos (by simp only [List.length_cons]; omega), show (x :: t).take 1 = [x] from rfl, if_pos (show O.length + (x :: t).length < 2199023255552 by simp only [List.length_cons]; omega), if_pos (show ([] : List S25).length + l.length < 2199023255552 by simp only [List.length_nil]; omega)]
      simp only [Option.bind_some, List.nil_append, if_pos (show l.length + more.length < 2199023255552 by omega)]
    · refine Ev.bind h1 (Ev.congr (fun k => if_neg (by simp)) (Ev.bind h3 (Ev.congr (fun k => if_neg (by simp)) (Ev.bind hall' ?_))))
      rw [show (x.f0 != x.f0) = false by simp]
      exact hj
include hl hm hR hRm hr h2 in
theorem first_l0 : ∀ (d i : Nat), l.length - i = d → i ≤ l.length → Ev (fun k => tollhouselaw14_AclFirst.l0 k l more (mkB host) port m (admB l host port m) ((l.take i).filter fun x => matchR x host port m) ((l.take i).filter fun x => !matchR x host port m) (i : Int) r.f0 r.f1 r.f2 r.f3 r.f4) true := by
  intro d
  induction d with
  | zero =>
    intro i hd hi
    obtain rfl : i = l.length := by omega
    rw [List.take_length]
    exact first_end l more r host port m hl hm hR hRm hr h2 _ _ rfl rfl
  | succ d ih =>
    intro i hd hi
    have hlt : i < l.length := by omega
    have i1 := ih (i + 1) (by omega) (by omega)
    have hx := hR _ (List.getElem_mem hlt)
    have hrd := rdT_at l i hlt
    have e1 : (l.take i).length ≤ 1048576 := by rw [List.length_take]; omega
    have hM := List.length_filter_le (fun x => matchR x host port m) (l.take i)
    have hO := List.length_filter_le (fun x => !matchR x host port m) (l.take i)
    rw [List.take_succ_eq_append_getElem hlt, List.filter_append, List.filter_append] at i1
    generalize l[i] = x at hrd hx i1
    generalize (l.take i).filter (fun x => matchR x host port m) = M at hM i1 ⊢
    generalize (l.take i).filter (fun x => !matchR x host port m) = O at hO i1 ⊢
    refine Ev.step (f := fun k => (acl_Matches.f k x.f0 x.f1 x.f2 x.f3 x.f4 (mkB host) port m).bind fun t211 => (if t211 = true then tollhouselaw14_AclFirst.l0 k l more (mkB host) port m (admB l host port m) (M ++ [x]) O ((i + 1 : Nat) : Int) r.f0 r.f1 r.f2 r.f3 r.f4 else tollhouselaw14_AclFirst.l0 k l more (mkB host) port m (admB l host port m) M (O ++ [x]) ((i + 1 : Nat) : Int) r.f0 r.f1 r.f2 r.f3 r.f4)) (fun k => ?_) (Ev.bind (match_codeR x hx host port m h2) ?_)
    · rw [tollhouselaw14_AclFirst.l0, if_pos (by omega), if_pos (by omega), hrd, w64n i (by omega), if_pos (show M.length < 2199023255552 by omega), if_pos (show O.length < 2199023255552 by omega)]
    · cases hq : matchR x host port m with
      | true =>
        rw [List.filter_cons, hq, if_pos rfl, List.filter_nil, List.filter_cons, hq, if_neg (by decide), List.filter_nil, List.append_nil] at i1
        exact Ev.congr (fun k => if_pos rfl) i1
      | false =>
        rw [List.filter_cons, hq, if_neg (by decide), List.filter_nil, List.filter_cons, hq, if_pos (by decide), List.filter_nil, List.append_nil] at i1
        exact Ev.congr (fun k => if_neg (by decide)) i1
end
theorem AclFirst_true (l more : List S25) (r : S25) (host : ByteArray) (port : Int) (method : ByteArray) (hr0 : (∀ x ∈ l, bulkR x ≤ 1048576) ∧ l.length ≤ 1048576) (hr1 : (∀ x ∈ more, bulkR x ≤ 1048576) ∧ more.length ≤ 1048576) (w2 : host.size ≤ 140737488351232) (w3 : (Lit.int .i64 port).wf = true) (w4 : method.size ≤ 140737488351232) (hB : bulkR r + host.size + method.size ≤ 1048576) : ∃ k, tollhouselaw14_AclFirst.f k l more r.f0 r.f1 r.f2 r.f3 r.f4 host port method = some true := by
  have hR : ∀ x ∈ l, R2 x := hr0.1
  have hRm : ∀ x ∈ more, R2 x := hr1.1
  have h2 : R2 r := by unfold R2; omega
  obtain ⟨hst, rfl⟩ := mkOf host
  have hh : hst.length ≤ 1048576 := by rw [mkB_size] at hB; omega
  refine Ev.rounds (g := fun k => tollhouselaw14_AclFirst.f k l more r.f0 r.f1 r.f2 r.f3 r.f4 (mkB hst) port method) ?_
  unfold tollhouselaw14_AclFirst.f
  refine Ev.bind (admits_ok l (by have := hr0.2; omega) hR hst port method hh) ?_
  exact first_l0 l more r hst port method hr0.2 hr1.2 hR hRm h2 hh l.length 0 (by omega) (Nat.zero_le _)
end Go.Proofs.YthfppglmjkjcoaaDoor.P
