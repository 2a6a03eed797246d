/- AclDenies: the plain law. -/
import Derived.Test.YthfppglmjkjcoaaDoorPAdm
import Derived.Test.YthfppglmjkjcoaaDoorQtollhouselaw14AclDenies
set_option linter.unusedVariables false
set_option linter.unusedSimpArgs false
namespace Go.Proofs.YthfppglmjkjcoaaDoor.P
open Go.RowKit Go.Proofs.YthfppglmjkjcoaaDoorW.PrintWords Go.Proofs.YthfppglmjkjcoaaDoorW.PrintLast Go.Proofs.YthfppglmjkjcoaaDoorW.PrintMore
theorem wakesEvD : Ev (fun k => (tollhouselaw14_wakes.f k).bind fun t => some t) true := Ev.bind (Ev.of (fun k => tollhouselaw14_wakes.mono k) tollhouselaw14_wakes.told) (Ev.now _)
section
variable (l : List S25) (host : U8s) (port : Int) (m : ByteArray) (hl : l.length ≤ 1048576) (hR : ∀ x ∈ l, R2 x) (h2 : host.length ≤ 1048576)
def denyB : Bool := l.any fun x => !x.f0 && matchR x host port m
def allowB : Bool := l.any fun x => x.f0 && matchR x host port m
theorem adm_parted : admB ((l.filter fun x => !x.f0) ++ l.filter fun x => x.f0) host port m = (allowB l host port m && !denyB l host port m) := by
  rw [find_app]
  cases hd : denyB l host port m with
  | true =>
    obtain ⟨x, hx, hp⟩ := List.any_eq_true.1 hd
    rw [Bool.and_eq_true] at hp
    cases hf : (l.filter fun x => !x.f0).find? fun x => matchR x host port m with
    | none => exact absurd hp.2 (List.find?_eq_none.1 hf x (List.mem_filter.2 ⟨hx, hp.1⟩))
    | some y =>
      have := (List.mem_filter.1 (List.mem_of_find?_eq_some hf)).2
      simp at this
      simp [this]
  | false =>
    have hnone : (l.filter fun x => !x.f0).find? (fun x => matchR x host port m) = none := by
      rw [List.find?_eq_none]
      intro y hy hc
      have hy := List.mem_filter.1 hy
      have := List.any_eq_false.1 hd y hy.1
      rw [hy.2, hc] at this
      exact this rfl
    rw [hnone]
    simp only [Bool.not_false, Bool.and_true]
    rw [admB_find]
    cases ha : allowB l host port m with
    | true =>
      obtain ⟨x, hx, hp⟩ := List.any_eq_true.1 ha
      rw [Bool.and_eq_true] at hp
      cases hf : (l.filter fun x => x.f0).find? fun x => matchR x host port m with
      | none => exact absurd hp.2 (List.find?_eq_none.1 hf x (List.mem_filter.2 ⟨hx, hp.1⟩))
      | some y =>
        have := (List.mem_filter.1 (List.mem_of_find?_eq_some hf)).2
        simpa using this
    | false =>
      have : (l.filter fun x => x.f0).find? (fun x => matchR x host port m) = none := by
        rw [List.find?_eq_none]
        intro y hy hc
        have hy := List.mem_filter.1 hy
        have := List.any_eq_false.1 ha y hy.1
        rw [hy.2, hc] at this
        exact this rfl
      rw [this]
      rfl
theorem adm_allows (h : admB l host port m = true) : allowB l host port m = true := by
  rw [admB_find] at h
  cases hf : l.find? fun x => matchR x host port m with
  | none => rw [hf] at h; exact absurd h (by decide)
  | some y =>
    rw [hf] at h
    have h : y.f0 = true := h
    exact List.any_eq_true.2 ⟨y, List.mem_of_find?_eq_some hf, by rw [h, List.find?_some hf]; rfl⟩
theorem adm_of_parted (ha : allowB l host port m = true) (hd : denyB l host port m = false) : admB l host port m = true := by
  rw [admB_find]
  obtain ⟨x, hx, hp⟩ := List.any_eq_true.1 ha
  rw [Bool.and_eq_true] at hp
  cases hf : l.find? fun x => matchR x host port m with
  | none => exact absurd hp.2 (List.find?_eq_none.1 hf x hx)
  | some y =>
    have := List.any_eq_false.1 hd y (List.mem_of_find?_eq_some hf)
    rw [List.find?_some hf] at this
    simpa using this
include hl hR h2 in
theorem denies_end : Ev (fun k => tollhouselaw14_AclDenies.l0 k l (mkB host) port m (l.filter fun x => !x.f0) (l.filter fun x => x.f0) (denyB l host port m) (allowB l host port m) (l.length : Int)) true := by
  have hD := List.length_filter_le (fun x : S25 => !x.f0) l
  have hA := List.length_filter_le (fun x : S25 => x.f0) l
  have h1 := admits_ok ((l.filter fun x => !x.f0) ++ l.filter fun x => x.f0) (by rw [List.length_append]; omega) (by intro y hy; rcases List.mem_append.1 hy with h | h <;> exact hR y (List.mem_filter.1 h).1) host port m h2
  have h0 := admits_ok l (by omega) hR host port m h2
  rw [adm_parted] at h1
  have e1 := adm_allows l host port m
  have e2 := adm_of_parted l host port m
  generalize (l.filter fun x => !x.f0) = D at *
  generalize (l.filter fun x => x.f0) = A at *
  generalize allowB l host port m = al at *
  generalize denyB l host port m = dn at *
  generalize admB l host port m = ad at *
  refine Ev.step (f := fun k => (acl_Admits.f k (D ++ A) (mkB host) port m).bind fun t274 => (if al = true then (if (t274 == (!dn)) = true then ((acl_Admits.f k l (mkB host) port m).bind fun t275 => (if t275 = true then (if t274 = true then ((acl_Admits.f k l (mkB host) port m).bind fun t276 => (if t276 = true then ((tollhouselaw14_wakes.f k).bind fun t277 => (some t277)) else (some false))) else ((tollhouselaw14_wakes.f k).bind fun t278 => (some t278))) else (if t274 = true then ((acl_Admits.f k l (mkB host) port m).bind fun t279 => (if t279 = true then ((tollhouselaw14_wakes.f k).bind fun t280 => (some t280)) else (some false))) else ((tollhouselaw14_wakes.f k).bind fun t281 => (some t281))))) else (some false)) else (if (t274 == false) = true then ((acl_Admits.f k l (mkB host) port m).bind fun t282 => (if t282 = true then (some false) else (if t274 = true then ((acl_Admits.f k l (mkB host) port m).bind fun t283 => (if t283 = true then ((tollhouselaw14_wakes.f k).bind fun t284 => (some t284)) else (some false))) else ((tollhouselaw14_wakes.f k).bind fun t285 => (some t285))))) else (some false)))) (fun k => ?_) (Ev.bind h1 ?_)
  · rw [tollhouselaw14_AclDenies.l0, if_neg (by omega), if_pos (by omega)]
  · cases al with
    | true =>
      refine Ev.congr (fun k => if_pos rfl) (Ev.congr (fun k => if_pos (by cases dn <;> rfl)) (Ev.bind h0 ?_))
      cases dn with
      | true =>
        cases ad with
        | true => exact Ev.congr (fun k => if_pos rfl) (Ev.congr (fun k => if_neg (by decide)) wakesEvD)
        | false => exact Ev.congr (fun k => if_neg (by decide)) (Ev.congr (fun k => if_neg (by decide)) wakesEvD)
      | false =>
        obtain rfl := e2 rfl rfl
        exact Ev.congr (fun k => if_pos rfl) (Ev.congr (fun k => if_pos rfl) (Ev.bind h0 (Ev.congr (fun k => if_pos rfl) wakesEvD)))
    | false =>
      obtain rfl : ad = false := by cases ad; rfl; exact absurd (e1 rfl) (by decide)
      exact Ev.congr (fun k => if_neg (by decide)) (Ev.congr (fun k => if_pos rfl) (Ev.bind h0 (Ev.congr (fun k => if_neg (by decide)) (Ev.congr (fun k => if_neg (by simp)) wakesEvD))))
include hl hR h2 in
theorem denies_l0 : ∀ (d i : Nat), l.length - i = d → i ≤ l.length → Ev (fun k => tollhouselaw14_AclDenies.l0 k l (mkB host) port m ((l.take i).filter fun x => !x.f0) ((l.take i).filter fun x => x.f0) (denyB (l.take i) host port m) (allowB (l.take i) host port m) (i : Int)) true := by
  intro d
  induction d with
  | zero =>
    intro i hd hi
    obtain rfl : i = l.length := by omega
    rw [List.take_length]
    exact denies_end l host port m hl hR h2
  | succ d ih =>
    intro i hd hi
    have hlt : i < l.length := by omega
    have i1 := ih (i + 1) (by omega) (by omega)
    have hx := hR _ (List.getElem_mem hlt)
    have hrd := rdT_at l i hlt
    have e1 : (l.take i).length ≤ 1048576 := by rw [List.length_take]; omega
    have hD := List.length_filter_le (fun x : S25 => !x.f0) (l.take i)
    have hA := List.length_filter_le (fun x : S25 => x.f0) (l.take i)
    unfold denyB allowB at i1 ⊢
    rw [List.take_succ_eq_append_getElem hlt, List.filter_append, List.filter_append, List.any_append, List.any_append] at i1
    generalize l[i] = x at hrd hx i1
    generalize ((l.take i).filter fun x => !x.f0) = D at *
    generalize ((l.take i).filter fun x => x.f0) = A at *
    generalize ((l.take i).any fun x => !x.f0 && matchR x host port m) = dn at *
    generalize ((l.take i).any fun x => x.f0 && matchR x host port m) = al at *
    simp only [List.filter_cons, List.filter_nil, List.any_cons, List.any_nil, Bool.or_false] at i1
    have hm := match_codeR x hx host port m h2
    refine Ev.step (f := fun k => if x.f0 = true then (if al = true then (tollhouselaw14_AclDenies.l0 k l (mkB host) port m D (A ++ [x]) dn true ((i + 1 : Nat) : Int)) else ((acl_Matches.f k x.f0 x.f1 x.f2 x.f3 x.f4 (mkB host) port m).bind fun t264 => (tollhouselaw14_AclDenies.l0 k l (mkB host) port m D (A ++ [x]) dn t264 ((i + 1 : Nat) : Int)))) else (if dn = true then (tollhouselaw14_AclDenies.l0 k l (mkB host) port m (D ++ [x]) A true al ((i + 1 : Nat) : Int)) else ((acl_Matches.f k x.f0 x.f1 x.f2 x.f3 x.f4 (mkB host) port m).bind fun t270 => (tollhouselaw14_AclDenies.l0 k l (mkB host) port m (D ++ [x]) A t270 al ((i + 1 : Nat) : Int))))) (fun k => ?_) ?_
    · rw [tollhouselaw14_AclDenies.l0, if_pos (by omega), if_pos (by omega), hrd, w64n i (by omega), if_pos (show A.length < 2199023255552 by omega), if_pos (show D.length < 2199023255552 by omega)]
      simp only [Option.bind_some]
    · cases hf : x.f0 with
      | true =>
        rw [hf] at hm
        simp only [hf, Bool.not_true, Bool.true_and, Bool.false_and, Bool.or_false, if_true, Bool.false_eq_true, if_false, List.append_nil] at i1
        refine Ev.congr (fun k => if_pos rfl) ?_
        cases al with
        | true => exact Ev.congr (fun k => if_pos rfl) (by simpa using i1)
        | false => exact Ev.congr (fun k => if_neg (by decide)) (Ev.bind hm (by simpa using i1))
      | false =>
        rw [hf] at hm
        simp only [hf, Bool.not_false, Bool.true_and, Bool.false_and, Bool.or_false, if_true, Bool.false_eq_true, if_false, List.append_nil] at i1
        refine Ev.congr (fun k => if_neg (by decide)) ?_
        cases dn with
        | true => exact Ev.congr (fun k => if_pos rfl) (by simpa using i1)
        | false => exact Ev.congr (fun k => if_neg (by decide)) (Ev.bind hm (by simpa using i1))
end
theorem AclDenies_true (l : List S25) (host : ByteArray) (port : Int) (method : ByteArray) (hr0 : (∀ x ∈ l, bulkR x ≤ 1048576) ∧ l.length ≤ 1048576) (w2 : host.size ≤ 140737488351232) (w3 : (Lit.int .i64 port).wf = true) (w4 : method.size ≤ 140737488351232) (hB : host.size + method.size ≤ 1048576) : ∃ k, tollhouselaw14_AclDenies.f k l host port method = some true := by
  have hR : ∀ x ∈ l, R2 x := hr0.1
  obtain ⟨hst, rfl⟩ := mkOf host
  have hh : hst.length ≤ 1048576 := by rw [mkB_size] at hB; omega
  refine Ev.rounds (g := fun k => tollhouselaw14_AclDenies.f k l (mkB hst) port method) ?_
  unfold tollhouselaw14_AclDenies.f
  exact denies_l0 l hst port method hr0.2 hR hh l.length 0 (by omega) (Nat.zero_le _)
end Go.Proofs.YthfppglmjkjcoaaDoor.P
