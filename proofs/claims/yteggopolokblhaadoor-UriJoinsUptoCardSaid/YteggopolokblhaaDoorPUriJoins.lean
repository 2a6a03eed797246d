/- The law UriJoins, plain. -/
import Derived.Test.YteggopolokblhaaDoorPUriA
import Derived.Test.YteggopolokblhaaDoorQtollhouselaw10UriJoins
set_option linter.unusedVariables false
set_option linter.unusedSimpArgs false
namespace Go.Proofs.YteggopolokblhaaDoor.P
open Go.RowKit Go.Proofs.YteggopolokblhaaDoorW.PrintWords Go.Proofs.YteggopolokblhaaDoorW.PrintLast Go.Proofs.YteggopolokblhaaDoorW.PrintMore

theorem wakes_ok : Ev (fun k => tollhouselaw10_wakes.f k) true := Ev.of (fun k => tollhouselaw10_wakes.mono k) tollhouselaw10_wakes.told
theorem wakes_end : Ev (fun k => (tollhouselaw10_wakes.f k).bind fun t => some t) true := Ev.bind wakes_ok (Ev.now _)
theorem url_last (h t r : U8s) (p : Int) (hh : h.length ≤ 1048576) (ht : t.length ≤ 1048576) (hr : r.length ≤ 1048576) : Ev (fun k => (uri_Join.f k (mkB h) p (mkB t) (mkB r)).bind fun bt304 => ((uri_May.f k bt304.1 bt304.2.1 bt304.2.2.1).bind fun t309 => (if ((bt304.2.2.2 == 0) == t309) = true then (if bt304.2.2.2 = 0 then ((tollhouselaw10_wakes.f k).bind fun t310 => (some t310)) else (if bt304.2.2.2 = 23 then (if (bt304.1.toList == ([] : List UInt8) && (bt304.2.1 == 0 && (bt304.2.2.1.toList == ([] : List UInt8)))) = true then ((tollhouselaw10_wakes.f k).bind fun t311 => (some t311)) else (some false)) else (some false))) else (some false)))) true := by
  refine Ev.bind (join_ok h t r p (by omega) (by omega) (by omega)) ?_
  rcases join_cases h t r p with ⟨h', p', t', hm, e⟩ | e
  · rw [e]
    have hl := mayL_port hm
    have hal : h'.length ≤ 64 := (named_parts hl.1).2.1
    refine Ev.bind (may_ok h' t' p' (by omega) (by omega)) ?_
    rw [hm]
    refine Ev.congr (fun k => if_pos (by rfl)) ?_
    exact Ev.congr (fun k => if_pos rfl) wakes_end
  · rw [e]
    refine Ev.bind (may_ok [] [] 0 (by decide) (by decide)) ?_
    rw [mayL_nil]
    refine Ev.congr (fun k => if_pos (by rfl)) ?_
    refine Ev.congr (fun k => if_neg (by decide)) ?_
    refine Ev.congr (fun k => if_pos rfl) ?_
    exact Ev.congr (fun k => if_pos (by show ((mkB []).toList == [] && (((0 : Int) == 0) && ((mkB []).toList == []))) = true; rw [mkB_toList]; rfl)) wakes_end
theorem joins_j2 (h t r : U8s) (p : Int) (hh : h.length ≤ 1048576) (ht : t.length ≤ 1048576) (hr : r.length ≤ 1048576) : Ev (fun k => tollhouselaw10_UriJoins.j2 k (mkB r) false (mkB h) p (mkB t)) true :=
  Ev.step (fun k => by rw [tollhouselaw10_UriJoins.j2]) (Ev.congr (fun k => if_neg (by decide)) (url_last h t r p hh ht hr))
theorem same_url (a b : U8s) (p : Int) : (!((mkB a).toList == (mkB a).toList) || (!(p == p) || (!((mkB b).toList == (mkB b).toList)))) = false := by simp
theorem joins_j1 (x : Bool) (h t r h2 t2 : U8s) (p p2 : Int) (hh : h.length ≤ 1048576) (ht : t.length ≤ 1048576) (hr : r.length ≤ 1048576) (ht2 : t2.length ≤ 1048576) (hx : x = true → mayL h p t = true ∧ pathL t2 = true ∧ refIs t2 = true) : Ev (fun k => tollhouselaw10_UriJoins.j1 k (mkB r) x (mkB h) p (mkB t) (mkB h2) p2 (mkB t2)) true := by
  refine Ev.step (fun k => by rw [tollhouselaw10_UriJoins.j1]) ?_
  cases x with
  | false => exact Ev.congr (fun k => if_neg (by decide)) (url_last h t r p hh ht hr)
  | true =>
    obtain ⟨hm, _, hi⟩ := hx rfl
    refine Ev.congr (fun k => if_pos rfl) ?_
    refine Ev.bind (join_ok h t t2 p (by omega) (by omega) (by omega)) ?_
    refine Ev.bind (may_ok h t2 p (by omega) (by omega)) ?_
    have ej : joinL h p t t2 = checkedL h p t2 := by rw [joinL, if_pos hm, if_pos hi]
    rw [ej]
    rcases checked_cases h t2 p with ⟨hc, e⟩ | ⟨hc, e⟩
    · rw [e, hc]
      refine Ev.congr (fun k => if_neg (show ¬ ((((0 : Int) == 0) != true) = true) by decide)) ?_
      refine Ev.congr (fun k => if_pos rfl) ?_
      show Ev (fun k => tollhouselaw10_UriJoins.j2 k (mkB r) (!((mkB h).toList == (mkB h).toList) || (!(p == p) || (!((mkB t2).toList == (mkB t2).toList)))) (mkB h) p (mkB t)) true
      rw [same_url]
      exact joins_j2 h t r p hh ht hr
    · rw [e, hc]
      refine Ev.congr (fun k => if_neg (by decide)) ?_
      refine Ev.congr (fun k => if_neg (by decide)) ?_
      exact joins_j2 h t r p hh ht hr
theorem joins_j0 (h t r h2 t2 : U8s) (p p2 : Int) (hh : h.length ≤ 1048576) (ht : t.length ≤ 1048576) (hr : r.length ≤ 1048576) (hh2 : h2.length ≤ 1048576) (ht2 : t2.length ≤ 1048576) : Ev (fun k => tollhouselaw10_UriJoins.j0 k (mkB r) false (mkB h) p (mkB t) (mkB h2) p2 (mkB t2)) true := by
  refine Ev.step (fun k => by rw [tollhouselaw10_UriJoins.j0]) ?_
  refine Ev.congr (fun k => if_neg (by decide)) ?_
  refine Ev.bind (may_ok h t p (by omega) (by omega)) ?_
  refine ev_ifL (fun hm => ?_) (fun hm => joins_j1 false h t r h2 t2 p p2 hh ht hr ht2 (fun e => absurd e (by decide)))
  refine Ev.bind (may_ok h2 t2 p2 (by omega) (by omega)) ?_
  refine ev_ifL (fun hm2 => ?_) (fun hm2 => joins_j1 false h t r h2 t2 p p2 hh ht hr ht2 (fun e => absurd e (by decide)))
  obtain ⟨_, _, _, hp, _⟩ := mayL_port hm2
  obtain ⟨u, rfl⟩ := path_head hp
  refine ev_ifL (fun hs => ?_) (fun hs => ?_)
  · refine joins_j1 true h t r h2 _ p p2 hh ht hr ht2 (fun _ => ⟨hm, hp, ?_⟩)
    rw [mkB_size, List.length_cons] at hs
    have : u = [] := by
      cases u with
      | nil => rfl
      | cons _ _ => simp only [List.length_cons] at hs; omega
    subst this
    decide
  · rw [mkB_size, List.length_cons] at hs
    cases u with
    | nil => exact absurd (by decide) hs
    | cons b v =>
      have hb : bt (mkB (47 :: b :: v)) 1 = (b.toNat : Int) := bt_mk (47 :: b :: v) 1 (by simp)
      refine Ev.congr (fun k => by rw [if_pos (by rw [mkB_size]; simp only [List.length_cons]; omega), hb]) ?_
      refine joins_j1 _ h t r h2 _ p p2 hh ht hr ht2 (fun hx => ⟨hm, hp, ?_⟩)
      have hne : b ≠ 47 := fun e => by subst e; exact absurd hx (by decide)
      unfold refIs
      simp [hne]
theorem UriJoins_true (a : ByteArray) (p : Int) (b : ByteArray) (a2 : ByteArray) (p2 : Int) (b2 : ByteArray) (ref : ByteArray) (_ : a.size ≤ 140737488351232) (_ : (Lit.int .i64 p).wf = true) (_ : b.size ≤ 140737488351232) (_ : a2.size ≤ 140737488351232) (_ : (Lit.int .i64 p2).wf = true) (_ : b2.size ≤ 140737488351232) (_ : ref.size ≤ 140737488351232) (hB : (a.size + b.size) + (a2.size + b2.size) + ref.size ≤ 1048576) : ∃ k, tollhouselaw10_UriJoins.f k a p b a2 p2 b2 ref = some true := by
  obtain ⟨h, rfl⟩ := mkOf a
  obtain ⟨t, rfl⟩ := mkOf b
  obtain ⟨h2, rfl⟩ := mkOf a2
  obtain ⟨t2, rfl⟩ := mkOf b2
  obtain ⟨r, rfl⟩ := mkOf ref
  rw [mkB_size, mkB_size, mkB_size, mkB_size, mkB_size] at hB
  refine Ev.rounds (g := fun k => tollhouselaw10_UriJoins.f k (mkB h) p (mkB t) (mkB h2) p2 (mkB t2) (mkB r)) ?_
  have hj0 := joins_j0 h t r h2 t2 p p2 (by omega) (by omega) (by omega) (by omega) (by omega)
  unfold tollhouselaw10_UriJoins.f
  refine Ev.bind (text_ok h2 t2 p2 (by omega) (by omega)) ?_
  have htl : (textL h2 p2 t2).length ≤ 384 := by
    unfold textL
    split
    · rename_i hm
      obtain ⟨_, _, _, _, hl⟩ := mayL_port hm
      have hz : schemeL.length = 7 := rfl
      rw [List.length_append, List.length_append]; omega
    · exact Nat.zero_le _
  refine Ev.bind (join_ok h t _ p (by omega) (by omega) (by omega)) ?_
  refine Ev.bind (may_ok h t p (by omega) (by omega)) ?_
  cases hm : mayL h p t with
  | true =>
    refine Ev.congr (fun k => if_pos rfl) ?_
    refine Ev.bind (may_ok h2 t2 p2 (by omega) (by omega)) ?_
    cases hm2 : mayL h2 p2 t2 with
    | true =>
      have ej : joinL h p t (textL h2 p2 t2) = urlOut h2 p2 t2 0 := by
        rw [joinL, if_pos hm, if_neg (by rw [text_ref hm2]; decide), parse_back hm2]
      rw [ej]
      refine Ev.congr (fun k => if_neg (show ¬ ((((0 : Int) == 0) != true) = true) by decide)) ?_
      refine Ev.congr (fun k => if_pos rfl) ?_
      show Ev (fun k => tollhouselaw10_UriJoins.j0 k (mkB r) (!((mkB h2).toList == (mkB h2).toList) || (!(p2 == p2) || (!((mkB t2).toList == (mkB t2).toList)))) (mkB h) p (mkB t) (mkB h2) p2 (mkB t2)) true
      rw [same_url]
      exact hj0
    | false =>
      have et : textL h2 p2 t2 = [] := by rw [textL, hm2, if_neg (by decide)]
      have ej : joinL h p t (textL h2 p2 t2) = noUrl := by
        rw [et, joinL, if_pos hm, if_neg (by decide), parse_nil]
      rw [ej]
      refine Ev.congr (fun k => if_neg (by decide)) ?_
      exact Ev.congr (fun k => if_neg (by decide)) hj0
  | false =>
    refine Ev.congr (fun k => if_neg (by decide)) ?_
    have ej : joinL h p t (textL h2 p2 t2) = noUrl := by rw [joinL, hm, if_neg (by decide)]
    rw [ej]
    refine Ev.congr (fun k => if_neg (by decide)) ?_
    exact Ev.congr (fun k => if_neg (by decide)) hj0
end Go.Proofs.YteggopolokblhaaDoor.P
