/- The law UriBack, plain. -/
import Derived.Test.YteggopolokblhaaDoorPUriUp
import Derived.Test.YteggopolokblhaaDoorQtollhouselaw10UriBack
set_option linter.unusedVariables false
set_option linter.unusedSimpArgs false
namespace Go.Proofs.YteggopolokblhaaDoor.P
open Go.RowKit Go.Proofs.YteggopolokblhaaDoorW.PrintWords Go.Proofs.YteggopolokblhaaDoorW.PrintLast Go.Proofs.YteggopolokblhaaDoorW.PrintMore

theorem wakes_okB : Ev (fun k => tollhouselaw10_wakes.f k) true := Ev.of (fun k => tollhouselaw10_wakes.mono k) tollhouselaw10_wakes.told
theorem wakes_endB : Ev (fun k => (tollhouselaw10_wakes.f k).bind fun t => some t) true := Ev.bind wakes_okB (Ev.now _)
/-- A host's authority, with its port. -/
theorem authority_host {h : U8s} {p : Int} (hn : namedL h = true) (h1 : 1 ≤ p) (h2 : p ≤ 65535) : authorityL (h ++ 58 :: Lib.itoa p) = (mkB h, p, 0) := by
  have h58 : (58 : UInt8) ∉ h := fun hm => (label_low (named_bytes hn _ hm)).2.1 rfl
  have e : portL (Lib.itoa p) = p := by
    rw [itoa_port h1 h2, portL_dec _ (by omega) (by omega)]; omega
  unfold authorityL
  rw [cut1_app 58 _ h h58]
  dsimp only
  rw [named_low hn, if_pos hn, e, if_neg (by omega)]
theorem back_end (f : ByteArray × Int × Int) (h t : U8s) (p : Int) (hm : mayL h p t = true) (hf : f = (mkB h, p, 0)) : Ev (fun k => (uri_May.f k (mkB h) p (mkB t)).bind fun t343 => (if t343 = true then (if (0 : Int) = 0 then (if ((mkB h).toList == (mkB h).toList && (p == p && ((mkB t).toList == (mkB t).toList))) = true then (if f.2.2 = 0 then (if f.1.toList = (mkB h).toList then (if f.2.1 = p then ((text_Lower.f (mkB h)).bind fun t344 => (if t344.toList = (mkB h).toList then (if 0 < ((mkB t).size : Int) then (if (bt (mkB t) 0) = 47 then ((tollhouselaw10_wakes.f k).bind fun t345 => (some t345)) else (some false)) else (none)) else (some false))) else (some false)) else (some false)) else (some false)) else (some false)) else (some false)) else (some false))) true := by
  subst hf
  obtain ⟨hn, h1, h2, hp, hl⟩ := mayL_port hm
  obtain ⟨r, rfl⟩ := path_head hp
  have hh := (named_parts hn).2.1
  have hb : bt (mkB (47 :: r)) 0 = 47 := bt_mk (47 :: r) 0 (by simp)
  refine Ev.bind (may_ok h _ p (by omega) (by omega)) ?_
  rw [hm]
  refine Ev.congr (fun k => if_pos rfl) ?_
  refine Ev.congr (fun k => if_pos rfl) ?_
  refine Ev.congr (fun k => if_pos (by simp)) ?_
  refine Ev.congr (fun k => if_pos rfl) ?_
  refine Ev.congr (fun k => if_pos rfl) ?_
  refine Ev.congr (fun k => if_pos rfl) ?_
  refine Ev.congr (fun k => by rw [low_ok h (by omega), Option.bind_some, named_low hn]) ?_
  refine Ev.congr (fun k => if_pos rfl) ?_
  refine Ev.congr (fun k => by rw [if_pos (by rw [mkB_size, List.length_cons]; omega), hb]) ?_
  exact Ev.congr (fun k => if_pos rfl) wakes_endB
theorem UriBack_true (a : ByteArray) (p : Int) (b : ByteArray) (s : ByteArray) (_ : a.size ≤ 140737488351232) (_ : (Lit.int .i64 p).wf = true) (_ : b.size ≤ 140737488351232) (_ : s.size ≤ 140737488351232) (hB : (a.size + b.size) + s.size ≤ 1048576) : ∃ k, tollhouselaw10_UriBack.f k a p b s = some true := by
  refine Ev.rounds (g := fun k => tollhouselaw10_UriBack.f k a p b s) ?_
  unfold tollhouselaw10_UriBack.f
  refine Ev.congr (fun k => if_pos ⟨by omega, by omega⟩) ?_
  obtain ⟨h, rfl⟩ := mkOf a
  obtain ⟨t, rfl⟩ := mkOf b
  obtain ⟨q, rfl⟩ := mkOf s
  rw [mkB_size, mkB_size, mkB_size] at hB
  refine Ev.bind (text_ok h t p (by omega) (by omega)) ?_
  refine Ev.bind (may_ok h t p (by omega) (by omega)) ?_
  have e1 : ((mkB (textL h p t)).toList != ([] : List UInt8)) = mayL h p t := by
    rw [mkB_toList]
    unfold textL
    cases mayL h p t with
    | true => rw [if_pos rfl]; rfl
    | false => rw [if_neg (by decide)]; rfl
  rw [e1]
  refine Ev.congr (fun k => if_neg (by simp)) ?_
  refine Ev.bind (parse_ok q (by omega)) ?_
  rcases parse_cases q with ⟨h', p', t', hm, e⟩ | e
  · rw [e]
    refine Ev.congr (fun k => if_pos rfl) ?_
    obtain ⟨hn, h1, h2, hp, hl⟩ := mayL_port hm
    have hh := (named_parts hn).2.1
    have htl : (textL h' p' t').length ≤ 384 := by
      have hz : schemeL.length = 7 := rfl
      rw [textL, if_pos hm, List.length_append, List.length_append]; omega
    have ho : hostL h' p' t' = authL h' p' := by rw [hostL, if_pos hm]
    refine Ev.bind (text_ok h' t' p' (by omega) (by omega)) ?_
    refine Ev.bind (parse_ok _ (by omega)) ?_
    rw [parse_back hm]
    refine Ev.bind (host_ok h' t' p' (by omega) (by omega)) ?_
    rw [ho]
    refine Ev.bind (authority_ok _ (by omega)) ?_
    refine ev_ifL (fun h8 => ?_) (fun h8 => ?_)
    · have h8 : p' = 80 := h8
      subst h8
      refine Ev.bind (host_ok h' t' 80 (by omega) (by omega)) ?_
      rw [ho]
      have ea : authL h' 80 = h' := by rw [authL, if_pos rfl]
      have e3 : mkB (authL h' 80) ++ (⟨#[58, 56, 48]⟩ : ByteArray) = mkB (h' ++ 58 :: Lib.itoa 80) := by
        rw [ea]
        have : (⟨#[58, 56, 48]⟩ : ByteArray) = mkB (58 :: Lib.itoa 80) := by decide +kernel
        rw [this, mkB_app]
      have hl3 : (Lib.itoa 80).length = 2 := by decide +kernel
      refine Ev.congr (fun k => by rw [if_pos (by rw [mkB_size, ea]; omega), e3]) ?_
      refine Ev.bind (authority_ok _ (by rw [List.length_append, List.length_cons, hl3]; omega)) ?_
      exact back_end _ h' t' 80 hm (authority_host hn h1 h2)
    · have h8 : ¬ p' = 80 := h8
      have ea : authL h' p' = h' ++ 58 :: Lib.itoa p' := by rw [authL, if_neg h8]
      have := back_end (authorityL (authL h' p')) h' t' p' hm (by rw [ea]; exact authority_host hn h1 h2)
      exact this
  · rw [e]
    refine Ev.congr (fun k => if_neg (by decide)) ?_
    refine Ev.congr (fun k => if_pos rfl) ?_
    exact Ev.congr (fun k => if_pos (by show ((mkB []).toList == [] && (((0 : Int) == 0) && ((mkB []).toList == []))) = true; rw [mkB_toList]; rfl)) wakes_endB
end Go.Proofs.YteggopolokblhaaDoor.P
