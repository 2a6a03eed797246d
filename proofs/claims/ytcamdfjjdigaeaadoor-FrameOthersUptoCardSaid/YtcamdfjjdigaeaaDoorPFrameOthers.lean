/- FrameOthers: the plain law. -/
import Derived.Test.YtcamdfjjdigaeaaDoorPawake07
import Derived.Test.YtcamdfjjdigaeaaDoorQtollhouselaw07FrameOthers
set_option linter.unusedVariables false
set_option linter.unusedSimpArgs false
namespace Go.Proofs.YtcamdfjjdigaeaaDoor.P
open Go.RowKit Go.Proofs.YtcamdfjjdigaeaaDoorW.PrintWords Go.Proofs.YtcamdfjjdigaeaaDoorW.PrintLast Go.Proofs.YtcamdfjjdigaeaaDoorW.PrintMore

theorem sure_iff (minor : Int) (l : List S34) : sureR minor l = true ↔ (getB l teS = [] ∧ getB l clS = []) ∨ (getB l clS = [] ∧ getB l teS ≠ [] ∧ minor = 1 ∧ (elemsB l teS).length = 1 ∧ ∀ x ∈ elemsB l teS, sameB x chunkedS = true) ∨ (getB l teS = [] ∧ getB l clS ≠ [] ∧ elemsB l clS ≠ [] ∧ ∀ a ∈ elemsB l clS, (nB a).2 ≠ 5 ∧ ∀ b ∈ elemsB l clS, nB b = nB a ∧ ((nB a).2 = 3 → b.toList = a.toList)) := by
  by_cases h2 : getB l teS = []
  · have n2 : ¬ getB l teS ≠ [] := fun h => h h2
    have nb : ¬ (getB l clS ≠ [] ∧ getB l teS ≠ []) := fun h => n2 h.2
    by_cases h1 : getB l clS = []
    · have eR : sureR minor l = true := by unfold sureR; rw [if_neg nb, if_neg n2, if_pos h1]
      exact ⟨fun _ => .inl ⟨h2, h1⟩, fun _ => eR⟩
    · have eR : sureR minor l = match elemsB l clS with | [] => false | x :: r => !decide ((nB x).2 = 5) && okLen x r := by unfold sureR; rw [if_neg nb, if_neg n2, if_neg h1]; rfl
      rw [eR]
      cases elemsB l clS with
      | nil =>
        constructor
        · intro h; cases h
        · rintro (⟨_, h⟩ | ⟨_, h, _⟩ | ⟨_, _, h, _⟩)
          · exact absurd h h1
          · exact absurd h2 h
          · exact absurd rfl h
      | cons x r =>
        dsimp only
        have ok_iff : okLen x r = true ↔ ∀ b ∈ r, nB b = nB x ∧ ((nB x).2 = 3 → b.toList = x.toList) := by
          unfold okLen
          rw [List.all_eq_true]
          constructor
          · intro h b hb
            have := h b hb
            rw [Bool.and_eq_true, decide_eq_true_eq, Bool.or_eq_true, Bool.not_eq_true', decide_eq_false_iff_not, decide_eq_true_eq] at this
            exact ⟨this.1, fun h3 => this.2.resolve_left (fun hn => hn h3)⟩
          · intro h b hb
            have := h b hb
            rw [Bool.and_eq_true, decide_eq_true_eq, Bool.or_eq_true, Bool.not_eq_true', decide_eq_false_iff_not, decide_eq_true_eq]
            refine ⟨this.1, ?_⟩
            by_cases h3 : (nB x).2 = 3
            · exact .inr (this.2 h3)
            · exact .inl h3
        rw [Bool.and_eq_true, Bool.not_eq_true', decide_eq_false_iff_not, ok_iff]
        constructor
        · rintro ⟨h5, hok⟩
          refine .inr (.inr ⟨h2, h1, by simp, ?_⟩)
          have hx : ∀ a ∈ x :: r, nB a = nB x ∧ ((nB x).2 = 3 → a.toList = x.toList) := fun a ha => by
            rcases List.mem_cons.1 ha with rfl | ha
            · exact ⟨rfl, fun _ => rfl⟩
            · exact hok a ha
          intro a ha
          obtain ⟨e1, e2⟩ := hx a ha
          refine ⟨by rw [e1]; exact h5, fun b hb => ?_⟩
          obtain ⟨f1, f2⟩ := hx b hb
          rw [e1]
          exact ⟨f1, fun h3 => (f2 h3).trans (e2 h3).symm⟩
        · rintro (⟨_, h⟩ | ⟨_, h, _⟩ | ⟨_, _, _, h⟩)
          · exact absurd h h1
          · exact absurd h2 h
          · obtain ⟨h5, h6⟩ := h x (by simp)
            exact ⟨h5, fun b hb => h6 b (by simp [hb])⟩
  · by_cases h1 : getB l clS = []
    · have nb : ¬ (getB l clS ≠ [] ∧ getB l teS ≠ []) := fun h => h.1 h1
      have eR : sureR minor l = (decide (minor = 1) && (match elemsB l teS with | [x] => sameB x chunkedS | _ => false)) := by unfold sureR; rw [if_neg nb, if_pos h2]; rfl
      rw [eR]
      constructor
      · intro h
        rw [Bool.and_eq_true, decide_eq_true_eq] at h
        obtain ⟨hm, h⟩ := h
        refine .inr (.inl ⟨h1, h2, hm, ?_⟩)
        match hq : elemsB l teS, h with
        | [x], h => exact ⟨rfl, fun y hy => by rw [List.mem_singleton.1 hy]; exact h⟩
      · rintro (⟨h, _⟩ | ⟨_, _, hm, hl, h⟩ | ⟨h, _⟩)
        · exact absurd h h2
        · rw [Bool.and_eq_true, decide_eq_true_eq]
          refine ⟨hm, ?_⟩
          match hq : elemsB l teS, hl, h with
          | [x], _, h => exact h x (by simp)
        · exact absurd h h2
    · have eR : sureR minor l = false := by unfold sureR; rw [if_pos ⟨h1, h2⟩]
      rw [eR]
      constructor
      · intro h; cases h
      · rintro (⟨h, _⟩ | ⟨h, _⟩ | ⟨h, _⟩)
        · exact absurd h h2
        · exact absurd h h1
        · exact absurd h h2
/-- Two lists of fields that say the same of a body. -/
structure LikeF (a b : List S34) : Prop where
  e1 : getB a clS = [] ↔ getB b clS = []
  e2 : getB a teS = [] ↔ getB b teS = []
  m1 : ∀ x, x ∈ elemsB a clS ↔ x ∈ elemsB b clS
  m2 : ∀ x, x ∈ elemsB a teS ↔ x ∈ elemsB b teS
  l2 : (elemsB a teS).length = (elemsB b teS).length
theorem nil_iff {α : Type} {a b : List α} (h : ∀ x, x ∈ a ↔ x ∈ b) : a = [] ↔ b = [] := by
  rw [List.eq_nil_iff_forall_not_mem, List.eq_nil_iff_forall_not_mem]
  exact ⟨fun k x hx => k x ((h x).2 hx), fun k x hx => k x ((h x).1 hx)⟩
theorem LikeF.sure {a b : List S34} (h : LikeF a b) (minor : Int) : sureR minor a = sureR minor b := by
  rw [Bool.eq_iff_iff, sure_iff, sure_iff]
  have n1 := nil_iff h.m1
  simp only [h.e1, h.e2, h.m1, h.m2, h.l2, ne_eq, n1]
theorem LikeF.body {a b : List S34} (h : LikeF a b) {minor : Int} (hs : sureR minor a = true) : bodyR a = bodyR b := by
  unfold bodyR
  by_cases h2 : getB a teS = []
  · rw [if_neg (fun k => k h2), if_neg (fun k => k (h.e2.1 h2))]
    have n1 := nil_iff h.m1
    rcases (sure_iff minor a).1 hs with ⟨_, h1⟩ | ⟨_, k, _⟩ | ⟨_, _, _, hall⟩
    · rw [elemsB_none h1, elemsB_none (h.e1.1 h1)]
    · exact absurd h2 k
    · cases ha : elemsB a clS with
      | nil => rw [n1.1 ha]
      | cons x r =>
        cases hb : elemsB b clS with
        | nil => rw [n1.2 hb] at ha; cases ha
        | cons y s =>
          have hy : y ∈ elemsB a clS := (h.m1 y).2 (by rw [hb]; simp)
          have hx : x ∈ elemsB a clS := by rw [ha]; simp
          have e := ((hall x hx).2 y hy).1
          dsimp only
          rw [e]
  · rw [if_pos h2, if_pos (fun k => h2 (h.e2.2 k))]
theorem LikeF.req {a b : List S34} (h : LikeF a b) (minor : Int) : reqR minor a = reqR minor b := by
  unfold reqR
  rw [h.sure minor]
  by_cases h1 : badMinor minor
  · rw [if_pos h1, if_pos h1]
  · rw [if_neg h1, if_neg h1]
    by_cases h2 : sureR minor b = false
    · rw [if_pos h2, if_pos h2]
    · rw [if_neg h2, if_neg h2, h.body (minor := minor) (by rw [h.sure minor]; simpa using h2)]
theorem LikeF.resp {a b : List S34} (h : LikeF a b) (status : Int) (method : ByteArray) (minor : Int) : respR status method minor a = respR status method minor b := by
  unfold respR
  rw [h.sure minor]
  by_cases h1 : badMinor minor
  · rw [if_pos h1, if_pos h1]
  · rw [if_neg h1, if_neg h1]
    by_cases h2 : sureR minor b = false
    · rw [if_pos h2, if_pos h2]
    · rw [if_neg h2, if_neg h2, h.body (minor := minor) (by rw [h.sure minor]; simpa using h2)]
theorem likeF_of_get {a b : List S34} (h1 : getB a clS = getB b clS) (h2 : getB a teS = getB b teS) : LikeF a b := by
  refine ⟨by rw [h1], by rw [h2], fun x => by unfold elemsB; rw [h1], fun x => by unfold elemsB; rw [h2], by unfold elemsB; rw [h2]⟩
theorem getB_append07 (a b : List S34) (n : ByteArray) : getB (a ++ b) n = getB a n ++ getB b n := by unfold getB; rw [List.filter_append, List.map_append]
theorem getB_reverse (l : List S34) (n : ByteArray) : getB l.reverse n = (getB l n).reverse := by unfold getB; rw [List.filter_reverse, List.map_reverse]
theorem elsB_rev_mem (vs : List ByteArray) (x : ByteArray) : x ∈ elsB vs.reverse ↔ x ∈ elsB vs := by
  unfold elsB
  rw [List.mem_flatMap, List.mem_flatMap]
  exact ⟨fun ⟨v, hv, h⟩ => ⟨v, List.mem_reverse.1 hv, h⟩, fun ⟨v, hv, h⟩ => ⟨v, List.mem_reverse.2 hv, h⟩⟩
theorem elsB_rev_len (vs : List ByteArray) : (elsB vs.reverse).length = (elsB vs).length := by
  induction vs with
  | nil => rfl
  | cons v r ih =>
    rw [List.reverse_cons, elsB_append, List.length_append, ih, elsB_one]
    have : elsB (v :: r) = listB v ++ elsB r := by unfold elsB; rw [List.flatMap_cons]
    rw [this, List.length_append]
    omega
theorem likeF_reverse (l : List S34) : LikeF l.reverse l := by
  refine ⟨by rw [getB_reverse, List.reverse_eq_nil_iff], by rw [getB_reverse, List.reverse_eq_nil_iff], fun x => ?_, fun x => ?_, ?_⟩
  · unfold elemsB; rw [getB_reverse]; exact elsB_rev_mem _ x
  · unfold elemsB; rw [getB_reverse]; exact elsB_rev_mem _ x
  · unfold elemsB; rw [getB_reverse]; exact elsB_rev_len _
theorem low_up_fin : ∀ n : Fin 256, lowU (upU (UInt8.ofNat n.val)) = lowU (UInt8.ofNat n.val) := by decide +kernel
theorem low_up (c : UInt8) : lowU (upU c) = lowU c := by
  have := low_up_fin ⟨c.toNat, c.toNat_lt⟩
  simpa using this
theorem lowB_up (a : ByteArray) : lowB (upB a) = lowB a := by
  unfold lowB upB
  simp [List.map_map, Function.comp_def, low_up]
theorem same_up (a n : ByteArray) : sameB (upB a) n = sameB a n := by rw [sameB_eq, sameB_eq, lowB_up]
theorem upB_size (a : ByteArray) : (upB a).size = a.size := by
  show (List.toArray (a.data.toList.map upU)).size = a.data.size
  rw [List.size_toArray, List.length_map, Array.length_toList]
theorem getB_up (x : S34) (n : ByteArray) : getB [⟨upB x.f0, x.f1⟩] n = getB [x] n := by
  rw [getB_cons, getB_cons]
  simp only [same_up]
theorem getB_off (o : S34) (n : ByteArray) (h : sameB o.f0 n = false) : getB [o] n = [] := by rw [getB_cons, h]; rfl
theorem bulkL_rev (l : List S34) : bulkL l.reverse = bulkL l := by unfold bulkL; rw [List.map_reverse, List.sum_reverse]

/-- The lists that were made are asked as the first one. -/
theorem others_l1 (status : Int) (method : ByteArray) (minor : Int) (l more back : List S34) (hl : bulkL more ≤ 1073741824) (hb : bulkL back ≤ 1073741824) (h1 : LikeF more l) (h2 : LikeF back l) (q p : Int × Int × Int) (hq : q = reqR minor l) (hp : p = respR status method minor l) :
    Ev (fun k => tollhouselaw07_FrameOthers.l1 k q.1 q.2.1 q.2.2 p.1 p.2.1 p.2.2 [more, back] (([more, back] : List (List S34)).length : Int) 0 status method minor l) true := by
  have step : ∀ (x : List S34) (i : Nat), i < 2 → rd_L7 [more, back] (i : Int) = x → bulkL x ≤ 1073741824 → LikeF x l → Ev (fun k => tollhouselaw07_FrameOthers.l1 k q.1 q.2.1 q.2.2 p.1 p.2.1 p.2.2 [more, back] 2 ((i + 1 : Nat) : Int) status method minor l) true → Ev (fun k => tollhouselaw07_FrameOthers.l1 k q.1 q.2.1 q.2.2 p.1 p.2.1 p.2.2 [more, back] 2 (i : Int) status method minor l) true := by
    intro x i hi hx hbx hlx nxt
    refine Ev.step (f := fun k => (frame_Request.f k minor x).bind fun bt312 => ((frame_Response.f k status method minor x).bind fun bt315 => (if bt312.1 = q.1 then (if bt312.2.1 = q.2.1 then (if bt312.2.2 = q.2.2 then (if bt315.1 = p.1 then (if bt315.2.1 = p.2.1 then (if bt315.2.2 = p.2.2 then (tollhouselaw07_FrameOthers.l1 k q.1 q.2.1 q.2.2 p.1 p.2.1 p.2.2 [more, back] 2 ((i + 1 : Nat) : Int) status method minor l) else (some false)) else (some false)) else (some false)) else (some false)) else (some false)) else (some false)))) (fun k => by rw [tollhouselaw07_FrameOthers.l1, if_pos (by omega), if_pos (by omega), if_pos (by simp only [List.length_cons, List.length_nil]; omega), hx, w64n i (by omega)]) ?_
    refine Ev.bind (req_ok minor x hbx) (Ev.bind (resp_ok status method minor x hbx) ?_)
    rw [hlx.req minor, hlx.resp status method minor, ← hq, ← hp]
    exact Ev.congr (fun k => by simp only [if_true]) nxt
  refine step more 0 (by omega) rfl hl h1 (step back 1 (by omega) rfl hb h2 ?_)
  exact Ev.step (f := fun _ => some true) (fun k => by rw [tollhouselaw07_FrameOthers.l1, if_neg (by omega)]) (Ev.now _)
theorem others_l0 (status : Int) (method : ByteArray) (minor : Int) (l others : List S34) (hl : bulkL l ≤ 1048576) (ho : bulkL others ≤ 1048576) (q p : Int × Int × Int) (hq : q = reqR minor l) (hp : p = respR status method minor l) :
    ∀ (d i : Nat) (more : List S34), l.length - i = d → i ≤ l.length → getB more clS = getB (l.take i) clS → getB more teS = getB (l.take i) teS → bulkL more ≤ bulkL (l.take i) + bulkL (others.take i) →
      Ev (fun k => tollhouselaw07_FrameOthers.l0 k others q.1 q.2.1 q.2.2 p.1 p.2.1 p.2.2 more (l.take i).reverse l (l.length : Int) (i : Int) status method minor l) true := by
  have hlen := bulkL_len l
  have holen := bulkL_len others
  have bt : ∀ (m : List S34) i, bulkL (m.take i) ≤ bulkL m := fun m i => by
    conv => rhs; rw [← List.take_append_drop i m]
    rw [bulkL_append]; omega
  intro d
  induction d with
  | zero =>
    intro i more hd hi g1 g2 hb
    rw [List.take_of_length_le (by omega)] at g1 g2 hb ⊢
    have hb2 := bt others i
    refine Ev.step (f := fun k => tollhouselaw07_FrameOthers.l1 k q.1 q.2.1 q.2.2 p.1 p.2.1 p.2.2 [more, l.reverse] (([more, l.reverse] : List (List S34)).length : Int) 0 status method minor l) (fun k => by rw [tollhouselaw07_FrameOthers.l0, if_neg (by omega), Option.bind_some]) ?_
    exact others_l1 status method minor l more l.reverse (by omega) (by rw [bulkL_rev]; omega) (likeF_of_get g1 g2) (likeF_reverse l) q p hq hp
  | succ d ih =>
    intro i more hd hi g1 g2 hb
    have hlt : i < l.length := by omega
    have hmem : l[i] ∈ l := List.getElem_mem hlt
    have hsz := bulkL_mem hmem
    have hsn : l.take (i + 1) = l.take i ++ [l[i]] := List.take_succ_eq_append_getElem hlt
    have hrev : (l.take (i + 1)).reverse = [(⟨l[i].f0, l[i].f1⟩ : S34)] ++ (l.take i).reverse := by rw [hsn, List.reverse_append]; rfl
    have hrl : (l.take i).reverse.length = i := by rw [List.length_reverse, List.length_take]; omega
    have hb1 := bt l i
    have hb2 := bt others i
    have hml := bulkL_len more
    have hup : tollhouselaw07_upper.f l[i].f0 = some (upB l[i].f0) := by unfold tollhouselaw07_upper.f; rw [if_pos (by omega)]
    have hbi : bulkL (l.take (i + 1)) = bulkL (l.take i) + (l[i].f0.size + l[i].f1.size + 1) := by rw [hsn, bulkL_append, bulkL_cons]; simp [bulkL]
    have hbu : bulkL [(⟨upB l[i].f0, l[i].f1⟩ : S34)] = l[i].f0.size + l[i].f1.size + 1 := by rw [bulkL_cons]; simp [bulkL, upB_size]
    have hob : bulkL (others.take i) ≤ bulkL (others.take (i + 1)) := by
      have : others.take i = (others.take (i + 1)).take i := by rw [List.take_take]; congr 1; omega
      rw [this]; exact bt _ _
    -- without another one
    have plain : Ev (fun k => tollhouselaw07_FrameOthers.l0 k others q.1 q.2.1 q.2.2 p.1 p.2.1 p.2.2 (more ++ [(⟨upB l[i].f0, l[i].f1⟩ : S34)]) ([(⟨l[i].f0, l[i].f1⟩ : S34)] ++ (l.take i).reverse) l (l.length : Int) (wrap64 ((i : Int) + 1)) status method minor l) true := by
      rw [w64n i (by omega), ← hrev]
      refine ih (i + 1) _ (by omega) (by omega) ?_ ?_ ?_
      · rw [getB_append07, g1, getB_up, hsn, getB_append07]
      · rw [getB_append07, g2, getB_up, hsn, getB_append07]
      · rw [bulkL_append, hbu, hbi]; omega
    have tail : ∀ (m : List S34), m.length ≤ 4194304 → Ev (fun k => tollhouselaw07_FrameOthers.l0 k others q.1 q.2.1 q.2.2 p.1 p.2.1 p.2.2 (m ++ [(⟨upB l[i].f0, l[i].f1⟩ : S34)]) ([(⟨l[i].f0, l[i].f1⟩ : S34)] ++ (l.take i).reverse) l (l.length : Int) (wrap64 ((i : Int) + 1)) status method minor l) true →
        Ev (fun k => (tollhouselaw07_upper.f l[i].f0).bind fun t297 => (if m.length < 4398046511104 then (if (i : Int) < (l.length : Int) then ((some (([(⟨l[i].f0, l[i].f1⟩ : S34)] : List S34) : List S34)).bind fun y302 => (if y302.length + (l.take i).reverse.length < 4398046511104 then (tollhouselaw07_FrameOthers.l0 k others q.1 q.2.1 q.2.2 p.1 p.2.1 p.2.2 (m ++ [(⟨t297, l[i].f1⟩ : S34)]) (y302 ++ (l.take i).reverse) l (l.length : Int) (wrap64 ((i : Int) + 1)) status method minor l) else (none))) else (none)) else (none))) true := by
      intro m hm h
      refine Ev.congr (fun k => ?_) h
      rw [hup, Option.bind_some, if_pos (by omega), if_pos (by omega), Option.bind_some, if_pos (by rw [hrl]; simp only [List.length_cons, List.length_nil]; omega)]
    have e1 : rd_T34 l (i : Int) = l[i] := rd_at l i hlt
    by_cases hoi : i < others.length
    · have e2 : rd_T34 others (i : Int) = others[i] := rd_at others i hoi
      have hom : others[i] ∈ others := List.getElem_mem hoi
      have hosz := bulkL_mem hom
      have hosn : others.take (i + 1) = others.take i ++ [others[i]] := List.take_succ_eq_append_getElem hoi
      have hbo : bulkL (others.take (i + 1)) = bulkL (others.take i) + (others[i].f0.size + others[i].f1.size + 1) := by rw [hosn, bulkL_append, bulkL_cons]; simp [bulkL]
      have s1 : Ev (fun k => tollhouseref02_Same.f k others[i].f0 (⟨#[99, 111, 110, 116, 101, 110, 116, 45, 108, 101, 110, 103, 116, 104]⟩ : ByteArray)) (sameB others[i].f0 clS) := refSame02_ok others[i].f0 clS (by omega) (by decide)
      have s2 : Ev (fun k => tollhouseref02_Same.f k others[i].f0 (⟨#[116, 114, 97, 110, 115, 102, 101, 114, 45, 101, 110, 99, 111, 100, 105, 110, 103]⟩ : ByteArray)) (sameB others[i].f0 teS) := refSame02_ok others[i].f0 teS (by omega) (by decide)
      refine Ev.step (fun k => by rw [tollhouselaw07_FrameOthers.l0, if_pos (by omega), if_pos (by omega), if_pos (by omega), if_pos (by omega), e1, e2]) (Ev.bind s1 ?_)
      cases c1 : sameB others[i].f0 clS with
      | true => exact Ev.congr (fun k => if_pos rfl) (tail more (by omega) plain)
      | false =>
        refine Ev.congr (fun k => if_neg (by decide)) (Ev.bind s2 ?_)
        cases c2 : sameB others[i].f0 teS with
        | true => exact Ev.congr (fun k => if_pos rfl) (tail more (by omega) plain)
        | false =>
          refine Ev.congr (fun k => by rw [if_neg (show ¬ false = true by decide), if_pos (by omega), Option.bind_some]) (tail (more ++ [(⟨others[i].f0, others[i].f1⟩ : S34)]) (by simp only [List.length_append, List.length_cons, List.length_nil]; omega) ?_)
          rw [w64n i (by omega), ← hrev]
          refine ih (i + 1) _ (by omega) (by omega) ?_ ?_ ?_
          · rw [getB_append07, getB_append07, g1, getB_up, getB_off _ _ c1, List.append_nil, hsn, getB_append07]
          · rw [getB_append07, getB_append07, g2, getB_up, getB_off _ _ c2, List.append_nil, hsn, getB_append07]
          · have ho1 : bulkL [(⟨others[i].f0, others[i].f1⟩ : S34)] = others[i].f0.size + others[i].f1.size + 1 := by rw [bulkL_cons]; simp [bulkL]
            rw [bulkL_append, bulkL_append, hbu, hbi, hbo, ho1]; omega
    · exact Ev.step (fun k => by rw [tollhouselaw07_FrameOthers.l0, if_pos (by omega), if_pos (by omega), if_pos (by omega), if_neg (by omega), e1]) (tail more (by omega) plain)
theorem FrameOthers_true (status : Int) (method : ByteArray) (minor : Int) (l others : List S34) (hl1 : others.length * 32 ≤ 140737488351232) (hy1 : ∀ x ∈ others, x.f0.size ≤ 140737488351232 ∧ x.f1.size ≤ 140737488351232) (hB : method.size + bulkFs l + bulkFs others ≤ 1048576) : ∃ k, tollhouselaw07_FrameOthers.f k status method minor l others = some true := by
  have hb := bulkFs_L' l
  have hb2 := bulkFs_L' others
  refine Ev.rounds (g := fun k => tollhouselaw07_FrameOthers.f k status method minor l others) ?_
  unfold tollhouselaw07_FrameOthers.f
  refine Ev.bind awake07_ev ?_
  have hm : 0 ≤ mn (l.length : Int) 300 ∧ mn (l.length : Int) 300 ≤ (l.length : Int) := by unfold mn; split <;> omega
  refine Ev.congr (fun k => by rw [if_pos rfl, if_pos hm.1, if_pos hm.2, Option.bind_some]) ?_
  generalize (mn (l.length : Int) 300).toNat = m
  have hbt : bulkL (l.take m) ≤ bulkL l := by
    conv => rhs; rw [← List.take_append_drop m l]
    rw [bulkL_append]; omega
  refine Ev.bind (req_ok minor (l.take m) (by omega)) (Ev.bind (resp_ok status method minor (l.take m) (by omega)) ?_)
  exact others_l0 status method minor (l.take m) others (by omega) (by omega) _ _ rfl rfl (l.take m).length 0 [] (by omega) (Nat.zero_le _) rfl rfl (by simp [bulkL])
end Go.Proofs.YtcamdfjjdigaeaaDoor.P
