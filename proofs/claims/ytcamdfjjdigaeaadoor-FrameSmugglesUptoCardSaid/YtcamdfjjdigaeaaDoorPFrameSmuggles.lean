/- FrameSmuggles: the plain law. -/
import Derived.Test.YtcamdfjjdigaeaaDoorPawake07
import Derived.Test.YtcamdfjjdigaeaaDoorPSmug
import Derived.Test.YtcamdfjjdigaeaaDoorQtollhouselaw07FrameSmuggles
set_option linter.unusedVariables false
set_option linter.unusedSimpArgs false
namespace Go.Proofs.YtcamdfjjdigaeaaDoor.P
open Go.RowKit Go.Proofs.YtcamdfjjdigaeaaDoorW.PrintWords Go.Proofs.YtcamdfjjdigaeaaDoorW.PrintLast Go.Proofs.YtcamdfjjdigaeaaDoorW.PrintMore

/-! ### the values of a name -/
theorem vals_from (l : List S34) (n : ByteArray) (hl : bulkL l ≤ 1073741824) (hn : n.size ≤ 1073741824) : ∀ (d i : Nat), l.length - i = d → i ≤ l.length → Ev (fun k => tollhouselaw07_values.l0 k n (getB (l.take i) n) l (l.length : Int) (i : Int)) (getB l n) := by
  have hlen := bulkL_len l
  intro d
  induction d with
  | zero =>
    intro i hd hi
    rw [List.take_of_length_le (by omega)]
    exact Ev.step (f := fun _ => some (getB l n)) (fun k => by rw [tollhouselaw07_values.l0, if_neg (by omega)]) (Ev.now _)
  | succ d ih =>
    intro i hd hi
    have hlt : i < l.length := by omega
    have hmem : l[i] ∈ l := List.getElem_mem hlt
    have hsz := bulkL_mem hmem
    have hsn : l.take (i + 1) = l.take i ++ [l[i]] := List.take_succ_eq_append_getElem hlt
    have hgn : getB (l.take (i + 1)) n = getB (l.take i) n ++ getB [l[i]] n := by rw [hsn]; unfold getB; rw [List.filter_append, List.map_append]
    have hgl := getB_length (l.take i) n
    rw [List.length_take] at hgl
    have := ih (i + 1) (by omega) (by omega)
    refine Ev.step (f := fun k => (tollhouseref02_Same.f k l[i].f0 n).bind fun t => (if t = true then (if (getB (l.take i) n).length < 8796093022208 then (tollhouselaw07_values.l0 k n (getB (l.take i) n ++ [l[i].f1]) l (l.length : Int) (wrap64 ((i : Int) + 1))) else (none)) else (tollhouselaw07_values.l0 k n (getB (l.take i) n) l (l.length : Int) (wrap64 ((i : Int) + 1))))) (fun k => by rw [tollhouselaw07_values.l0, if_pos (by omega), if_pos (by omega), if_pos (by omega), rd_at l i hlt]) ?_
    refine Ev.bind (refSame02_ok _ _ (by omega) (by omega)) ?_
    rw [w64n i (by omega)]
    by_cases hs : sameB l[i].f0 n = true
    · have hg1 : getB [l[i]] n = [l[i].f1] := by rw [getB_cons, if_pos hs]; rfl
      rw [hgn, hg1] at this
      exact Ev.congr (fun k => by rw [if_pos hs, if_pos (by omega)]) this
    · have hg1 : getB [l[i]] n = [] := by rw [getB_cons, if_neg hs]; rfl
      rw [hgn, hg1, List.append_nil] at this
      exact Ev.congr (fun k => by rw [if_neg hs]) this
theorem vals_ok (l : List S34) (n : ByteArray) (hl : bulkL l ≤ 1073741824) (hn : n.size ≤ 1073741824) : Ev (fun k => tollhouselaw07_values.f k l n) (getB l n) := by
  have := vals_from l n hl hn l.length 0 (by omega) (Nat.zero_le _)
  simpa [tollhouselaw07_values.f, getB] using this

/-! ### the digits -/
theorem decW_ge {c : Int} (h : 0 ≤ decW c) : 48 ≤ c ∧ c ≤ 57 ∧ decW c = c - 48 := by
  unfold decW at *
  split at h
  · rename_i hc
    exact ⟨hc.1, hc.2, by rw [if_pos hc]⟩
  · omega
theorem wrap_dig {a c n : Int} (ha : 0 ≤ a) (han : a ≤ 4096) (h0 : 48 ≤ c) (h1 : c ≤ 57) : IntKind.u64.wrap ((IntKind.u64.wrap (a * 10)) + ((c - 48) % 256)) = a * 10 + (c - 48) := by
  rw [IntKind.wrap_u64, IntKind.wrap_u64]; omega
theorem digs_ev (n : Int) (hn : n ≤ 4096) (s : ByteArray) (hs : s.size ≤ 1073741824) (hall : ∀ c ∈ bytesOf s, 0 ≤ decW c) (x104 : List ByteArray) (x105 x106 : Int) (x111 : List ByteArray) (x112 x113 : Int) (next : Ev (fun k => tollhouselaw07_FrameSmuggles.l1 k n x104 x105 x106 x111 x112 (wrap64 (x113 + 1))) true) :
    ∀ (d p : Nat) (a : Int), s.size - p = d → p ≤ s.size → 0 ≤ a → valI 10 decW ((bytesOf s).drop p) a = n → Ev (fun k => tollhouselaw07_FrameSmuggles.l2 k n s a x104 x105 x106 x111 x112 x113 (s.size : Int) (p : Int)) true := by
  have hbl := bytes_len s
  intro d
  induction d with
  | zero =>
    intro p a hd hp ha hv
    rw [List.drop_of_length_le (by omega), valI] at hv
    exact Ev.step (f := fun k => tollhouselaw07_FrameSmuggles.l1 k n x104 x105 x106 x111 x112 (wrap64 (x113 + 1))) (fun k => by rw [tollhouselaw07_FrameSmuggles.l2, if_neg (by omega), if_pos hv]) next
  | succ d ih =>
    intro p a hd hp ha hv
    have hlt : p < (bytesOf s).length := by omega
    have hmem : (bytesOf s)[p] ∈ bytesOf s := List.getElem_mem hlt
    have hb := bt_bytes s p hlt
    rw [List.drop_eq_getElem_cons hlt, valI] at hv
    obtain ⟨h0, h1, h2⟩ := decW_ge (hall _ hmem)
    have hrest : ∀ c ∈ (bytesOf s).drop (p + 1), 0 ≤ decW c := fun c hc => hall c (List.mem_of_mem_drop hc)
    generalize hc : (bytesOf s)[p] = c at *
    rw [h2] at hv
    have hle := valI_ge 10 (.inl rfl) decW ((bytesOf s).drop (p + 1)) (a * 10 + (c - 48)) (by omega) hrest
    rw [hv] at hle
    have hw := wrap_dig (n := n) (c := c) ha (by omega) h0 h1
    have nx := ih (p + 1) (a * 10 + (c - 48)) (by omega) (by omega) (by omega) hv
    refine Ev.step (f := fun k => tollhouselaw07_FrameSmuggles.j6 k n s a (p : Int) x104 x105 x106 x111 x112 x113 (s.size : Int) (p : Int) false) (fun k => by
      rw [tollhouselaw07_FrameSmuggles.l2, if_pos (by omega), if_pos (by omega), if_pos (by omega), hb, if_neg (by omega), decide_eq_false (by omega)]) ?_
    refine Ev.step (f := fun k => tollhouselaw07_FrameSmuggles.l2 k n s (a * 10 + (c - 48)) x104 x105 x106 x111 x112 x113 (s.size : Int) ((p + 1 : Nat) : Int)) (fun k => by
      rw [tollhouselaw07_FrameSmuggles.j6, if_neg (by decide), if_pos (by omega), if_pos (by omega), hb, hw, if_neg (by omega), w64n p (by omega)]) nx
/-- All elements say n. -/
def SaysAll (n : Int) (l : List ByteArray) : Prop := ∀ y ∈ l, nB y = (n, 0)
theorem says_val {n : Int} {y : ByteArray} (h : nB y = (n, 0)) : (∀ c ∈ bytesOf y, 0 ≤ decW c) ∧ valI 10 decW (bytesOf y) 0 = n := by
  unfold nB at h
  rw [numB_tells 10 (.inl rfl)] at h
  split at h
  · exact absurd (show (5 : Int) = 0 from congrArg Prod.snd h) (by decide)
  split at h
  · exact absurd (show (5 : Int) = 0 from congrArg Prod.snd h) (by decide)
  split at h
  · exact absurd (show (3 : Int) = 0 from congrArg Prod.snd h) (by decide)
  rename_i hb _
  refine ⟨fun c hc => ?_, congrArg Prod.fst h⟩
  by_cases hn : decW c < 0
  · exact absurd ⟨c, hc, hn⟩ hb
  · omega
theorem elems_ev (n : Int) (hn : n ≤ 4096) (x104 : List ByteArray) (x105 x106 : Int) (els : List ByteArray) (hlen : els.length ≤ 1073741824) (hsz : ∀ y ∈ els, y.size ≤ 1073741824) (hsay : SaysAll n els) (next : Ev (fun k => tollhouselaw07_FrameSmuggles.l0 k n x104 x105 (wrap64 (x106 + 1))) true) :
    ∀ (d i : Nat), els.length - i = d → i ≤ els.length → Ev (fun k => tollhouselaw07_FrameSmuggles.l1 k n x104 x105 x106 els (els.length : Int) (i : Int)) true := by
  intro d
  induction d with
  | zero =>
    intro i hd hi
    exact Ev.step (f := fun k => tollhouselaw07_FrameSmuggles.l0 k n x104 x105 (wrap64 (x106 + 1))) (fun k => by rw [tollhouselaw07_FrameSmuggles.l1, if_neg (by omega)]) next
  | succ d ih =>
    intro i hd hi
    have hlt : i < els.length := by omega
    have hmem : els[i] ∈ els := List.getElem_mem hlt
    have nx := ih (i + 1) (by omega) (by omega)
    obtain ⟨ha, hv⟩ := says_val (hsay _ hmem)
    refine Ev.step (f := fun k => tollhouselaw07_FrameSmuggles.l2 k n els[i] 0 x104 x105 x106 els (els.length : Int) (i : Int) (els[i].size : Int) ((0 : Nat) : Int)) (fun k => by
      rw [tollhouselaw07_FrameSmuggles.l1, if_pos (by omega), if_pos (by omega), if_pos (by omega), rdOf_at _ i hlt]; rfl) ?_
    exact digs_ev n hn els[i] (hsz _ hmem) ha x104 x105 x106 els (els.length : Int) (i : Int) (by rw [w64n i (by omega)]; exact nx) _ 0 0 rfl (Nat.zero_le _) (Int.le_refl _) hv
theorem values_ev (n : Int) (hn : n ≤ 4096) (vs : List ByteArray) (hlen : sumS vs ≤ 1073741824) (hsay : SaysAll n (elsB vs)) :
    ∀ (d i : Nat), vs.length - i = d → i ≤ vs.length → Ev (fun k => tollhouselaw07_FrameSmuggles.l0 k n vs (vs.length : Int) (i : Int)) true := by
  have hmemS : ∀ (l : List ByteArray) (y : ByteArray), y ∈ l → y.size + 1 ≤ sumS l := by
    intro l
    induction l with
    | nil => intro y h; cases h
    | cons a r ih =>
      intro y h
      rw [sumS_cons]
      rcases List.mem_cons.1 h with rfl | h
      · omega
      · have := ih y h; omega
  have hvl : ∀ l : List ByteArray, l.length ≤ sumS l := by
    intro l
    induction l with
    | nil => exact Nat.zero_le _
    | cons a r ih => rw [sumS_cons, List.length_cons]; omega
  have hl := hvl vs
  intro d
  induction d with
  | zero =>
    intro i hd hi
    exact Ev.step (f := fun _ => some true) (fun k => by rw [tollhouselaw07_FrameSmuggles.l0, if_neg (by omega)]) (Ev.now _)
  | succ d ih =>
    intro i hd hi
    have hlt : i < vs.length := by omega
    have hmem : vs[i] ∈ vs := List.getElem_mem hlt
    have hsz := hmemS vs _ hmem
    have nx := ih (i + 1) (by omega) (by omega)
    have hll := listB_length vs[i]
    refine Ev.step (f := fun k => (tollhouseref02_List.f k vs[i]).bind fun t => (tollhouselaw07_FrameSmuggles.l1 k n vs (vs.length : Int) (i : Int) t (t.length : Int) ((0 : Nat) : Int))) (fun k => by
      rw [tollhouselaw07_FrameSmuggles.l0, if_pos (by omega), if_pos (by omega), if_pos (by omega), rdOf_at _ i hlt]; rfl) ?_
    refine Ev.bind (refList_ok _ (by omega)) ?_
    refine elems_ev n hn vs (vs.length : Int) (i : Int) (listB vs[i]) (by omega) (fun y hy => by have := (listB_mem hy).1; omega) (fun y hy => hsay y (List.mem_flatMap.2 ⟨_, hmem, hy⟩)) (by rw [w64n i (by omega)]; exact nx) _ 0 rfl (Nat.zero_le _)

/-! ### 'chunked' -/
theorem flt_join : ∀ vs : List (List UInt8), flt (Lib.join vs [44]) = vs.flatMap flt
  | [] => rfl
  | [x] => by rw [Lib.join_one]; simp
  | x :: y :: r => by
    have e : Lib.join (x :: y :: r) [44] = x ++ ([44] ++ Lib.join (y :: r) [44]) := by
      simp [Lib.join, List.intercalate]
    rw [e, flt_app, flt_app, flt_join (y :: r), List.flatMap_cons]
    rfl
theorem join_part : ∀ (vs : List (List UInt8)) (v : List UInt8), v ∈ vs → ∃ a c, Lib.join vs [44] = a ++ (v ++ c)
  | [], v, h => by cases h
  | [x], v, h => by
    rw [List.mem_singleton.1 h, Lib.join_one]
    exact ⟨[], [], by simp⟩
  | x :: y :: r, v, h => by
    have e : Lib.join (x :: y :: r) [44] = x ++ ([44] ++ Lib.join (y :: r) [44]) := by
      simp [Lib.join, List.intercalate]
    rcases List.mem_cons.1 h with rfl | h
    · exact ⟨[], [44] ++ Lib.join (y :: r) [44], by rw [e]; rfl⟩
    · obtain ⟨a, c, e2⟩ := join_part (y :: r) v h
      exact ⟨x ++ ([44] ++ a), c, by rw [e, e2]; simp only [List.append_assoc]⟩
theorem lower_same_fin : ∀ n : Fin 256, Lib.lowerB (UInt8.ofNat n.val) = lowU (UInt8.ofNat n.val) := by decide +kernel
theorem lower_same (c : UInt8) : Lib.lowerB c = lowU c := by
  have := lower_same_fin ⟨c.toNat, c.toNat_lt⟩
  simpa using this
theorem lower_wc {l : List UInt8} (h : l.all wc = true) : Lib.toLowerA l = l := by
  unfold Lib.toLowerA
  conv => rhs; rw [← List.map_id l]
  refine List.map_congr_left fun c hc => ?_
  have := List.all_eq_true.1 h c hc
  unfold wc at this
  simp only [Bool.or_eq_true, beq_iff_eq] at this
  rcases this with rfl | rfl | rfl <;> rfl
theorem flt_nil {l : List UInt8} (h : (flt l).length = 0) : l.all wc = true := by
  rw [List.all_eq_true]
  intro c hc
  cases hw : wc c with
  | true => rfl
  | false =>
    have : c ∈ flt l := List.mem_filter.2 ⟨hc, by rw [hw]; rfl⟩
    rw [List.length_eq_zero_iff.1 h] at this
    cases this
theorem small_lowU_fin : ∀ n : Fin 256, (lowU (UInt8.ofNat n.val)).toNat < 128 → n.val < 128 := by decide +kernel
theorem small_lowU {c : UInt8} (h : (lowU c).toNat < 128) : c.toNat < 128 := small_lowU_fin ⟨c.toNat, c.toNat_lt⟩ (by simpa using h)
theorem fltAll_els (vs : List ByteArray) (h : ∀ v ∈ vs, (34 : UInt8) ∉ v.data.toList) : fltAll (elsB vs) = (vs.map (·.data.toList)).flatMap flt := by
  induction vs with
  | nil => rfl
  | cons v r ih =>
    have e : elsB (v :: r) = listB v ++ elsB r := List.flatMap_cons ..
    have e2 : fltAll (listB v ++ elsB r) = fltAll (listB v) ++ fltAll (elsB r) := by unfold fltAll; rw [List.flatMap_append]
    rw [e, e2, flt_list v (h v (by simp)), ih (fun x hx => h x (by simp [hx])), List.map_cons, List.flatMap_cons]
/-- What the values hold, put together: 'chunked' once, in any case, among blanks and commas. -/
theorem chunk_text (vs : List ByteArray) (x : ByteArray) (hx : elsB vs = [x]) (hs : sameB x chunkedS = true) : ∃ a b, Lib.join (vs.map (·.data.toList)) [44] = a ++ (x.data.toList ++ b) ∧ a.all wc = true ∧ b.all wc = true ∧ x.data.toList.map lowU = chL := by
  have hlow : x.data.toList.map lowU = chL := by
    have := congrArg (fun t : ByteArray => t.data.toList) (sameB_iff.1 hs)
    exact this
  have hq : ∀ v ∈ vs, (34 : UInt8) ∉ v.data.toList := by
    intro v hv h
    obtain ⟨y, hy, hy2⟩ := quote_list v h
    have : y ∈ elsB vs := List.mem_flatMap.2 ⟨v, hv, hy⟩
    rw [hx] at this
    rw [List.mem_singleton.1 this] at hy2
    have : lowU 34 ∈ chL := by rw [← hlow]; exact List.mem_map_of_mem hy2
    exact absurd this (by decide)
  have hf := fltAll_els vs hq
  rw [hx, ← flt_join] at hf
  have hxm : x ∈ elsB vs := by rw [hx]; simp
  obtain ⟨v, hv, hxv⟩ := List.mem_flatMap.1 hxm
  obtain ⟨a1, c1, e1⟩ := part_list hxv
  obtain ⟨a2, c2, e2⟩ := join_part (vs.map (·.data.toList)) v.data.toList (List.mem_map_of_mem hv)
  have e : Lib.join (vs.map (·.data.toList)) [44] = (a2 ++ a1) ++ (x.data.toList ++ (c1 ++ c2)) := by
    rw [e2, e1]; simp only [List.append_assoc]
  have hfx : fltAll [x] = flt x.data.toList := by unfold fltAll; simp
  rw [hfx, e, flt_app (a2 ++ a1), flt_app x.data.toList] at hf
  have hlen := congrArg List.length hf
  rw [List.length_append, List.length_append] at hlen
  exact ⟨_, _, e, flt_nil (by omega), flt_nil (by omega), hlow⟩
theorem count_text (vs : List ByteArray) (x : ByteArray) (hx : elsB vs = [x]) (hs : sameB x chunkedS = true) (hlen : joinLen vs (⟨#[44]⟩ : ByteArray) ≤ 1073741824) (hvl : vs.length ≤ 1073741824) :
    ((strings_Join.f vs (⟨#[44]⟩ : ByteArray)).bind fun t225 => ((strings_ToLower.f t225).bind fun t226 => ((strings_Count.f t226 (⟨#[99, 104, 117, 110, 107, 101, 100]⟩ : ByteArray)).bind fun t227 => (some (t227 == 1))))) = some true := by
  obtain ⟨a, b, e, ha, hb, hl⟩ := chunk_text vs x hx hs
  have hj : (joinOf vs (⟨#[44]⟩ : ByteArray)).data.toList = a ++ (x.data.toList ++ b) := e
  have hjs : (joinOf vs (⟨#[44]⟩ : ByteArray)).size = joinLen vs (⟨#[44]⟩ : ByteArray) := rfl
  have hwc : ∀ c : UInt8, wc c = true → c.toNat < 128 := by
    intro c hc
    unfold wc at hc
    simp only [Bool.or_eq_true, beq_iff_eq] at hc
    rcases hc with rfl | rfl | rfl <;> decide
  have hsm : ∀ c ∈ (joinOf vs (⟨#[44]⟩ : ByteArray)).data.toList, c.toNat < 128 := by
    intro c hc
    rw [hj] at hc
    rcases List.mem_append.1 hc with h | h
    · exact hwc c (List.all_eq_true.1 ha c h)
    rcases List.mem_append.1 h with h | h
    · refine small_lowU ?_
      have : lowU c ∈ chL := by rw [← hl]; exact List.mem_map_of_mem h
      revert this
      generalize lowU c = z
      intro hz
      exact (show ∀ z ∈ chL, z.toNat < 128 by decide) z hz
    · exact hwc c (List.all_eq_true.1 hb c h)
  have e1 : strings_Join.f vs (⟨#[44]⟩ : ByteArray) = some (joinOf vs (⟨#[44]⟩ : ByteArray)) := by unfold strings_Join.f; rw [if_pos ⟨hvl, hlen⟩]
  have e2 : strings_ToLower.f (joinOf vs (⟨#[44]⟩ : ByteArray)) = some ⟨(a ++ (chL ++ b)).toArray⟩ := by
    unfold strings_ToLower.f
    rw [if_pos ⟨by rw [hjs]; omega, hsm⟩, hj]
    have : Lib.toLowerA (a ++ (x.data.toList ++ b)) = a ++ (chL ++ b) := by
      have h1 := lower_wc ha
      have h2 := lower_wc hb
      have h3 : Lib.toLowerA x.data.toList = chL := by
        rw [← hl]
        unfold Lib.toLowerA
        exact List.map_congr_left fun c _ => lower_same c
      unfold Lib.toLowerA at *
      rw [List.map_append, List.map_append, h1, h2, h3]
    rw [this]
  have hsz : (⟨(a ++ (chL ++ b)).toArray⟩ : ByteArray).size = joinLen vs (⟨#[44]⟩ : ByteArray) := by
    rw [← hjs]
    show (a ++ (chL ++ b)).length = (joinOf vs (⟨#[44]⟩ : ByteArray)).data.toList.length
    rw [hj, ← hl]
    simp
  have e3 : strings_Count.f (⟨(a ++ (chL ++ b)).toArray⟩ : ByteArray) (⟨#[99, 104, 117, 110, 107, 101, 100]⟩ : ByteArray) = some 1 := by
    unfold strings_Count.f
    rw [if_pos ⟨by rw [hsz]; exact hlen, by decide⟩]
    congr 1
    exact congrArg Int.ofNat (count_one a b ha hb)
  rw [e1, Option.bind_some, e2, Option.bind_some, e3]
  rfl
theorem joinLen_le : ∀ vs : List ByteArray, joinLen vs (⟨#[44]⟩ : ByteArray) ≤ sumS vs
  | [] => Nat.zero_le _
  | [x] => by
    have e : joinLen [x] (⟨#[44]⟩ : ByteArray) = x.size := by
      unfold joinLen
      rw [List.map_cons, List.map_nil, Lib.join_one]
      exact Array.length_toList
    rw [e, sumS_cons]
    omega
  | x :: y :: r => by
    have h := joinLen_le (y :: r)
    have e : joinLen (x :: y :: r) (⟨#[44]⟩ : ByteArray) = x.size + (1 + joinLen (y :: r) (⟨#[44]⟩ : ByteArray)) := by
      have hx : x.data.toList.length = x.size := Array.length_toList
      unfold joinLen
      have e : Lib.join (x.data.toList :: y.data.toList :: r.map (·.data.toList)) [44] = x.data.toList ++ ([44] ++ Lib.join (y.data.toList :: r.map (·.data.toList)) [44]) := by
        simp [Lib.join, List.intercalate]
      rw [List.map_cons, List.map_cons]
      have e' := congrArg List.length e
      rw [List.length_append, List.length_append, hx] at e'
      exact e'
    rw [e, sumS_cons]
    omega

/-! ### the law -/
theorem j1_ev (minor : Int) (l : List S34) (hl : bulkL l ≤ 1073741824) (s : Int) (m : ByteArray) : Ev (fun k => tollhouselaw07_FrameSmuggles.j1 k (getB l clS) (getB l teS) (reqR minor l).1 (reqR minor l).2.1 (reqR minor l).2.2 false s m minor l) true := by
  have done : ∀ (c n e : Int), e ≠ 0 → Ev (fun k => tollhouselaw07_FrameSmuggles.j1 k (getB l clS) (getB l teS) c n e false s m minor l) true := fun c n e he =>
    Ev.step (f := fun _ => some true) (fun k => by rw [tollhouselaw07_FrameSmuggles.j1, if_neg (by decide), if_neg he]) (Ev.now _)
  have hs1 := getB_sum l clS
  have hs2 := getB_sum l teS
  unfold reqR
  by_cases hm : badMinor minor
  · rw [if_pos hm]; exact done _ _ _ (by decide)
  rw [if_neg hm]
  cases hs : sureR minor l with
  | false => rw [if_pos rfl]; exact done _ _ _ (by decide)
  | true =>
    rw [if_neg (by decide)]
    unfold sureR at hs
    unfold bodyR
    by_cases h2 : getB l teS = []
    · rw [if_neg (by simp [h2])]
      rw [if_neg (by simp [h2]), if_neg (by simp [h2])] at hs
      by_cases h1 : getB l clS = []
      · have he : elemsB l clS = [] := by unfold elemsB; rw [h1]; rfl
        rw [he]
        refine Ev.step (f := fun _ => some true) (fun k => ?_) (Ev.now _)
        rw [tollhouselaw07_FrameSmuggles.j1, if_neg (by decide), if_pos rfl, if_pos rfl, if_pos (by rw [h1]; rfl), if_pos (by rw [h2]; rfl)]
        rfl
      · rw [if_neg h1] at hs
        cases hx : elemsB l clS with
        | nil => rw [hx] at hs; exact absurd hs (by decide)
        | cons x r =>
          rw [hx] at hs
          dsimp only at hs ⊢
          by_cases h0 : (nB x).2 = 0
          · rw [if_pos h0]
            by_cases h4 : (nB x).1 > 4096
            · rw [if_pos h4]; exact done _ _ _ (by decide)
            · rw [if_neg h4]
              rw [Bool.and_eq_true] at hs
              have hx0 : nB x = ((nB x).1, 0) := Prod.ext rfl h0
              have hsay : SaysAll (nB x).1 (elsB (getB l clS)) := by
                intro y hy
                have hy' : y ∈ x :: r := by rw [← hx]; exact hy
                rcases List.mem_cons.1 hy' with rfl | hy'
                · exact hx0
                · have := List.all_eq_true.1 hs.2 y hy'
                  rw [Bool.and_eq_true, decide_eq_true_eq] at this
                  rw [this.1]; exact hx0
              have loop := values_ev (nB x).1 (by omega) (getB l clS) (by omega) hsay _ 0 rfl (Nat.zero_le _)
              refine Ev.step (f := fun k => tollhouselaw07_FrameSmuggles.j2 k (getB l clS) (nB x).1 false) (fun k => ?_) (Ev.step (f := fun k => tollhouselaw07_FrameSmuggles.l0 k (nB x).1 (getB l clS) ((getB l clS).length : Int) ((0 : Nat) : Int)) (fun k => ?_) loop)
              · rw [tollhouselaw07_FrameSmuggles.j1, if_neg (by decide), if_pos rfl, if_neg (show ¬ (1 : Int) = 0 by decide), if_neg (show ¬ (1 : Int) = 2 by decide), if_pos rfl, if_neg (by rw [h2]; decide), decide_eq_false (by omega)]
              · rw [tollhouselaw07_FrameSmuggles.j2, if_neg (by decide)]; rfl
          · rw [if_neg h0]; exact done _ _ _ (by decide)
    · rw [if_pos h2]
      by_cases h1 : getB l clS = []
      · rw [if_neg (by simp [h1]), if_pos h2, Bool.and_eq_true, decide_eq_true_eq] at hs
        obtain ⟨hm1, hs⟩ := hs
        cases hx : elemsB l teS with
        | nil => rw [hx] at hs; exact absurd hs (by decide)
        | cons x r =>
          cases r with
          | cons y r => rw [hx] at hs; cases hs
          | nil =>
            rw [hx] at hs
            have hjl := joinLen_le (getB l teS)
            have hgl := getB_length l teS
            have hbl := bulkL_len l
            have key := count_text (getB l teS) x hx hs (by omega) (by omega)
            refine Ev.step (f := fun _ => some true) (fun k => ?_) (Ev.now _)
            rw [tollhouselaw07_FrameSmuggles.j1, if_neg (by decide), if_pos rfl, if_neg (by decide), if_pos rfl, if_pos (by rw [h1]; rfl), if_pos hm1, if_pos rfl]
            exact key
      · rw [if_pos ⟨h1, h2⟩] at hs
        exact absurd hs (by decide)
theorem j0_ev (minor : Int) (l : List S34) (hl : bulkL l ≤ 1073741824) (s : Int) (m : ByteArray) : Ev (fun k => tollhouselaw07_FrameSmuggles.j0 k (getB l clS) (getB l teS) (reqR minor l).1 (reqR minor l).2.1 (reqR minor l).2.2 false s m minor l) true := by
  have h := j1_ev minor l hl s m
  have p1 := len_pos_iff (getB l clS)
  have p2 := len_pos_iff (getB l teS)
  refine Ev.step (f := fun k => tollhouselaw07_FrameSmuggles.j1 k (getB l clS) (getB l teS) (reqR minor l).1 (reqR minor l).2.1 (reqR minor l).2.2 false s m minor l) (fun k => ?_) h
  rw [tollhouselaw07_FrameSmuggles.j0, if_neg (by decide)]
  by_cases h1 : getB l clS = []
  · rw [if_neg (by rw [p1]; simp [h1])]
  rw [if_pos (p1.2 h1)]
  by_cases h2 : getB l teS = []
  · rw [if_neg (by rw [p2]; simp [h2])]
  rw [if_pos (p2.2 h2)]
  by_cases hm : badMinor minor
  · have e : (reqR minor l).2.2 = 1 := by unfold reqR; rw [if_pos hm]
    rw [if_neg (by rw [e]; decide), e]
    rfl
  · have hs : sureR minor l = false := by unfold sureR; rw [if_pos ⟨h1, h2⟩]
    have e : (reqR minor l).2.2 = 22 := by unfold reqR; rw [if_neg hm, if_pos hs]
    rw [if_pos e]
theorem req_zero (minor : Int) (l : List S34) (h : (reqR minor l).2.2 ≠ 0) : (reqR minor l).1 = 0 ∧ (reqR minor l).2.1 = 0 := by
  revert h
  unfold reqR bodyR
  repeat' split
  all_goals simp
theorem FrameSmuggles_true (status : Int) (method : ByteArray) (minor : Int) (l : List S34) (hB : method.size + bulkFs l ≤ 1048576) : ∃ k, tollhouselaw07_FrameSmuggles.f k status method minor l = some true := by
  have hb := bulkFs_L' l
  have hl : bulkL l ≤ 1073741824 := by omega
  refine Ev.rounds (g := fun k => tollhouselaw07_FrameSmuggles.f k status method minor l) ?_
  have h := j0_ev minor l hl status method
  unfold tollhouselaw07_FrameSmuggles.f
  refine Ev.bind awake07_ev (Ev.congr (fun k => if_pos rfl) (Ev.bind (vals_ok l clS hl (by decide)) (Ev.bind (vals_ok l teS hl (by decide)) (Ev.bind (req_ok minor l hl) ?_))))
  by_cases h0 : (reqR minor l).2.2 = 0
  · exact Ev.congr (fun k => if_pos h0) h
  · obtain ⟨a, b⟩ := req_zero minor l h0
    refine Ev.congr (fun k => by rw [if_neg h0, if_pos a, show ((reqR minor l).2.1 != 0) = false by rw [b]; rfl]) h
end Go.Proofs.YtcamdfjjdigaeaaDoor.P
