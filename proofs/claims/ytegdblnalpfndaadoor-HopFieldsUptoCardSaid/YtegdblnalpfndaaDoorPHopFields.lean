/- HopFields: the plain laws. -/
import Derived.Test.YtegdblnalpfndaaDoorPRef02
import Derived.Test.YtegdblnalpfndaaDoorFheadDrop
import Derived.Test.YtegdblnalpfndaaDoorPGet
import Derived.Test.YtegdblnalpfndaaDoorQRef05
import Derived.Test.YtegdblnalpfndaaDoorQRef02
import Derived.Test.YtegdblnalpfndaaDoorFhopForAll
import Derived.Test.YtegdblnalpfndaaDoorFtollhouseref11ForAll
import Derived.Test.YtegdblnalpfndaaDoorFhopLoops
import Derived.Test.YtegdblnalpfndaaDoorQRef11
import Derived.Test.YtegdblnalpfndaaDoorPRefList
import Derived.Test.YtegdblnalpfndaaDoorPwakes11
import Derived.Test.YtegdblnalpfndaaDoorFhopStrip
import Derived.Test.YtegdblnalpfndaaDoorFhopCloses
import Derived.Test.YtegdblnalpfndaaDoorQtollhouselaw11HopFields
set_option linter.unusedVariables false
set_option linter.unusedSimpArgs false
namespace Go.Proofs.YtegdblnalpfndaaDoor.P
open Go.RowKit Go.Proofs.YtegdblnalpfndaaDoorW.PrintWords Go.Proofs.YtegdblnalpfndaaDoorW.PrintLast Go.Proofs.YtegdblnalpfndaaDoorW.PrintMore

theorem ev_if {α : Type} {c : Prop} [Decidable c] {g f : Nat → Option α} {r : α} (h : c → Ev g r) (h' : ¬ c → Ev f r) : Ev (fun k => if c then g k else f k) r := by
  by_cases hc : c
  · exact Ev.congr (fun k => if_pos hc) (h hc)
  · exact Ev.congr (fun k => if_neg hc) (h' hc)

/-! ### Token, Visible -/
def ldI (c : Int) : Bool := (decide (97 ≤ c) && decide (c ≤ 122)) || (decide (65 ≤ c) && decide (c ≤ 90)) || (decide (48 ≤ c) && decide (c ≤ 57))
def signB : ByteArray := ⟨#[33, 35, 36, 37, 38, 39, 42, 43, 45, 46, 94, 95, 96, 124, 126]⟩
theorem refDrop_l1 (l : List S32) (ns : List ByteArray) (acc : List S32) (i : Nat) (hi : i < l.length) (hx : l[i].f0.size < 140737488355328) (hn : ∀ n ∈ ns, n.size < 140737488355328) (hnl : ns.length < 8796093022208) (ha : acc.length < 4398046511104) (r : List S32)
    (h0 : Ev (fun k => tollhouseref05_Drop.l0 k l ns acc (wrap64 ((i : Int) + 1))) r → True) :
    ∀ (d j : Nat) (b : Bool), ns.length - j = d → j ≤ ns.length → (Ev (fun k => if (b || (ns.drop j).any (fun n => sameB l[i].f0 n)) = true then tollhouseref05_Drop.l0 k l ns acc (wrap64 ((i : Int) + 1)) else tollhouseref05_Drop.l0 k l ns (acc ++ [l[i]]) (wrap64 ((i : Int) + 1))) r) →
    Ev (fun k => tollhouseref05_Drop.l1 k l ns acc (i : Int) b (j : Int)) r := by
  intro d
  induction d with
  | zero =>
    intro j b hd hj h
    rw [List.drop_eq_nil_of_le (by omega)] at h
    refine Ev.step (f := fun k => if (b || ([] : List ByteArray).any (fun n => sameB l[i].f0 n)) = true then tollhouseref05_Drop.l0 k l ns acc (wrap64 ((i : Int) + 1)) else tollhouseref05_Drop.l0 k l ns (acc ++ [l[i]]) (wrap64 ((i : Int) + 1))) (fun k => ?_) h
    rw [tollhouseref05_Drop.l1, if_neg (by omega), List.any_nil, Bool.or_false, if_pos (show 0 ≤ (i : Int) by omega), if_pos (show (i : Int) < (l.length : Int) by omega), if_pos ha, rd_at l i hi]
  | succ d ih =>
    intro j b hd hj h
    have hlt : j < ns.length := by omega
    rw [List.drop_eq_getElem_cons hlt, List.any_cons] at h
    cases b with
    | true => exact Ev.step (f := fun k => tollhouseref05_Drop.l1 k l ns acc (i : Int) true ((j + 1 : Nat) : Int)) (fun k => by rw [tollhouseref05_Drop.l1, if_pos (by omega), if_pos rfl, w64n j (by omega)]) (ih (j + 1) true (by omega) (by omega) (by simpa using h))
    | false =>
      refine Ev.step (f := fun k => (tollhouseref02_Same.f k l[i].f0 ns[j]).bind fun t272 => tollhouseref05_Drop.l1 k l ns acc (i : Int) t272 ((j + 1 : Nat) : Int)) (fun k => ?_) ?_
      · rw [tollhouseref05_Drop.l1, if_pos (by omega), if_neg (by decide), if_pos (by omega), if_pos (by omega), if_pos (by omega), rd_at l i hi, rdOf_at ns j hlt, w64n j (by omega)]
      · exact Ev.bind (refSame02_ok _ _ hx (hn _ (List.getElem_mem hlt))) (ih (j + 1) _ (by omega) (by omega) (by simpa using h))
theorem refDrop_from (l : List S32) (ns : List ByteArray) (hl : l.length < 4398046511104) (hx : ∀ x ∈ l, x.f0.size < 140737488355328) (hn : ∀ n ∈ ns, n.size < 140737488355328) (hnl : ns.length < 8796093022208) : ∀ (d i : Nat) (acc : List S32), l.length - i = d → i ≤ l.length → acc.length ≤ i →
    Ev (fun k => tollhouseref05_Drop.l0 k l ns acc (i : Int)) (acc ++ dropB (l.drop i) ns) := by
  intro d
  induction d with
  | zero =>
    intro i acc hd hi ha
    rw [List.drop_eq_nil_of_le (by omega)]
    refine Ev.step (f := fun _ => some acc) (fun k => by rw [tollhouseref05_Drop.l0, if_neg (by omega)]) ?_
    simpa [dropB] using Ev.now acc
  | succ d ih =>
    intro i acc hd hi ha
    have hlt : i < l.length := by omega
    refine Ev.step (f := fun k => tollhouseref05_Drop.l1 k l ns acc (i : Int) false ((0 : Nat) : Int)) (fun k => by rw [tollhouseref05_Drop.l0, if_pos (by omega)]; rfl) ?_
    refine refDrop_l1 l ns acc i hlt (hx _ (List.getElem_mem hlt)) hn hnl (by omega) _ (fun _ => trivial) ns.length 0 false (by omega) (Nat.zero_le _) ?_
    rw [List.drop_zero, Bool.false_or, w64n i (by omega), List.drop_eq_getElem_cons hlt]
    unfold dropB
    rw [List.filter_cons]
    refine ev_if (fun h => ?_) (fun h => ?_)
    · rw [if_neg (by unfold hasName; rw [h]; decide)]
      exact ih (i + 1) acc (by omega) (by omega) (by omega)
    · rw [if_pos (by unfold hasName; rw [Bool.not_eq_true] at h; rw [h]; rfl)]
      have := ih (i + 1) (acc ++ [l[i]]) (by omega) (by omega) (by rw [List.length_append]; simp; omega)
      rwa [List.append_assoc] at this
theorem refDrop_ok (l : List S32) (ns : List ByteArray) (hl : l.length < 4398046511104) (hx : ∀ x ∈ l, x.f0.size < 140737488355328) (hn : ∀ n ∈ ns, n.size < 140737488355328) (hnl : ns.length < 8796093022208) : Ev (fun k => tollhouseref05_Drop.f k l ns) (dropB l ns) := by
  unfold tollhouseref05_Drop.f
  exact refDrop_from l ns hl hx hn hnl l.length 0 [] (by omega) (Nat.zero_le _) (Nat.zero_le _)
theorem field_eta (x y : S32) (h0 : x.f0 = y.f0) (h1 : x.f1 = y.f1) : x = y := by cases x; cases y; simp_all
theorem toList_inj {a b : ByteArray} (h : a.toList = b.toList) : a = b := by
  rw [ByteArray.toList_eq, ByteArray.toList_eq] at h
  cases a; cases b
  congr 1
  exact Array.toList_inj.1 h
theorem same_from (a b : List S32) (he : a.length = b.length) (hl : a.length < 9223372036854775807) :
    ∀ (k i : Nat), i ≤ a.length → a.length - i < k → a.take i = b.take i → tollhouseref05_Same.l0 k a b (i : Int) = some (decide (a = b)) := by
  intro k
  induction k with
  | zero => intro i _ h; omega
  | succ k ih =>
    intro i hi hk ht
    rw [tollhouseref05_Same.l0]
    by_cases hlt : i < a.length
    · have hltb : i < b.length := by omega
      rw [if_pos (show (i : Int) < (a.length : Int) by omega), if_pos (show (0 : Int) ≤ (i : Int) by omega), if_pos (show (i : Int) < (b.length : Int) by omega), rd_at a i hlt, rd_at b i hltb]
      have hw : wrap64 ((i : Int) + 1) = ((i + 1 : Nat) : Int) := by unfold wrap64; omega
      rw [hw]
      by_cases hs : (!(a[i].f0.toList == b[i].f0.toList) || !(a[i].f1.toList == b[i].f1.toList)) = true
      · rw [if_pos hs]
        have hne : a ≠ b := by
          intro e
          subst e
          simp at hs
        rw [decide_eq_false hne]
      · rw [if_neg hs]
        rw [Bool.not_eq_true, Bool.or_eq_false_iff, Bool.not_eq_false', Bool.not_eq_false', beq_iff_eq, beq_iff_eq] at hs
        have e : a[i] = b[i] := field_eta _ _ (toList_inj hs.1) (toList_inj hs.2)
        refine ih (i + 1) (by omega) (by omega) ?_
        rw [List.take_succ_eq_append_getElem hlt, List.take_succ_eq_append_getElem hltb, ht, e]
    · rw [if_neg (show ¬ (i : Int) < (a.length : Int) by omega)]
      have : a = b := by
        rw [List.take_of_length_le (by omega), List.take_of_length_le (by omega)] at ht
        exact ht
      rw [decide_eq_true this]
theorem refSame_ok (k : Nat) (a b : List S32) (hl : a.length < 9223372036854775807) (hk : a.length < k) : tollhouseref05_Same.f k a b = some (decide (a = b)) := by
  unfold tollhouseref05_Same.f
  by_cases he : a.length = b.length
  · rw [if_pos (by omega)]
    exact same_from a b he hl k 0 (Nat.zero_le _) (by omega) rfl
  · rw [if_neg (by omega), decide_eq_false (fun e => he (by rw [e]))]
theorem refEqual_from (a b : List ByteArray) (he : a.length = b.length) (hl : a.length < 9223372036854775807) : ∀ (d i : Nat), a.length - i = d → i ≤ a.length → a.take i = b.take i → Ev (fun k => tollhouseref02_Equal.l0 k a b (i : Int)) (decide (a = b)) := by
  intro d
  induction d with
  | zero =>
    intro i hd hi ht
    refine Ev.step (f := fun _ => some true) (fun k => by rw [tollhouseref02_Equal.l0, if_neg (by omega)]) ?_
    have : a = b := by rw [List.take_of_length_le (by omega), List.take_of_length_le (by omega)] at ht; exact ht
    rw [decide_eq_true this]
    exact Ev.now _
  | succ d ih =>
    intro i hd hi ht
    have hlt : i < a.length := by omega
    have hltb : i < b.length := by omega
    by_cases hs : a[i].toList = b[i].toList
    · refine Ev.step (f := fun k => tollhouseref02_Equal.l0 k a b ((i + 1 : Nat) : Int)) (fun k => ?_) (ih (i + 1) (by omega) (by omega) ?_)
      · rw [tollhouseref02_Equal.l0, if_pos (by omega), if_pos (by omega), if_pos (by omega), rdOf_at a i hlt, rdOf_at b i hltb, if_pos hs, w64n i (by omega)]
      · rw [List.take_succ_eq_append_getElem hlt, List.take_succ_eq_append_getElem hltb, ht, toList_inj' hs]
    · refine Ev.step (f := fun _ => some false) (fun k => by rw [tollhouseref02_Equal.l0, if_pos (by omega), if_pos (by omega), if_pos (by omega), rdOf_at a i hlt, rdOf_at b i hltb, if_neg hs]) ?_
      have : a ≠ b := by intro e; subst e; exact hs rfl
      rw [decide_eq_false this]
      exact Ev.now _
theorem refEqual_ok (a b : List ByteArray) (hl : a.length < 9223372036854775807) : Ev (fun k => tollhouseref02_Equal.f k a b) (decide (a = b)) := by
  unfold tollhouseref02_Equal.f
  by_cases he : a.length = b.length
  · exact Ev.congr (fun k => if_pos (by omega)) (refEqual_from a b he hl a.length 0 (by omega) (Nat.zero_le _) rfl)
  · rw [decide_eq_false (fun e => he (by rw [e]))]
    exact Ev.congr (fun k => if_neg (by omega)) (Ev.now _)
theorem contains_cons (b : UInt8) (l sub : List UInt8) : Lib.contains (b :: l) sub = (sub.isPrefixOf (b :: l) || Lib.contains l sub) := by
  unfold Lib.contains
  rw [Lib.index]
  have hg := Lib.index_ge l sub
  by_cases h : sub.isPrefixOf (b :: l) = true
  · rw [if_pos h, h]; rfl
  · rw [if_neg h]
    rw [Bool.not_eq_true] at h
    rw [h, Bool.false_or]
    by_cases h2 : Lib.index l sub = -1
    · rw [h2]; rfl
    · rw [if_neg (by simpa using h2), Bool.eq_iff_iff, decide_eq_true_eq, decide_eq_true_eq]
      omega
/-- Words, a blank ahead of each and behind. -/
def wordsL (ws : List (List UInt8)) : List UInt8 := 32 :: ws.flatMap fun u => u ++ [32]
theorem wordsL_cons (u : List UInt8) (us : List (List UInt8)) : wordsL (u :: us) = 32 :: (u ++ wordsL us) := by
  unfold wordsL
  rw [List.flatMap_cons]
  simp
theorem pre_word : ∀ (w u rest : List UInt8), 32 ∉ w → 32 ∉ u → (w ++ [32]).isPrefixOf (u ++ 32 :: rest) = (u == w)
  | [], [], rest, _, _ => by simp [List.isPrefixOf]
  | [], c :: u, rest, _, h => by
    have : (32 : UInt8) ≠ c := fun e => h (by rw [e]; exact List.mem_cons_self)
    simp [List.isPrefixOf, this]
  | x :: w, [], rest, h, _ => by
    have : x ≠ (32 : UInt8) := fun e => h (by rw [e]; exact List.mem_cons_self)
    simp [List.isPrefixOf, this]
  | x :: w, c :: u, rest, h1, h2 => by
    have ih := pre_word w u rest (fun h => h1 (List.mem_cons_of_mem _ h)) (fun h => h2 (List.mem_cons_of_mem _ h))
    simp only [List.cons_append, List.isPrefixOf, ih]
    by_cases e : x = c
    · subst e; simp
    · have e' : ¬ c = x := fun h => e h.symm
      rw [Bool.eq_iff_iff]
      simp [e, e']
theorem contains_skip (rest sub : List UInt8) : ∀ u : List UInt8, 32 ∉ u → Lib.contains (u ++ rest) (32 :: sub) = Lib.contains rest (32 :: sub)
  | [], _ => rfl
  | c :: u, h => by
    have : (32 : UInt8) ≠ c := fun e => h (by rw [e]; exact List.mem_cons_self)
    rw [List.cons_append, contains_cons, contains_skip rest sub u (fun e => h (List.mem_cons_of_mem _ e))]
    have e : (32 :: sub).isPrefixOf (c :: (u ++ rest)) = false := by simp [List.isPrefixOf, this]
    rw [e, Bool.false_or]
theorem contains_words (w : List UInt8) (hw : 32 ∉ w) : ∀ ws : List (List UInt8), (∀ u ∈ ws, 32 ∉ u) → Lib.contains (wordsL ws) (32 :: (w ++ [32])) = ws.any (· == w)
  | [], _ => by
    have e : wordsL [] = [32] := rfl
    rw [e, contains_cons, List.any_nil]
    have e1 : (32 :: (w ++ [32])).isPrefixOf [(32 : UInt8)] = false := by cases w <;> simp [List.isPrefixOf]
    rw [e1, Bool.false_or]
    rfl
  | u :: us, h => by
    have hu := h u List.mem_cons_self
    have e1 : (32 :: (w ++ [32])).isPrefixOf (32 :: (u ++ wordsL us)) = (u == w) := by
      have := pre_word w u (us.flatMap fun u => u ++ [32]) hw hu
      simp only [List.isPrefixOf, beq_self_eq_true, Bool.true_and]
      exact this
    rw [wordsL_cons, contains_cons, e1, contains_skip _ _ u hu, contains_words w hw us (fun x hx => h x (List.mem_cons_of_mem _ hx)), List.any_cons]
theorem forAllS_words : forAllS.data.toList = wordsL (allNames.map fun n => n.data.toList) := by decide +kernel
theorem allNames_plain : ∀ u ∈ allNames.map (fun n => n.data.toList), (32 : UInt8) ∉ u := by decide +kernel
theorem allNames_tok : allNames.all tokB = true := by decide +kernel
theorem tokA_lowfin : ∀ n : Fin 256, tokI (lowI ((n.val : Nat) : Int)) = tokI ((n.val : Nat) : Int) := by decide +kernel
theorem tokA_low (a : ByteArray) : tokB (lowB a) = tokB a := by
  unfold tokB
  have h1 : (lowB a).data.toList.isEmpty = a.data.toList.isEmpty := by
    have : (lowB a).data.toList = a.data.toList.map lowU := rfl
    rw [this, List.isEmpty_map]
  have h2 : (bytesOf (lowB a)).all tokI = (bytesOf a).all tokI := by
    rw [bytes_lowB, List.all_map, Bool.eq_iff_iff, List.all_eq_true, List.all_eq_true]
    have e : ∀ c ∈ bytesOf a, (tokI ∘ lowI) c = tokI c := fun c hc => by
      obtain ⟨n, rfl⟩ := bytesOf_range hc
      exact tokA_lowfin n
    exact ⟨fun h c hc => (e c hc) ▸ h c hc, fun h c hc => (e c hc).symm ▸ h c hc⟩
  rw [h1, h2]
theorem tok_no32 (a : ByteArray) (h : tokB a = true) : (32 : UInt8) ∉ a.data.toList := fun hm => by
  unfold tokB at h
  rw [Bool.and_eq_true] at h
  have h2 : ((32 : UInt8).toNat : Int) ∈ bytesOf a := List.mem_map.2 ⟨32, hm, rfl⟩
  have := List.all_eq_true.1 h.2 _ h2
  revert this
  decide +kernel
theorem askS_list (a : ByteArray) : (askS a).data.toList = 32 :: ((lowB a).data.toList ++ [32]) := by
  unfold askS
  rw [ByteArray.data_append, ByteArray.data_append]
  simp
theorem forAll_all (a : ByteArray) : forAllB a = allB a := by
  cases hq : tokB a with
  | false =>
    have h1 : forAllB a = false := by unfold forAllB; rw [hq]; rfl
    rw [h1]
    symm
    unfold allB
    rw [List.any_eq_false]
    intro n hn he
    have hn' := List.all_eq_true.1 allNames_tok n hn
    have e : n = lowB a := toList_inj' (by simpa using he)
    rw [e, tokA_low, hq] at hn'
    cases hn'
  | true =>
    unfold forAllB allB
    rw [hq, Bool.true_and, askS_list, forAllS_words, contains_words _ (tok_no32 _ (by rw [tokA_low]; exact hq)) _ allNames_plain, List.any_map]
    congr 1
    funext n
    simp only [Function.comp_def, ByteArray.toList_eq]
def blkU (b : UInt8) : Bool := b == 32 || b == 9
/-- The next place that bears no blank; the next that bears one. -/
def skB (s : ByteArray) (p : Nat) : Nat := p + ((s.data.toList.drop p).takeWhile blkU).length
def skN (s : ByteArray) (p : Nat) : Nat := p + ((s.data.toList.drop p).takeWhile fun b => !blkU b).length
theorem size_L (s : ByteArray) : s.data.toList.length = s.size := by rw [Array.length_toList]; rfl
theorem drop_at (s : ByteArray) (p : Nat) (h : p < s.size) : s.data.toList.drop p = s.get! p :: s.data.toList.drop (p + 1) := by
  rw [List.drop_eq_getElem_cons (by rw [size_L]; exact h), get_at' s p h]
  congr 1
theorem skB_end (s : ByteArray) (p : Nat) (h : s.size ≤ p) : skB s p = p := by unfold skB; rw [List.drop_eq_nil_of_le (by rw [size_L]; exact h)]; rfl
theorem skN_end (s : ByteArray) (p : Nat) (h : s.size ≤ p) : skN s p = p := by unfold skN; rw [List.drop_eq_nil_of_le (by rw [size_L]; exact h)]; rfl
theorem skB_on (s : ByteArray) (p : Nat) (h : p < s.size) (hb : blkU (s.get! p) = true) : skB s p = skB s (p + 1) := by
  unfold skB; rw [drop_at s p h, List.takeWhile_cons, if_pos hb, List.length_cons]; omega
theorem skB_stop (s : ByteArray) (p : Nat) (h : p < s.size) (hb : blkU (s.get! p) = false) : skB s p = p := by
  unfold skB; rw [drop_at s p h, List.takeWhile_cons, if_neg (by rw [hb]; decide)]; rfl
theorem skN_on (s : ByteArray) (p : Nat) (h : p < s.size) (hb : blkU (s.get! p) = false) : skN s p = skN s (p + 1) := by
  unfold skN; rw [drop_at s p h, List.takeWhile_cons, if_pos (by rw [hb]; decide), List.length_cons]; omega
theorem skN_stop (s : ByteArray) (p : Nat) (h : p < s.size) (hb : blkU (s.get! p) = true) : skN s p = p := by
  unfold skN; rw [drop_at s p h, List.takeWhile_cons, if_neg (by rw [hb]; decide)]; rfl
theorem skB_le (s : ByteArray) (p : Nat) (h : p ≤ s.size) : p ≤ skB s p ∧ skB s p ≤ s.size := by
  unfold skB
  have h1 := (List.takeWhile_sublist blkU (l := s.data.toList.drop p)).length_le
  rw [List.length_drop, size_L] at h1
  omega
theorem skN_le (s : ByteArray) (p : Nat) (h : p ≤ s.size) : p ≤ skN s p ∧ skN s p ≤ s.size := by
  unfold skN
  have h1 := (List.takeWhile_sublist (fun b => !blkU b) (l := s.data.toList.drop p)).length_le
  rw [List.length_drop, size_L] at h1
  omega
theorem skB_at (s : ByteArray) : ∀ (d p : Nat), s.size - p = d → skB s p < s.size → blkU (s.get! (skB s p)) = false
  | 0, p, hd, h => by rw [skB_end s p (by omega)] at h; omega
  | d + 1, p, hd, h => by
    have hp : p < s.size := by omega
    cases hb : blkU (s.get! p) with
    | true => rw [skB_on s p hp hb] at h ⊢; exact skB_at s d (p + 1) (by omega) h
    | false => rw [skB_stop s p hp hb]; exact hb
/-- Over a rune: none of its bytes is a blank. -/
theorem skN_run (s : ByteArray) : ∀ (n p : Nat), p + n ≤ s.size → (∀ k, k < n → blkU (s.get! (p + k)) = false) → skN s p = skN s (p + n)
  | 0, _, _, _ => rfl
  | n + 1, p, h, hk => by
    rw [skN_on s p (by omega) (hk 0 (by omega)), skN_run s n (p + 1) (by omega) (fun k hk' => by have := hk (k + 1) (by omega); rwa [show p + (k + 1) = p + 1 + k by omega] at this)]
    congr 1; omega
theorem blk_nat (b : UInt8) : blkU b = blankR b.toNat := by
  unfold blkU blankR
  have e : ∀ n : UInt8, (b == n) = (b.toNat == n.toNat) := fun n => by
    rw [Bool.eq_iff_iff, beq_iff_eq, beq_iff_eq]
    exact ⟨fun h => by rw [h], fun h => UInt8.toNat_inj.1 h⟩
  rw [e 32, e 9]
  rfl
theorem high_blk {b : UInt8} (h : 128 ≤ b.toNat) : blkU b = false := by
  rw [blk_nat]; unfold blankR; simp; omega
/-- A rune is a blank just if its first byte is one; then it is one byte. -/
theorem rune_blank (s : ByteArray) (p : Nat) (h : p < s.size) : blankR (Utf8.decode s p).1 = blkU (s.get! p) ∧ (blkU (s.get! p) = true → (Utf8.decode s p).2 = 1) ∧ 1 ≤ (Utf8.decode s p).2 ∧ p + (Utf8.decode s p).2 ≤ s.size ∧ (blkU (s.get! p) = false → skN s p = skN s (p + (Utf8.decode s p).2)) := by
  obtain ⟨w1, w2⟩ := decode_width s p h
  have hg := get_at' s p h
  by_cases ha : (s[p]'h).toNat < 128
  · have e := decode_ascii s p h ha
    rw [e] at w1 w2 ⊢
    refine ⟨by rw [blk_nat, hg], fun _ => rfl, w1, w2, fun hb => skN_on s p h hb⟩
  · have e := (decode_high s p h (by omega)).1
    have hb : blkU (s.get! p) = false := high_blk (by rw [hg]; omega)
    refine ⟨by rw [hb]; unfold blankR; simp; omega, (fun hc => absurd (hb.symm.trans hc) (by decide)), w1, w2, fun _ => skN_run s _ p w2 fun k hk => ?_⟩
    rcases Nat.eq_zero_or_pos k with rfl | hk0
    · exact hb
    · exact high_blk (decode_tail s p k hk0 hk).2

/-! ### the pieces -/
theorem spans_fuel (s : ByteArray) : ∀ (f g pos : Nat) (st : Option Nat) (acc : List (Nat × Nat)), s.size - pos ≤ f → s.size - pos ≤ g → Lib.spansFromP blankR s f pos st acc = Lib.spansFromP blankR s g pos st acc := by
  intro f
  induction f with
  | zero => intro g pos st acc h1 h2; rw [Lib.spansFromP_end _ _ _ _ _ _ (by omega), Lib.spansFromP_end _ _ _ _ _ _ (by omega)]
  | succ f ih =>
    intro g pos st acc h1 h2
    by_cases hp : pos < s.size
    · obtain ⟨g, rfl⟩ : ∃ m, g = m + 1 := ⟨g - 1, by omega⟩
      obtain ⟨w1, w2⟩ := decode_width s pos hp
      unfold Lib.spansFromP
      rw [if_pos hp, if_pos hp]
      split <;> cases st <;> exact ih _ _ _ _ (by omega) (by omega)
    · rw [Lib.spansFromP_end _ _ _ _ _ _ hp, Lib.spansFromP_end _ _ _ _ _ _ hp]
theorem spans_acc (s : ByteArray) : ∀ (f pos : Nat) (st : Option Nat) (acc : List (Nat × Nat)), Lib.spansFromP blankR s f pos st acc = (acc ++ (Lib.spansFromP blankR s f pos st []).1, (Lib.spansFromP blankR s f pos st []).2) := by
  intro f
  induction f with
  | zero => intro pos st acc; simp [Lib.spansFromP]
  | succ f ih =>
    intro pos st acc
    unfold Lib.spansFromP
    by_cases hp : pos < s.size
    · rw [if_pos hp, if_pos hp]
      by_cases hb : blankR (Utf8.decode s pos).1 = true
      · rw [if_pos hb, if_pos hb]
        cases st with
        | none => exact ih _ _ acc
        | some a =>
          show Lib.spansFromP blankR s f _ none (acc ++ [(a, pos)]) = (acc ++ (Lib.spansFromP blankR s f _ none ([] ++ [(a, pos)])).1, (Lib.spansFromP blankR s f _ none ([] ++ [(a, pos)])).2)
          rw [ih _ none (acc ++ [(a, pos)]), ih _ none ([] ++ [(a, pos)])]
          simp
      · rw [if_neg hb, if_neg hb]
        cases st with
        | none => exact ih _ _ acc
        | some a => exact ih _ _ acc
    · rw [if_neg hp, if_neg hp]; simp
/-- The spans from a place on. -/
def spK (s : ByteArray) (pos : Nat) (st : Option Nat) : List (Nat × Nat) := Lib.closeSpans s (Lib.spansFromP blankR s (s.size - pos) pos st [])
theorem spK_none_end (s : ByteArray) (pos : Nat) (h : s.size ≤ pos) : spK s pos none = [] := by unfold spK; rw [Lib.spansFromP_end _ _ _ _ _ _ (by omega)]; rfl
theorem spK_some_end (s : ByteArray) (a : Nat) : spK s s.size (some a) = [(a, s.size)] := by unfold spK; rw [Lib.spansFromP_end _ _ _ _ _ _ (by omega)]; rfl
theorem spK_step (s : ByteArray) (pos : Nat) (st : Option Nat) (h : pos < s.size) : spK s pos st =
    if blkU (s.get! pos) = true then (match st with | some a => (a, pos) :: spK s (pos + 1) none | none => spK s (pos + 1) none)
    else (match st with | some a => spK s (pos + (Utf8.decode s pos).2) (some a) | none => spK s (pos + (Utf8.decode s pos).2) (some pos)) := by
  obtain ⟨r1, r2, r3, r4, _⟩ := rune_blank s pos h
  obtain ⟨d, hd⟩ : ∃ d, s.size - pos = d + 1 := ⟨s.size - pos - 1, by omega⟩
  unfold spK
  rw [hd]
  conv => lhs; unfold Lib.spansFromP
  rw [if_pos h, r1]
  by_cases hb : blkU (s.get! pos) = true
  · rw [if_pos hb, if_pos hb, r2 hb]
    cases st with
    | none => simp only []; rw [spans_fuel s d (s.size - (pos + 1)) _ _ _ (by omega) (by omega)]
    | some a =>
      simp only []
      rw [spans_fuel s d (s.size - (pos + 1)) _ _ _ (by omega) (by omega), spans_acc]
      unfold Lib.closeSpans
      cases (Lib.spansFromP blankR s (s.size - (pos + 1)) (pos + 1) none []).2 <;> simp
  · rw [if_neg hb, if_neg hb]
    cases st with
    | none => simp only []; rw [spans_fuel s d (s.size - (pos + (Utf8.decode s pos).2)) _ _ _ (by omega) (by omega)]
    | some a => simp only []; rw [spans_fuel s d (s.size - (pos + (Utf8.decode s pos).2)) _ _ _ (by omega) (by omega)]
theorem spK_word (s : ByteArray) (a : Nat) : ∀ (d pos : Nat), s.size - pos = d → pos ≤ s.size → spK s pos (some a) = (a, skN s pos) :: spK s (skN s pos) none := by
  intro d
  induction d using Nat.strongRecOn with
  | ind d ih =>
    intro pos hd hp
    by_cases h : pos < s.size
    · obtain ⟨_, _, r3, r4, r5⟩ := rune_blank s pos h
      rw [spK_step s pos (some a) h]
      cases hb : blkU (s.get! pos) with
      | true =>
        rw [if_pos rfl, skN_stop s pos h hb, spK_step s pos none h, hb, if_pos rfl]
      | false =>
        rw [if_neg (by decide), r5 hb]
        exact ih _ (by omega) _ rfl r4
    · obtain rfl : pos = s.size := by omega
      rw [spK_some_end, skN_end s _ (Nat.le_refl _), spK_none_end s _ (Nat.le_refl _)]
theorem spK_blank (s : ByteArray) : ∀ (d pos : Nat), s.size - pos = d → pos ≤ s.size → spK s pos none = if skB s pos < s.size then (skB s pos, skN s (skB s pos)) :: spK s (skN s (skB s pos)) none else [] := by
  intro d
  induction d with
  | zero =>
    intro pos hd hp
    rw [skB_end s pos (by omega), if_neg (by omega), spK_none_end s pos (by omega)]
  | succ d ih =>
    intro pos hd hp
    have h : pos < s.size := by omega
    obtain ⟨_, _, r3, r4, r5⟩ := rune_blank s pos h
    rw [spK_step s pos none h]
    cases hb : blkU (s.get! pos) with
    | true =>
      rw [if_pos rfl, skB_on s pos h hb]
      exact ih (pos + 1) (by omega) (by omega)
    | false =>
      rw [if_neg (by decide), skB_stop s pos h hb, if_pos h]
      simp only []
      rw [spK_word s pos _ _ rfl r4, ← r5 hb]
/-- The second part. -/
def secB (s : ByteArray) : ByteArray := s.extract (skB s (skN s (skB s 0))) (skN s (skB s (skN s (skB s 0))))
theorem loop_second (s : ByteArray) : loopB s = sameB (secB s) wordN := by
  have h0 : Lib.goFieldsP blankR s = (spK s 0 none).map fun x => s.extract x.1 x.2 := by
    unfold Lib.goFieldsP Lib.spansOfP spK
    rfl
  obtain ⟨a1, a2⟩ := skB_le s 0 (Nat.zero_le _)
  obtain ⟨b1, b2⟩ := skN_le s _ a2
  obtain ⟨c1, c2⟩ := skB_le s _ b2
  have hno : ∀ n, s.size ≤ n → sameB (s.extract n (skN s n)) wordN = false := fun n hn => by
    have e : s.extract n (skN s n) = ByteArray.empty := by
      rw [skN_end s n hn]
      apply ByteArray.ext
      apply Array.ext' 
      simp
    rw [e]
    decide +kernel
  unfold loopB
  rw [h0, spK_blank s _ 0 rfl (Nat.zero_le _)]
  unfold secB
  by_cases h1 : skB s 0 < s.size
  · rw [if_pos h1, spK_blank s _ _ rfl b2]
    by_cases h2 : skB s (skN s (skB s 0)) < s.size
    · rw [if_pos h2]
      simp
    · rw [if_neg h2, hno _ (by omega)]
      simp
  · rw [if_neg h1]
    have e : skB s 0 = s.size := by omega
    rw [e, skN_end s _ (Nat.le_refl _), skB_end s _ (Nat.le_refl _), hno _ (Nat.le_refl _)]
    simp

/-! ### the document's -/
theorem bt_blk (s : ByteArray) (p : Nat) (h : p < s.size) : (bt s (p : Int) = 32 ∨ bt s (p : Int) = 9) ↔ blkU (s.get! p) = true := by
  have e : bt s (p : Int) = ((s.get! p).toNat : Int) := by
    unfold bt
    rw [dif_pos (by simpa using h), get_at' s p h]
    simp
  rw [e, blk_nat]
  unfold blankR
  simp
  omega
theorem sec_l2 (s : ByteArray) (hs : s.size < 1099511627776) (n : Nat) (fr : Nat) (r : ByteArray) : ∀ (d p : Nat), s.size - p = d → fr ≤ p → p ≤ s.size → Ev (fun k => if (n : Int) = 1 then some (s.extract fr (skN s p)) else tollhouseref11_second.l0 k s ((skN s p : Nat) : Int) (wrap64 ((n : Int) + 1))) r → Ev (fun k => tollhouseref11_second.l2 k s (p : Int) (n : Int) (fr : Int)) r := by
  intro d
  induction d with
  | zero =>
    intro p hd h1 h2 h
    obtain rfl : p = s.size := by omega
    rw [skN_end s _ (Nat.le_refl _)] at h
    refine Ev.step (fun k => ?_) h
    rw [tollhouseref11_second.l2, if_neg (by omega), if_pos (show (0 : Int) ≤ (fr : Int) by omega), if_pos (show (fr : Int) ≤ (s.size : Int) by omega), if_pos (show (s.size : Int) ≤ (s.size : Int) by omega)]
    simp only [Int.toNat_natCast]
  | succ d ih =>
    intro p hd h1 h2 h
    have hp : p < s.size := by omega
    have hb := bt_blk s p hp
    cases hq : blkU (s.get! p) with
    | true =>
      rw [skN_stop s p hp hq] at h
      rw [hq] at hb
      refine Ev.step (fun k => ?_) h
      rw [tollhouseref11_second.l2, if_pos (by omega), if_pos (by omega), if_pos (show (0 : Int) ≤ (fr : Int) by omega), if_pos (show (fr : Int) ≤ (p : Int) by omega), if_pos (show (p : Int) ≤ (s.size : Int) by omega)]
      simp only [Int.toNat_natCast]
      by_cases e : bt s (p : Int) = 32
      · rw [if_pos e]
      · rw [if_neg e, if_pos ((hb.2 rfl).resolve_left e)]
    | false =>
      rw [skN_on s p hp hq] at h
      rw [hq] at hb
      have n1 : ¬ bt s (p : Int) = 32 := fun e => by have := hb.1 (.inl e); cases this
      have n2 : ¬ bt s (p : Int) = 9 := fun e => by have := hb.1 (.inr e); cases this
      refine Ev.step (f := fun k => tollhouseref11_second.l2 k s ((p + 1 : Nat) : Int) (n : Int) (fr : Int)) (fun k => ?_) (ih (p + 1) (by omega) (by omega) (by omega) h)
      rw [tollhouseref11_second.l2, if_pos (by omega), if_pos (by omega), if_neg n1, if_neg n2, w64n p (by omega)]
theorem sec_l1 (s : ByteArray) (hs : s.size < 1099511627776) (n : Nat) (r : ByteArray) : ∀ (d p : Nat), s.size - p = d → p ≤ s.size → Ev (fun k => tollhouseref11_second.l2 k s ((skB s p : Nat) : Int) (n : Int) ((skB s p : Nat) : Int)) r → Ev (fun k => tollhouseref11_second.l1 k s (p : Int) (n : Int)) r := by
  intro d
  induction d with
  | zero =>
    intro p hd h2 h
    obtain rfl : p = s.size := by omega
    rw [skB_end s _ (Nat.le_refl _)] at h
    refine Ev.step (f := fun k => tollhouseref11_second.j2 k s (s.size : Int) (n : Int)) (fun k => ?_) (Ev.step (fun k => by rw [tollhouseref11_second.j2]) h)
    rw [tollhouseref11_second.l1, if_neg (by omega)]
  | succ d ih =>
    intro p hd h2 h
    have hp : p < s.size := by omega
    have hb := bt_blk s p hp
    cases hq : blkU (s.get! p) with
    | false =>
      rw [skB_stop s p hp hq] at h
      rw [hq] at hb
      have n1 : ¬ bt s (p : Int) = 32 := fun e => by have := hb.1 (.inl e); cases this
      have n2 : ¬ bt s (p : Int) = 9 := fun e => by have := hb.1 (.inr e); cases this
      refine Ev.step (f := fun k => tollhouseref11_second.j2 k s (p : Int) (n : Int)) (fun k => ?_) (Ev.step (fun k => by rw [tollhouseref11_second.j2]) h)
      rw [tollhouseref11_second.l1, if_pos (by omega), if_pos (by omega), if_neg n1, if_neg n2]
    | true =>
      rw [skB_on s p hp hq] at h
      rw [hq] at hb
      refine Ev.step (f := fun k => tollhouseref11_second.l1 k s ((p + 1 : Nat) : Int) (n : Int)) (fun k => ?_) (ih (p + 1) (by omega) (by omega) h)
      rw [tollhouseref11_second.l1, if_pos (by omega), if_pos (by omega), w64n p (by omega)]
      by_cases e : bt s (p : Int) = 32
      · rw [if_pos e]
      · rw [if_neg e, if_pos ((hb.2 rfl).resolve_left e)]
theorem second_ok (s : ByteArray) (hs : s.size < 1099511627776) : Ev (fun k => tollhouseref11_second.f k s) (secB s) := by
  obtain ⟨a1, a2⟩ := skB_le s 0 (Nat.zero_le _)
  obtain ⟨b1, b2⟩ := skN_le s _ a2
  obtain ⟨c1, c2⟩ := skB_le s _ b2
  have h1 : Ev (fun k => tollhouseref11_second.l0 k s ((skN s (skB s 0) : Nat) : Int) 1) (secB s) := by
    refine Ev.step (f := fun k => tollhouseref11_second.l1 k s ((skN s (skB s 0) : Nat) : Int) ((1 : Nat) : Int)) (fun k => by rw [tollhouseref11_second.l0, if_pos (by decide)]; rfl) ?_
    refine sec_l1 s hs 1 _ _ _ rfl b2 (sec_l2 s hs 1 _ _ _ _ rfl (Nat.le_refl _) c2 (Ev.congr (fun k => if_pos rfl) (Ev.now _)))
  unfold tollhouseref11_second.f
  refine Ev.step (f := fun k => tollhouseref11_second.l1 k s ((0 : Nat) : Int) ((0 : Nat) : Int)) (fun k => by rw [tollhouseref11_second.l0, if_pos (by decide)]; rfl) ?_
  exact sec_l1 s hs 0 _ _ _ rfl (Nat.zero_le _) (sec_l2 s hs 0 _ _ _ _ rfl (Nat.le_refl _) a2 (Ev.congr (fun k => if_neg (by decide)) (by rw [show wrap64 (((0 : Nat) : Int) + 1) = 1 by unfold wrap64; omega]; exact h1)))
theorem ev_same (a : List S32) (hl : a.length ≤ 1073741824) : Ev (fun k => tollhouseref05_Same.f k a a) true := ⟨a.length + 1, fun k hk => by show tollhouseref05_Same.f k a a = some true; rw [refSame_ok k a a (by omega) (by omega), decide_eq_true rfl]⟩
/-! ### elements -/
theorem refEls_from (l : List S32) (n : ByteArray) (hl : bulkL l ≤ 1073741824) (hn : n.size ≤ 1073741824) : ∀ (d i : Nat) (acc : List ByteArray), l.length - i = d → i ≤ l.length → acc.length + sumS (getB (l.drop i) n) ≤ 1073741824 →
    Ev (fun k => tollhouseref11_Elements.l0 k l n acc (i : Int)) (acc ++ elsB (getB (l.drop i) n)) := by
  have hll := bulkL_len l
  intro d
  induction d with
  | zero =>
    intro i acc hd hi _
    rw [List.drop_eq_nil_of_le (by omega), show getB ([] : List S32) n = [] from rfl, show elsB [] = [] from rfl, List.append_nil]
    exact Ev.step (f := fun _ => some acc) (fun k => by rw [tollhouseref11_Elements.l0, if_neg (by omega)]) (Ev.now _)
  | succ d ih =>
    intro i acc hd hi ha
    have hlt : i < l.length := by omega
    have hx := bulkL_mem (List.getElem_mem hlt)
    rw [List.drop_eq_getElem_cons hlt, getB_cons] at ha ⊢
    refine Ev.step (fun k => by rw [tollhouseref11_Elements.l0, if_pos (by omega), if_pos (by omega), rd_at l i hlt, w64n i (by omega)]) (Ev.bind (refSame02_ok _ _ (by omega) (by omega)) (ev_ifH (fun h => ?_) (fun h => ?_)))
    · rw [if_pos h, sumS_cons] at ha
      rw [if_pos h]
      have hlb := listB_length l[i].f1
      have := ih (i + 1) (acc ++ listB l[i].f1) (by omega) (by omega) (by rw [List.length_append]; omega)
      rw [show elsB (l[i].f1 :: getB (l.drop (i + 1)) n) = listB l[i].f1 ++ elsB (getB (l.drop (i + 1)) n) by unfold elsB; rw [List.flatMap_cons]]
      rw [List.append_assoc] at this
      exact Ev.bind (refList_ok _ (by omega)) (Ev.congr (fun k => if_pos (by omega)) this)
    · rw [if_neg h] at ha ⊢
      exact ih (i + 1) acc (by omega) (by omega) ha
theorem refEls_ok (l : List S32) (n : ByteArray) (hl : bulkL l ≤ 1073741824) (hn : n.size ≤ 1073741824) : Ev (fun k => tollhouseref11_Elements.f k l n) (elemsB l n) := by
  unfold tollhouseref11_Elements.f
  have := refEls_from l n hl hn _ 0 [] rfl (Nat.zero_le _) (by have := getB_sum l n; rw [List.drop_zero, List.length_nil]; omega)
  exact this
/-! ### loops -/
theorem low_word : (lowB wordN).toList = ([116, 111, 108, 108, 104, 111, 117, 115, 101] : List UInt8) := by decide +kernel
theorem same_word (x n : ByteArray) (t : List UInt8) (ht : (lowB n).toList = t) : sameB x n = true ↔ (lowB x).toList = t := by
  rw [sameB_iff, ← ht]
  exact ⟨fun h => by rw [h], fun h => toList_inj' h⟩
theorem secB_size (s : ByteArray) : (secB s).size ≤ s.size := by unfold secB; rw [ByteArray.size_extract]; omega
theorem refLoops_step (xs : List ByteArray) (i : Nat) (x y : ByteArray) (r : Bool) (hy : y.size ≤ 1073741824) (hlt : i < xs.length) (hl : xs.length ≤ 1073741824) (hrd : rdOf ByteArray.empty xs (i : Int) = x) (hsec : Ev (fun k => tollhouseref11_second.f k x) y)
    (nxt : Ev (fun k => tollhouseref11_Loops.l0 k xs ((i + 1 : Nat) : Int)) r) : Ev (fun k => tollhouseref11_Loops.l0 k xs (i : Int)) (sameB y wordN || r) := by
  have hlow := refLower_ok y (by omega)
  have hw := same_word y wordN _ low_word
  generalize lowB y = z at hlow hw
  refine Ev.step (f := fun k => (tollhouseref11_second.f k x).bind fun t188 => (tollhouseref02_Lower.f k t188).bind fun t189 => (if t189.toList = ([116, 111, 108, 108, 104, 111, 117, 115, 101] : List UInt8) then some true else tollhouseref11_Loops.l0 k xs ((i + 1 : Nat) : Int))) (fun k => by rw [tollhouseref11_Loops.l0, if_pos (by omega), if_pos (by omega), hrd, w64n i (by omega)]) (Ev.bind hsec (Ev.bind hlow ?_))
  by_cases h : z.toList = ([116, 111, 108, 108, 104, 111, 117, 115, 101] : List UInt8)
  · rw [hw.2 h, Bool.true_or]
    exact Ev.congr (fun k => if_pos h) (Ev.now _)
  · rw [show sameB y wordN = false by rw [Bool.eq_false_iff]; exact fun e => h (hw.1 e), Bool.false_or]
    exact Ev.congr (fun k => if_neg h) nxt
theorem refLoops_from (xs : List ByteArray) (hl : xs.length ≤ 1073741824) (hx : ∀ x ∈ xs, x.size ≤ 1073741824) : ∀ (d i : Nat), xs.length - i = d → i ≤ xs.length → Ev (fun k => tollhouseref11_Loops.l0 k xs (i : Int)) ((xs.drop i).any loopB) := by
  intro d
  induction d with
  | zero =>
    intro i hd hi
    rw [List.drop_eq_nil_of_le (by omega), List.any_nil]
    exact Ev.step (f := fun _ => some false) (fun k => by rw [tollhouseref11_Loops.l0, if_neg (by omega)]) (Ev.now _)
  | succ d ih =>
    intro i hd hi
    have hlt : i < xs.length := by omega
    have nxt := ih (i + 1) (by omega) (by omega)
    have hs := hx _ (List.getElem_mem hlt)
    rw [List.drop_eq_getElem_cons hlt, List.any_cons, loop_second]
    exact refLoops_step xs i _ _ _ (Nat.le_trans (secB_size _) hs) hlt hl (rdOf_at xs i hlt) (second_ok _ (Nat.lt_of_le_of_lt hs (by decide))) nxt
theorem els_len (l : List S32) (n : ByteArray) : (elemsB l n).length ≤ bulkL l := elemsB_length l n
theorem refLoops_ok (l : List S32) (hl : bulkL l ≤ 1073741824) : Ev (fun k => tollhouseref11_Loops.f k l) (loopsB l) := by
  unfold tollhouseref11_Loops.f loopsB
  refine Ev.bind (refEls_ok l viaN hl (by decide)) ?_
  have h1 := els_len l viaN
  have := refLoops_from (elemsB l viaN) (by omega) (fun x hx => by have := elemsB_mem hx; omega) _ 0 rfl (Nat.zero_le _)
  exact this
/-! ### closes -/
theorem low_close : (lowB closeN).toList = ([99, 108, 111, 115, 101] : List UInt8) := by decide +kernel
theorem low_keep : (lowB keepN).toList = ([107, 101, 101, 112, 45, 97, 108, 105, 118, 101] : List UInt8) := by decide +kernel
theorem refCloses_from (m : Int) (xs : List ByteArray) (hl : xs.length ≤ 1073741824) (hx : ∀ x ∈ xs, x.size ≤ 1073741824) : ∀ (d i : Nat) (st : Bool), xs.length - i = d → i ≤ xs.length →
    Ev (fun k => tollhouseref11_Closes.l0 k m xs st (i : Int)) (if ((xs.drop i).any fun x => sameB x closeN) = true then true else if (st || (xs.drop i).any fun x => sameB x keepN) = true then false else m == 0) := by
  intro d
  induction d with
  | zero =>
    intro i st hd hi
    rw [List.drop_eq_nil_of_le (by omega), List.any_nil, List.any_nil, if_neg (by decide), Bool.or_false]
    refine Ev.step (f := fun _ => if st = true then some false else some (m == 0)) (fun k => by rw [tollhouseref11_Closes.l0, if_neg (by omega)]) ?_
    cases st
    · exact Ev.now _
    · exact Ev.now _
  | succ d ih =>
    intro i st hd hi
    have hlt : i < xs.length := by omega
    have hs := hx _ (List.getElem_mem hlt)
    rw [List.drop_eq_getElem_cons hlt, List.any_cons, List.any_cons]
    refine Ev.step (fun k => by rw [tollhouseref11_Closes.l0, if_pos (by omega), if_pos (by omega), rdOf_at xs i hlt, w64n i (by omega)]) (Ev.bind (refLower_ok _ (by omega)) (ev_ifH (fun h => ?_) (fun h => ?_)))
    · rw [(same_word _ _ _ low_close).2 h, Bool.true_or, if_pos rfl]
      exact Ev.now _
    · rw [show sameB xs[i] closeN = false by rw [Bool.eq_false_iff]; exact fun e => h ((same_word _ _ _ low_close).1 e), Bool.false_or]
      refine ev_ifH (fun h2 => ?_) (fun h2 => ?_)
      · have := ih (i + 1) true (by omega) (by omega)
        rw [(same_word _ _ _ low_keep).2 h2, Bool.true_or, Bool.or_true]
        rw [Bool.true_or] at this
        exact this
      · have := ih (i + 1) st (by omega) (by omega)
        rw [show sameB xs[i] keepN = false by rw [Bool.eq_false_iff]; exact fun e => h2 ((same_word _ _ _ low_keep).1 e), Bool.false_or]
        exact this
theorem refCloses_ok (m : Int) (l : List S32) (hl : bulkL l ≤ 1073741824) : Ev (fun k => tollhouseref11_Closes.f k m l) (closesB m l) := by
  unfold tollhouseref11_Closes.f closesB saysB
  refine Ev.bind (refEls_ok l connC hl (by decide)) ?_
  have h1 := els_len l connC
  have := refCloses_from m (elemsB l connC) (by omega) (fun x hx => by have := elemsB_mem hx; omega) _ 0 false rfl (Nat.zero_le _)
  exact this
/-! ### strip -/
theorem hasName_appF (a b : List ByteArray) (x : S32) : hasName (a ++ b) x = (hasName a x || hasName b x) := by unfold hasName; rw [List.any_append]
theorem strip_namesF (l : List S32) : stripB l = dropB l (hopNames ++ saidB l) := by
  unfold stripB dropB
  rw [List.filter_filter]
  congr 1
  funext x
  rw [hasName_appF, Bool.not_or]
theorem refForAll (a : ByteArray) (h : a.size ≤ 1073741824) : tollhouseref11_ForAll.f a = some (forAllB a) := by unfold tollhouseref11_ForAll.f; rw [if_pos h, forAll_all]
theorem refStrip_from (l : List S32) (hl : bulkL l ≤ 1073741824) (xs : List ByteArray) (hxs : xs = elemsB l connN) : ∀ (d i : Nat), xs.length - i = d → i ≤ xs.length → Ev (fun k => tollhouseref11_Strip.l0 k l (hopNames ++ keptS forAllB (xs.take i)) xs (i : Int)) (stripB l) := by
  have hll := bulkL_len l
  have hxl : xs.length ≤ bulkL l := by rw [hxs]; exact elemsB_length l connN
  have h9 : hopNames.length = 9 := rfl
  intro d
  induction d with
  | zero =>
    intro i hd hi
    rw [List.take_of_length_le (by omega)]
    have e : hopNames ++ keptS forAllB xs = hopNames ++ saidB l := by unfold saidB; rw [hxs]
    have hk : (saidB l).length ≤ (elemsB l connN).length := List.length_filter_le _ _
    rw [e, strip_namesF]
    refine Ev.step (fun k => by rw [tollhouseref11_Strip.l0, if_neg (by omega)]) (Ev.bind (refDrop_ok l _ (by omega) (fun x hx => by have := bulkL_mem hx; omega) (fun n hn => ?_) (by rw [List.length_append]; rw [hxs] at hxl; omega)) (Ev.now _))
    rcases List.mem_append.1 hn with h | h
    · have : ∀ x ∈ hopNames, x.size < 140737488355328 := by decide
      exact this n h
    · have := elemsB_mem (List.mem_filter.1 h).1
      omega
  | succ d ih =>
    intro i hd hi
    have hlt : i < xs.length := by omega
    have hs : xs[i].size ≤ bulkL l := (elemsB_mem (by rw [← hxs]; exact List.getElem_mem hlt)).1
    have nxt := ih (i + 1) (by omega) (by omega)
    have hk : keptS forAllB (xs.take (i + 1)) = keptS forAllB (xs.take i) ++ (if forAllB xs[i] = true then [] else [xs[i]]) := by
      unfold keptS
      rw [List.take_succ_eq_append_getElem hlt, List.filter_append, List.filter_cons]
      cases forAllB xs[i] <;> rfl
    have hkl : (keptS forAllB (xs.take i)).length ≤ i := by
      have : (keptS forAllB (xs.take i)).length ≤ (xs.take i).length := List.length_filter_le _ _
      rw [List.length_take] at this
      omega
    rw [hk] at nxt
    refine Ev.step (fun k => by rw [tollhouseref11_Strip.l0, if_pos (by omega), if_pos (by omega), rdOf_at xs i hlt, w64n i (by omega), refForAll _ (by omega), Option.bind_some]) ?_
    cases hf : forAllB xs[i] with
    | true =>
      rw [hf, if_pos rfl, List.append_nil] at nxt
      exact Ev.congr (fun k => if_pos rfl) nxt
    | false =>
      rw [hf, if_neg (by decide), ← List.append_assoc] at nxt
      exact Ev.congr (fun k => by rw [if_neg (by decide), if_pos (by simp only [List.length_append]; omega)]) nxt
theorem refStrip_ok (l : List S32) (hl : bulkL l ≤ 1073741824) : Ev (fun k => tollhouseref11_Strip.f k l) (stripB l) := by
  unfold tollhouseref11_Strip.f
  refine Ev.bind (refEls_ok l connN hl (by decide)) ?_
  exact refStrip_from l hl _ rfl _ 0 rfl (Nat.zero_le _)
/-! ### the law -/
theorem fields_l1 (l : List S32) (hl : l.length ≤ 1073741824) : ∀ (d i : Nat) (Y : List S32), Y.length - i = d → i ≤ Y.length → Y.length ≤ 1073741824 → Ev (fun k => tollhouselaw11_HopFields.l1 k l l Y true (i : Int)) true := by
  intro d
  induction d with
  | zero =>
    intro i Y hd hi hY
    refine Ev.step (fun k => by rw [tollhouselaw11_HopFields.l1, if_neg (by omega), if_pos rfl]) (Ev.bind (ev_same l hl) (Ev.congr (fun k => if_pos rfl) (Ev.bind wakes11_ev (Ev.now _))))
  | succ d ih =>
    intro i Y hd hi hY
    refine Ev.step (fun k => by rw [tollhouselaw11_HopFields.l1, if_pos (by omega), if_pos (by omega), w64n i (by omega)]) (ih (i + 1) _ (by rw [List.length_set]; omega) (by rw [List.length_set]; omega) (by rw [List.length_set]; omega))
theorem fields_l0 (l Y : List S32) (hl : l.length ≤ 1073741824) (hY : Y.length ≤ 1073741824) : ∀ (d i : Nat) (X : List S32), X.length - i = d → i ≤ X.length → X.length ≤ 1073741824 → Ev (fun k => tollhouselaw11_HopFields.l0 k l l X Y true (i : Int)) true := by
  intro d
  induction d with
  | zero =>
    intro i X hd hi hX
    refine Ev.step (f := fun k => tollhouselaw11_HopFields.l1 k l l Y true ((0 : Nat) : Int)) (fun k => by rw [tollhouselaw11_HopFields.l0, if_neg (by omega)]; rfl) (fields_l1 l hl _ 0 Y rfl (Nat.zero_le _) hY)
  | succ d ih =>
    intro i X hd hi hX
    refine Ev.step (fun k => by rw [tollhouselaw11_HopFields.l0, if_pos (by omega), if_pos (by omega), w64n i (by omega)]) (ih (i + 1) _ (by rw [List.length_set]; omega) (by rw [List.length_set]; omega) (by rw [List.length_set]; omega))
theorem HopFields_true (l : List S32) (a : ByteArray) (minor : Int) (hl0 : l.length * 32 ≤ 140737488351232) (hy0 : ∀ x ∈ l, x.f0.size ≤ 140737488351232 ∧ x.f1.size ≤ 140737488351232) (wa : a.size ≤ 140737488351232) (wi : (Lit.int .i64 minor).wf = true) (hB : bulkFs l + a.size ≤ 1048576) : ∃ k, tollhouselaw11_HopFields.f k l a minor = some true := by
  have hbl := bulkFs_L' l
  have hlen := bulkL_len l
  have hb : bulkL l ≤ 1048576 := by omega
  have hel := els_len l a
  have hsl : (stripB l).length ≤ l.length := by rw [strip_namesF]; exact List.length_filter_le _ _
  refine Ev.rounds (g := fun k => tollhouselaw11_HopFields.f k l a minor) ?_
  obtain ⟨v, hv⟩ : ∃ v, v = l ++ [(⟨⟨#[86, 105, 97]⟩, ⟨#[49, 46, 49, 32, 116, 111, 108, 108, 104, 111, 117, 115, 101]⟩⟩ : S32)] := ⟨_, rfl⟩
  have hvl : v.length ≤ 1073741824 := by rw [hv, List.length_append]; simp only [List.length_cons, List.length_nil]; omega
  have v1 : hop_Via.f l = some v := by
    unfold hop_Via.f cloneField.f
    rw [if_pos (by omega), Option.bind_some, if_pos (by omega), hv]
  have v2 : tollhouseref11_Via.f l = some v := by
    unfold tollhouseref11_Via.f
    rw [if_pos (by simp only [List.length_nil]; omega), Option.bind_some, List.nil_append, if_pos (by omega), hv]
  have s1 : hop_Strip.f l = some (stripB l) := by unfold hop_Strip.f; rw [if_pos (by omega)]
  have f1 : hop_ForAll.f a = some (forAllB a) := by unfold hop_ForAll.f; rw [if_pos (by omega)]
  have p1 : hop_Loops.f l = some (loopsB l) := by unfold hop_Loops.f; rw [if_pos (by omega)]
  have c1 : hop_Closes.f minor l = some (closesB minor l) := by unfold hop_Closes.f; rw [if_pos (by omega)]
  have hE := refEqual_ok (elemsB l a) (elemsB l a) (by omega)
  rw [decide_eq_true rfl] at hE
  have hend : Ev (fun k => tollhouselaw11_HopFields.j0 k l l (stripB l) v true) true :=
    Ev.step (f := fun k => tollhouselaw11_HopFields.l0 k l l (stripB l) v true ((0 : Nat) : Int)) (fun k => by rw [tollhouselaw11_HopFields.j0]; rfl) (fields_l0 l v (by omega) hvl _ 0 _ rfl (Nat.zero_le _) (by omega))
  unfold tollhouselaw11_HopFields.f
  refine Ev.congr (fun k => by rw [if_pos (by simp only [List.length_nil]; omega), Option.bind_some, List.nil_append, s1, Option.bind_some, v1, Option.bind_some]) ?_
  refine Ev.bind (elements_ev l a (by omega) (by omega)) (Ev.bind (refEls_ok l a (by omega) (by omega)) (Ev.bind hE (Ev.congr (fun k => if_pos rfl) ?_)))
  refine Ev.bind (refStrip_ok l (by omega)) (Ev.bind (ev_same _ (by omega)) (Ev.congr (fun k => if_pos rfl) ?_))
  refine Ev.congr (fun k => by rw [v2, Option.bind_some]) (Ev.bind (ev_same v hvl) (Ev.congr (fun k => if_pos rfl) ?_))
  refine Ev.congr (fun k => by rw [f1, Option.bind_some, refForAll a (by omega), Option.bind_some, if_pos (beq_self_eq_true _), p1, Option.bind_some]) ?_
  refine Ev.bind (refLoops_ok l (by omega)) (Ev.congr (fun k => if_pos (beq_self_eq_true _)) ?_)
  refine Ev.congr (fun k => by rw [c1, Option.bind_some]) (Ev.bind (refCloses_ok minor l (by omega)) ?_)
  rw [beq_self_eq_true]
  exact hend
end Go.Proofs.YtegdblnalpfndaaDoor.P
