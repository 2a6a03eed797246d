/- HopStrips: the plain law. -/
import Derived.Test.YtegdblnalpfndaaDoorPHopJudged
import Derived.Test.YtegdblnalpfndaaDoorPHopLoops
import Derived.Test.YtegdblnalpfndaaDoorPRefSame
import Derived.Test.YtegdblnalpfndaaDoorQtollhouselaw11HopStrips
set_option linter.unusedVariables false
set_option linter.unusedSimpArgs false
namespace Go.Proofs.YtegdblnalpfndaaDoor.P
open Go.RowKit Go.Proofs.YtegdblnalpfndaaDoorW.PrintWords Go.Proofs.YtegdblnalpfndaaDoorW.PrintLast Go.Proofs.YtegdblnalpfndaaDoorW.PrintMore

theorem hasName_app (a b : List ByteArray) (x : S32) : hasName (a ++ b) x = (hasName a x || hasName b x) := by unfold hasName; rw [List.any_append]
theorem dropB_drop (l : List S32) (a b : List ByteArray) : dropB (dropB l a) b = dropB l (b ++ a) := by
  unfold dropB
  rw [List.filter_filter]
  congr 1
  funext x
  rw [hasName_app, Bool.not_or]
theorem dropB_app (l m : List S32) (a : List ByteArray) : dropB (l ++ m) a = dropB l a ++ dropB m a := by unfold dropB; rw [List.filter_append]
theorem dropB_none (l : List S32) (a : List ByteArray) (h : ∀ x ∈ l, hasName a x = false) : dropB l a = l := by
  unfold dropB
  rw [List.filter_eq_self]
  intro x hx
  rw [h x hx]; rfl
def namesB' (l : List S32) : List ByteArray := hopNames ++ saidB l
theorem strip_names (l : List S32) : stripB l = dropB l (namesB' l) := by unfold stripB namesB'; rw [dropB_drop]
theorem get_dropped (l : List S32) (ns : List ByteArray) (n : ByteArray) (h : n ∈ ns) : getB (dropB l ns) n = [] := by
  unfold getB dropB
  rw [List.filter_filter, List.filter_eq_nil_iff.2, List.map_nil]
  intro x _ hx
  rw [Bool.and_eq_true, Bool.not_eq_true'] at hx
  have : hasName ns x = true := by unfold hasName; exact List.any_eq_true.2 ⟨n, h, hx.1⟩
  rw [this] at hx
  cases hx.2
theorem conn_in : connN ∈ hopNames := by simp [connN, hopNames]
theorem strip_conn (l : List S32) : getB (stripB l) connN = [] := by
  rw [strip_names]
  exact get_dropped _ _ _ (List.mem_append_left _ conn_in)
theorem said_strip (l : List S32) : saidB (stripB l) = [] := by
  unfold saidB elemsB
  rw [strip_conn]
  rfl
theorem strip_strip (l : List S32) : stripB (stripB l) = stripB l := by
  rw [strip_names (stripB l)]
  unfold namesB'
  rw [said_strip, List.append_nil]
  refine dropB_none _ _ fun x hx => ?_
  rw [strip_names] at hx
  have := (List.mem_filter.1 hx).2
  unfold namesB' at this
  rw [hasName_app, Bool.not_or, Bool.and_eq_true, Bool.not_eq_true'] at this
  exact this.1
theorem closes_strip (m : Int) (l : List S32) : closesB m (stripB l) = (m == 0) := by
  have e : ∀ n, saysB (stripB l) n = false := fun n => by
    unfold saysB elemsB
    rw [show getB (stripB l) connC = [] from strip_conn l]
    rfl
  unfold closesB
  rw [e, e, if_neg (by decide), if_neg (by decide)]
/-- A token lists itself. -/
theorem tok_plainfin : ∀ n : Fin 256, tokI ((n.val : Nat) : Int) = true → (((n.val : Nat) : Int) ≠ 34 ∧ ((n.val : Nat) : Int) ≠ 44 ∧ blankI ((n.val : Nat) : Int) = false) := by decide +kernel
theorem lsGo_plain (s : ByteArray) (h : ∀ i, i < s.size → (s.get! i).toNat ≠ 34 ∧ (s.get! i).toNat ≠ 44) : ∀ (d pos : Nat), d = s.size - pos → pos ≤ s.size → lsGo s d pos 0 false false [] = lsEnd s [] 0 s.size
  | 0, pos, _, _ => rfl
  | d + 1, pos, hd, hp => by
    obtain ⟨h1, h2⟩ := h pos (by omega)
    have e1 : ((s.get! pos).toNat == 34) = false := beq_eq_false_iff_ne.2 h1
    have e2 : ((s.get! pos).toNat == 44) = false := beq_eq_false_iff_ne.2 h2
    rw [lsGo, if_neg (by decide), e1, e2]
    simp only [Bool.false_and, Bool.false_eq_true, if_false]
    exact lsGo_plain s h d (pos + 1) (by omega) (by omega)
theorem drop_keep (p : Int → Bool) : ∀ l : List Int, (∀ c ∈ l, p c = false) → l.dropWhile p = l
  | [], _ => rfl
  | c :: r, h => by rw [List.dropWhile_cons_of_neg]; rw [h c (by simp)]; decide
theorem list_tok (a : ByteArray) (h : tokB a = true) : listB a = [a] := by
  unfold tokB at h
  rw [Bool.and_eq_true, Bool.not_eq_true'] at h
  obtain ⟨h0, h1⟩ := h
  rw [List.all_eq_true] at h1
  have hb : ∀ c ∈ bytesOf a, c ≠ 34 ∧ c ≠ 44 ∧ blankI c = false := fun c hc => by
    obtain ⟨n, rfl⟩ := bytesOf_range hc
    exact tok_plainfin n (h1 _ hc)
  have hg : ∀ i, i < a.size → (a.get! i).toNat ≠ 34 ∧ (a.get! i).toNat ≠ 44 := fun i hi => by
    have hl : i < (bytesOf a).length := by rw [bytes_len]; exact hi
    have hm := hb _ (List.getElem_mem hl)
    have e : (bytesOf a)[i] = ((a.get! i).toNat : Int) := by
      rw [get_at' a i hi]
      simp only [bytesOf, List.getElem_map, Array.getElem_toList]
      rfl
    rw [e] at hm
    exact ⟨fun e' => hm.1 (by rw [e']; rfl), fun e' => hm.2.1 (by rw [e']; rfl)⟩
  unfold listB
  rw [lsGo_plain a hg a.size 0 (by omega) (by omega)]
  have hx : a.extract 0 a.size = a := by
    apply bytes_inj
    rw [ext_lists, List.drop_zero, List.take_of_length_le (by rw [bytes_len]; exact Nat.le_refl _)]
  have ht : trimB a = a := by
    apply bytes_inj
    rw [bytes_trimB]
    unfold trimL
    have hrev : ∀ c ∈ (bytesOf a).reverse, blankI c = false := fun c hc => (hb c (List.mem_reverse.1 hc)).2.2
    rw [drop_keep blankI _ hrev, List.reverse_reverse, drop_keep blankI _ (fun c hc => (hb c hc).2.2)]
  unfold lsEnd
  rw [hx, ht, h0]
  rfl

theorem names_size {l : List S32} {n : ByteArray} (h : n ∈ namesB' l) (hl : bulkL l ≤ 1073741824) : n.size ≤ 1073741824 := by
  unfold namesB' at h
  rcases List.mem_append.1 h with h | h
  · have : ∀ x ∈ hopNames, x.size ≤ 1073741824 := by decide
    exact this n h
  · exact Nat.le_trans (elemsB_mem (List.mem_filter.1 h).1).1 hl
theorem names_len (l : List S32) : (namesB' l).length ≤ 9 + bulkL l := by
  unfold namesB'
  rw [List.length_append]
  have h1 : (saidB l).length ≤ (elemsB l connN).length := List.length_filter_le _ _
  have h2 := elemsB_length l connN
  have h3 : hopNames.length = 9 := rfl
  omega
theorem dropB_at (l : List S32) (N : List ByteArray) (i : Nat) (hlt : i < l.length) (hn : hasName N l[i] = false) : dropB l N = dropB (l.take i) N ++ (l[i] :: dropB (l.drop (i + 1)) N) := by
  have e : dropB [l[i]] N = [l[i]] := dropB_none _ _ (fun x hx => by rw [List.mem_singleton.1 hx]; exact hn)
  have h0 : l = l.take i ++ ([l[i]] ++ l.drop (i + 1)) := by rw [List.singleton_append, ← List.drop_eq_getElem_cons hlt, List.take_append_drop]
  refine (congrArg (fun z => dropB z N) h0).trans ?_
  show dropB (l.take i ++ ([l[i]] ++ l.drop (i + 1))) N = _
  rw [dropB_app, dropB_app, e]
  rfl
theorem get_empty (l : List S32) (n : ByteArray) (h : n ∈ namesB' l) : getB (stripB l) n = [] := by rw [strip_names]; exact get_dropped _ _ _ h

section
variable (l : List S32) (a b : ByteArray) (hb : bulkL l + (a.size + b.size) ≤ 1048576)
theorem strips_j5 (hb : bulkL l + (a.size + b.size) ≤ 1048576) (x : Bool) (hx : x = false → tokB a = true ∧ sameB a connN = false) : Ev (fun k => tollhouselaw11_HopStrips.j5 k (stripB l) ((([] : List S32) ++ l) ++ [(⟨a, b⟩ : S32), (⟨(⟨#[99, 79, 78, 78, 69, 67, 84, 73, 79, 78]⟩ : ByteArray), a⟩ : S32)]) x a b) true := by
  have hw : Ev (fun k => (tollhouselaw11_wakes.f k).bind fun t305 => some t305) true := Ev.bind wakes11_ev (Ev.now _)
  cases x with
  | true => exact Ev.step (fun k => by rw [tollhouselaw11_HopStrips.j5, if_pos rfl]) hw
  | false =>
    obtain ⟨htok, hns⟩ := hx rfl
    have hcl : lowB (⟨#[99, 79, 78, 78, 69, 67, 84, 73, 79, 78]⟩ : ByteArray) = lowB connN := by decide +kernel
    generalize hcn : (⟨#[99, 79, 78, 78, 69, 67, 84, 73, 79, 78]⟩ : ByteArray) = cn at hcl
    have hcs : cn.size = 10 := by rw [← hcn]; rfl
    rw [List.nil_append]
    have hlen := bulkL_len l
    have hfb : bulkL [(⟨a, b⟩ : S32), ⟨cn, a⟩] = a.size + b.size + 1 + (10 + a.size + 1) := by rw [bulkL_cons, bulkL_cons, hcs]; simp [bulkL]
    have hmb : bulkL (l ++ [(⟨a, b⟩ : S32), ⟨cn, a⟩]) ≤ 1073741824 := by rw [bulkL_append, hfb]; omega
    have hsb := stripB_bulk l
    have hsl := bulkL_len (stripB l)
    -- what connection names now
    have hel : elemsB (l ++ [(⟨a, b⟩ : S32), ⟨cn, a⟩]) connN = elemsB l connN ++ [a] := by
      rw [elemsB_app]
      congr 1
      unfold elemsB
      rw [show [(⟨a, b⟩ : S32), ⟨cn, a⟩] = [(⟨a, b⟩ : S32)] ++ [⟨cn, a⟩] from rfl, getB_app, getB_not ⟨a, b⟩ connN hns, getB_yes ⟨cn, a⟩ connN (sameB_iff.2 hcl), List.nil_append]
      unfold elsB
      rw [List.flatMap_cons, List.flatMap_nil, List.append_nil]
      exact list_tok a htok
    have hsaid : saidB (l ++ [(⟨a, b⟩ : S32), ⟨cn, a⟩]) = saidB l ++ (if forAllB a = true then [] else [a]) := by
      unfold saidB keptS
      rw [hel, List.filter_append]
      congr 1
      rw [List.filter_cons]
      cases forAllB a <;> rfl
    have hcdrop : ∀ ns : List ByteArray, dropB [(⟨cn, a⟩ : S32)] (hopNames ++ ns) = [] := fun ns => by
      unfold dropB
      rw [List.filter_cons]
      have : hasName (hopNames ++ ns) (⟨cn, a⟩ : S32) = true := by
        unfold hasName
        exact List.any_eq_true.2 ⟨connN, List.mem_append_left _ conn_in, sameB_iff.2 hcl⟩
      rw [this]
      rfl
    have hstrip := strip_names (l ++ [(⟨a, b⟩ : S32), ⟨cn, a⟩])
    unfold namesB' at hstrip
    rw [hsaid, show l ++ [(⟨a, b⟩ : S32), ⟨cn, a⟩] = (l ++ [(⟨a, b⟩ : S32)]) ++ [⟨cn, a⟩] by simp, dropB_app, dropB_app, hcdrop, List.append_nil] at hstrip
    rw [show l ++ [(⟨a, b⟩ : S32), ⟨cn, a⟩] = (l ++ [(⟨a, b⟩ : S32)]) ++ [⟨cn, a⟩] by simp] at hmb ⊢
    refine Ev.step (fun k => by rw [tollhouselaw11_HopStrips.j5, if_neg (by decide), forAll_ok a (by omega), Option.bind_some]) ?_
    cases hf : forAllB a with
    | true =>
      rw [hf, if_pos rfl, List.append_nil] at hstrip
      have hkeep : dropB [(⟨a, b⟩ : S32)] (hopNames ++ saidB l) = [⟨a, b⟩] := by
        refine dropB_none _ _ fun x hx => ?_
        rw [List.mem_singleton.1 hx]
        unfold hasName
        rw [List.any_eq_false]
        intro n' hn' hc
        have hc' := forAllB_low (sameB_iff.1 hc)
        rw [hf] at hc'
        rcases List.mem_append.1 hn' with h | h
        · have := List.all_eq_true.1 hopNames_not n' h
          rw [← hc'] at this; cases this
        · have := (List.mem_filter.1 h).2
          rw [← hc'] at this; cases this
      rw [hkeep] at hstrip
      have e2 : dropB l (hopNames ++ saidB l) = stripB l := (strip_names l).symm
      rw [e2] at hstrip
      have hsame := fun k (hk : (stripB l ++ [(⟨a, b⟩ : S32)]).length < k) => refSame_ok k (stripB l ++ [(⟨a, b⟩ : S32)]) (stripB l ++ [(⟨a, b⟩ : S32)]) (by rw [List.length_append]; simp only [List.length_cons, List.length_nil]; omega) hk
      refine Ev.congr (fun k => by rw [if_pos rfl, strip_ok _ hmb, hstrip, Option.bind_some, if_pos (by simp only [List.length_nil]; omega), Option.bind_some, Option.bind_some, List.nil_append, if_pos (by simp only [List.length_cons, List.length_nil]; omega)]) (Ev.bind (a := true) ⟨(stripB l ++ [(⟨a, b⟩ : S32)]).length + 1, fun k hk => by rw [hsame k (by omega)]; simp⟩ ?_)
      exact Ev.congr (fun k => if_pos rfl) hw
    | false =>
      rw [hf, if_neg (by decide)] at hstrip
      have hdrop : dropB [(⟨a, b⟩ : S32)] (hopNames ++ (saidB l ++ [a])) = [] := by
        unfold dropB
        rw [List.filter_cons]
        have : hasName (hopNames ++ (saidB l ++ [a])) (⟨a, b⟩ : S32) = true := by
          unfold hasName
          exact List.any_eq_true.2 ⟨a, by simp, sameB_refl a⟩
        rw [this]
        rfl
      rw [hdrop, List.append_nil] at hstrip
      have e2 : dropB l (hopNames ++ (saidB l ++ [a])) = dropB (stripB l) [a] := by
        rw [strip_names, dropB_drop]
        unfold dropB namesB'
        congr 1
        funext x
        congr 1
        rw [hasName_app, hasName_app, hasName_app, hasName_app]
        cases hasName hopNames x <;> cases hasName (saidB l) x <;> cases hasName [a] x <;> rfl
      rw [e2] at hstrip
      have hdl : (dropB (stripB l) [a]).length ≤ (stripB l).length := List.length_filter_le _ _
      have hsame := fun k (hk : (dropB (stripB l) [a]).length < k) => refSame_ok k (dropB (stripB l) [a]) (dropB (stripB l) [a]) (by omega) hk
      refine Ev.congr (fun k => by rw [if_neg (by decide), strip_ok _ hmb, hstrip, Option.bind_some, drop_some (stripB l) [a] (by omega) (by simp; omega), Option.bind_some]) (Ev.bind (a := true) ⟨(dropB (stripB l) [a]).length + 1, fun k hk => by rw [hsame k (by omega)]; simp⟩ ?_)
      exact Ev.congr (fun k => if_pos rfl) hw
theorem strips_j4 (hb : bulkL l + (a.size + b.size) ≤ 1048576) : Ev (fun k => tollhouselaw11_HopStrips.j4 k l (stripB l) false a b) true := by
  have hlen := bulkL_len l
  refine Ev.step (fun k => by rw [tollhouselaw11_HopStrips.j4, if_neg (by decide), if_pos (by simp only [List.length_nil]; omega), Option.bind_some, Option.bind_some, if_pos (by simp only [List.length_cons, List.length_nil, List.length_append]; omega), Option.bind_some, show text_Token.f a = some (tokB a) by unfold text_Token.f; rw [if_pos (by omega)]; rfl, Option.bind_some]) ?_
  cases ht : tokB a with
  | true =>
    refine Ev.congr (fun k => by rw [if_pos rfl, textSame_ok a _ (by omega) (by decide), Option.bind_some]; rfl) (strips_j5 l a b hb _ (fun h => ⟨ht, h⟩))
  | false => exact Ev.congr (fun k => if_neg (by decide)) (strips_j5 l a b hb true (fun h => by cases h))
/-- What stays so far. -/
theorem strips_l2 (hb : bulkL l + (a.size + b.size) ≤ 1048576) : ∀ (d i : Nat), l.length - i = d → i ≤ l.length → Ev (fun k => tollhouselaw11_HopStrips.l2 k l (stripB l) (namesB' l) ((dropB (l.take i) (namesB' l)).length : Int) (i : Int) a b) true := by
  have hlen := bulkL_len l
  have hnl := names_len l
  have hsb := stripB_bulk l
  have hsl := bulkL_len (stripB l)
  intro d
  induction d with
  | zero =>
    intro i hd hi
    rw [List.take_of_length_le (by omega), ← strip_names]
    refine Ev.step (fun k => by rw [tollhouselaw11_HopStrips.l2, if_neg (by omega), if_pos rfl, strip_ok _ (by omega), strip_strip, Option.bind_some]) (Ev.bind (a := true) ⟨(stripB l).length + 1, fun k hk => by rw [refSame_ok k (stripB l) (stripB l) (by omega) (by omega)]; simp⟩ ?_)
    refine Ev.congr (fun k => by rw [if_pos rfl, closes_ok 0 _ (show bulkL (stripB l) ≤ 1073741824 by omega), closes_strip, Option.bind_some, if_pos (by decide), closes_ok 1 _ (show bulkL (stripB l) ≤ 1073741824 by omega), closes_strip, Option.bind_some]; rfl) (strips_j4 l a b hb)
  | succ d ih =>
    intro i hd hi
    have hlt : i < l.length := by omega
    have hmem : l[i] ∈ l := List.getElem_mem hlt
    have hsz := bulkL_mem hmem
    have hsn : l.take (i + 1) = l.take i ++ [l[i]] := List.take_succ_eq_append_getElem hlt
    have nxt := ih (i + 1) (by omega) (by omega)
    rw [hsn, dropB_app, ← wrap1 i (by omega)] at nxt
    have hkl : (dropB (l.take i) (namesB' l)).length ≤ i := by
      have : (dropB (l.take i) (namesB' l)).length ≤ (l.take i).length := List.length_filter_le _ _
      rw [List.length_take] at this
      omega
    -- behind the names
    have fin : Ev (fun k => tollhouselaw11_HopStrips.l3 k l (stripB l) (namesB' l) ((dropB (l.take i) (namesB' l)).length : Int) (i : Int) (hasName (namesB' l) l[i]) ((namesB' l).length : Int) a b) true := by
      cases hn : hasName (namesB' l) l[i] with
      | true =>
        have e : dropB [l[i]] (namesB' l) = [] := by unfold dropB; rw [List.filter_cons, hn]; rfl
        rw [e, List.append_nil] at nxt
        exact Ev.step (fun k => by rw [tollhouselaw11_HopStrips.l3, if_neg (by omega), if_pos rfl]) nxt
      | false =>
        have e : dropB [l[i]] (namesB' l) = [l[i]] := dropB_none _ _ (fun x hx => by rw [List.mem_singleton.1 hx]; exact hn)
        rw [e, List.length_append] at nxt
        have hs : stripB l = dropB (l.take i) (namesB' l) ++ (l[i] :: dropB (l.drop (i + 1)) (namesB' l)) := by
          rw [strip_names]
          exact dropB_at l (namesB' l) i hlt hn
        have hkk : (dropB (l.take i) (namesB' l)).length < (stripB l).length := by rw [hs]; simp only [List.length_append, List.length_cons]; omega
        have hat : (stripB l)[(dropB (l.take i) (namesB' l)).length]'hkk = l[i] := by
          simp only [hs, List.getElem_append_right (Nat.le_refl _), Nat.sub_self, List.getElem_cons_zero]
        refine Ev.step (fun k => by rw [tollhouselaw11_HopStrips.l3, if_neg (by omega), if_neg (by decide), if_neg (by omega), if_pos (by omega), if_pos (by omega), if_pos (by omega), if_pos (by omega), rd_at _ _ hkk, rd_at l i hlt, hat, if_neg (by simp), wrap1 _ (by omega)]) ?_
        exact nxt
    have loop : ∀ (e j : Nat), (namesB' l).length - j = e → j ≤ (namesB' l).length → Ev (fun k => tollhouselaw11_HopStrips.l3 k l (stripB l) (namesB' l) ((dropB (l.take i) (namesB' l)).length : Int) (i : Int) (((namesB' l).take j).any fun n => sameB l[i].f0 n) (j : Int) a b) true := by
      intro e
      induction e with
      | zero =>
        intro j he hj
        have hje : j = (namesB' l).length := by omega
        subst hje
        rw [List.take_length]
        exact fin
      | succ e ih2 =>
        intro j he hj
        have hjl : j < (namesB' l).length := by omega
        have hjm : (namesB' l)[j] ∈ namesB' l := List.getElem_mem hjl
        have hjs := names_size hjm (by omega)
        have hsj : (namesB' l).take (j + 1) = (namesB' l).take j ++ [(namesB' l)[j]] := List.take_succ_eq_append_getElem hjl
        have nx := ih2 (j + 1) (by omega) (by omega)
        rw [hsj, List.any_append, ← wrap1 j (by omega)] at nx
        cases hq : ((namesB' l).take j).any fun n => sameB l[i].f0 n with
        | true =>
          rw [hq, Bool.true_or] at nx
          exact Ev.step (fun k => by rw [tollhouselaw11_HopStrips.l3, if_pos (by omega), if_pos rfl]) nx
        | false =>
          rw [hq, Bool.false_or, List.any_cons, List.any_nil, Bool.or_false] at nx
          have hsym : sameB (namesB' l)[j] l[i].f0 = sameB l[i].f0 (namesB' l)[j] := by rw [sameB_eq, sameB_eq]; congr 1; exact propext ⟨fun h => h.symm, fun h => h.symm⟩
          exact Ev.step (fun k => by rw [tollhouselaw11_HopStrips.l3, if_pos (by omega), if_neg (by decide), if_pos (by omega), if_pos (by omega), if_pos (by omega), rdS_at _ j hjl, rd_at l i hlt, textSame_ok _ _ (by omega) (by omega), Option.bind_some, hsym]) nx
    exact Ev.step (fun k => by rw [tollhouselaw11_HopStrips.l2, if_pos (by omega)]; rfl) (loop _ 0 rfl (Nat.zero_le _))
theorem strips_l1 (hb : bulkL l + (a.size + b.size) ≤ 1048576) : ∀ (d i : Nat), (namesB' l).length - i = d → i ≤ (namesB' l).length → Ev (fun k => tollhouselaw11_HopStrips.l1 k l (stripB l) (namesB' l) (i : Int) a b) true := by
  have hnl := names_len l
  have hsb := stripB_bulk l
  intro d
  induction d with
  | zero =>
    intro i hd hi
    exact Ev.step (fun k => by rw [tollhouselaw11_HopStrips.l1, if_neg (by omega)]; rfl) (strips_l2 l a b hb l.length 0 rfl (Nat.zero_le _))
  | succ d ih =>
    intro i hd hi
    have hlt : i < (namesB' l).length := by omega
    have hm : (namesB' l)[i] ∈ namesB' l := List.getElem_mem hlt
    have hs := names_size hm (by omega)
    refine Ev.step (fun k => by rw [tollhouselaw11_HopStrips.l1, if_pos (by omega), if_pos (by omega), rdS_at _ i hlt]) (Ev.bind (get_evH (stripB l) _ (by omega) hs) ?_)
    rw [get_empty l _ hm]
    exact Ev.congr (fun k => by rw [if_neg (by simp), wrap1 i (by omega)]) (ih (i + 1) (by omega) (by omega))
theorem strips_l0 (hb : bulkL l + (a.size + b.size) ≤ 1048576) (xs : List ByteArray) (hxs : xs = elemsB l connN) : ∀ (d i : Nat), xs.length - i = d → i ≤ xs.length → Ev (fun k => tollhouselaw11_HopStrips.l0 k l (stripB l) (hopNames ++ keptS forAllB (xs.take i)) xs (i : Int) a b) true := by
  have hxl : xs.length ≤ bulkL l := by rw [hxs]; exact elemsB_length l connN
  intro d
  induction d with
  | zero =>
    intro i hd hi
    rw [List.take_of_length_le (by omega)]
    have e : hopNames ++ keptS forAllB xs = namesB' l := by unfold namesB' saidB; rw [hxs]
    rw [e]
    exact Ev.step (fun k => by rw [tollhouselaw11_HopStrips.l0, if_neg (by omega)]; rfl) (strips_l1 l a b hb _ 0 rfl (Nat.zero_le _))
  | succ d ih =>
    intro i hd hi
    have hlt : i < xs.length := by omega
    have hm : xs[i] ∈ xs := List.getElem_mem hlt
    have hs : xs[i].size ≤ bulkL l := (elemsB_mem (by rw [← hxs]; exact hm)).1
    have nxt := ih (i + 1) (by omega) (by omega)
    have hk : keptS forAllB (xs.take (i + 1)) = keptS forAllB (xs.take i) ++ (if forAllB xs[i] = true then [] else [xs[i]]) := by
      unfold keptS
      rw [List.take_succ_eq_append_getElem hlt, List.filter_append, List.filter_cons]
      cases forAllB xs[i] <;> rfl
    have hkl : (keptS forAllB (xs.take i)).length ≤ i := by
      have : (keptS forAllB (xs.take i)).length ≤ (xs.take i).length := List.length_filter_le _ _
      rw [List.length_take] at this
      omega
    have h9 : hopNames.length = 9 := rfl
    rw [hk, ← wrap1 i (by omega)] at nxt
    refine Ev.step (fun k => by rw [tollhouselaw11_HopStrips.l0, if_pos (by omega), if_pos (by omega), rdS_at _ i hlt, forAll_ok _ (by omega), Option.bind_some]) ?_
    cases hf : forAllB xs[i] with
    | true =>
      rw [hf, if_pos rfl, List.append_nil] at nxt
      exact Ev.congr (fun k => if_pos rfl) nxt
    | false =>
      rw [hf, if_neg (by decide), ← List.append_assoc] at nxt
      exact Ev.congr (fun k => by rw [if_neg (by decide), Option.bind_some, if_pos (by simp only [List.length_append, List.length_cons, List.length_nil]; omega)]) nxt
end
theorem HopStrips_true (l : List S32) (a b : ByteArray) (hl0 : l.length * 32 ≤ 140737488351232) (hy0 : ∀ x ∈ l, x.f0.size ≤ 140737488351232 ∧ x.f1.size ≤ 140737488351232) (wa : a.size ≤ 140737488351232) (wb : b.size ≤ 140737488351232) (hB : bulkFs l + (a.size + b.size + 3) ≤ 1048576) : ∃ k, tollhouselaw11_HopStrips.f k l a b = some true := by
  have hbl := bulkFs_L' l
  refine Ev.rounds (g := fun k => tollhouselaw11_HopStrips.f k l a b) ?_
  have hc : lowB (⟨#[67, 111, 110, 110, 101, 99, 116, 105, 111, 110]⟩ : ByteArray) = lowB connN := by decide +kernel
  have he : elemsB l (⟨#[67, 111, 110, 110, 101, 99, 116, 105, 111, 110]⟩ : ByteArray) = elemsB l connN := by unfold elemsB; rw [getB_like l hc]
  have hE := elements_ev l (⟨#[67, 111, 110, 110, 101, 99, 116, 105, 111, 110]⟩ : ByteArray) (by omega) (by decide)
  rw [he] at hE
  unfold tollhouselaw11_HopStrips.f
  refine Ev.congr (fun k => by rw [strip_ok l (by omega), Option.bind_some]) (Ev.bind hE ?_)
  have := strips_l0 l a b (by omega) (elemsB l connN) rfl _ 0 rfl (Nat.zero_le _)
  exact this
end Go.Proofs.YtegdblnalpfndaaDoor.P
