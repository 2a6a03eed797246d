/- Plain law: AclRules. -/
import Derived.Test.YthfppglmjkjcoaaDoorPNamedRef
import Derived.Test.YthfppglmjkjcoaaDoorPRefTokOnly
import Derived.Test.YthfppglmjkjcoaaDoorFOpenR
import Derived.Test.YthfppglmjkjcoaaDoorQtollhouselaw14AclRules
set_option linter.unusedVariables false
set_option linter.unusedSimpArgs false
namespace Go.Proofs.YthfppglmjkjcoaaDoor.P
open Go.RowKit Go.Proofs.YthfppglmjkjcoaaDoorW.PrintWords Go.Proofs.YthfppglmjkjcoaaDoorW.PrintLast Go.Proofs.YthfppglmjkjcoaaDoorW.PrintMore

theorem wakesEvR : Ev (fun k => tollhouselaw14_wakes.f k) true := Ev.of (fun k => tollhouselaw14_wakes.mono k) tollhouselaw14_wakes.told

/-! ### what matches -/
theorem refMatch_l0 (ms : List ByteArray) (m : ByteArray) (b : Bool) (h : ByteArray) (lo hi : Int) (hl : ms.length ≤ 1073741824) : ∀ (d i : Nat), ms.length - i = d → i ≤ ms.length → Ev (fun k => tollhouseref14_Matches.l0 k m (i : Int) b h lo hi ms) (((ms.drop i).any fun x => x.toList == m.toList) || ms.isEmpty) := by
  intro d
  induction d with
  | zero =>
    intro i hd hi2
    rw [List.drop_eq_nil_of_le (by omega), List.any_nil, Bool.false_or]
    refine Ev.step (f := fun _ => some ((ms.length : Int) == 0)) (fun k => by rw [tollhouseref14_Matches.l0, if_neg (by omega)]) ?_
    have e : ((ms.length : Int) == 0) = ms.isEmpty := by cases ms <;> simp; omega
    rw [e]; exact Ev.now _
  | succ d ih =>
    intro i hd hi2
    have hlt : i < ms.length := by omega
    have hr : rdOf ByteArray.empty ms (i : Int) = ms[i] := by unfold rdOf; rw [Int.toNat_natCast, List.getD_eq_getElem?_getD, List.getElem?_eq_getElem hlt]; rfl
    rw [List.drop_eq_getElem_cons hlt, List.any_cons]
    by_cases he : (ms[i]).toList = m.toList
    · rw [show ((ms[i]).toList == m.toList) = true by simpa using he, Bool.true_or, Bool.true_or]
      exact Ev.step (f := fun _ => some true) (fun k => by rw [tollhouseref14_Matches.l0, if_pos (by omega), if_pos (by omega), hr, if_pos he]) (Ev.now _)
    · rw [show ((ms[i]).toList == m.toList) = false by simpa using he, Bool.false_or]
      exact Ev.step (f := fun k => tollhouseref14_Matches.l0 k m ((i + 1 : Nat) : Int) b h lo hi ms) (fun k => by rw [tollhouseref14_Matches.l0, if_pos (by omega), if_pos (by omega), hr, if_neg he, w64n i (by omega)]) (ih (i + 1) (by omega) (by omega))
theorem refMatch_j3 (ms : List ByteArray) (m : ByteArray) (b : Bool) (h : ByteArray) (lo hi : Int) (hl : ms.length ≤ 1073741824) (x : Bool) : Ev (fun k => tollhouseref14_Matches.j3 k m x b h lo hi ms) (x && (ms.isEmpty || ms.any fun x => x.toList == m.toList)) := by
  cases x with
  | true =>
    rw [Bool.true_and, Bool.or_comm]
    have := refMatch_l0 ms m b h lo hi hl ms.length 0 (by omega) (Nat.zero_le _)
    rw [List.drop_zero] at this
    exact Ev.step (f := fun k => tollhouseref14_Matches.l0 k m ((0 : Nat) : Int) b h lo hi ms) (fun k => by rw [tollhouseref14_Matches.j3, if_pos rfl]; rfl) this
  | false => exact Ev.step (f := fun _ => some false) (fun k => by rw [tollhouseref14_Matches.j3, if_neg (by decide)]) (Ev.now _)
theorem head_mk (h : U8s) (c : UInt8) (t : U8s) (e : h = c :: t) : bt (mkB h) 0 = (c.toNat : Int) := by subst e; exact bt_mk (c :: t) 0 (by simp)
theorem c46 (c : UInt8) : ((c.toNat : Nat) : Int) = 46 ↔ c = 46 := ⟨fun e => UInt8.toNat_inj.1 (by have : ((c.toNat : Nat) : Int) = ((46 : UInt8).toNat : Int) := e; omega), fun e => by rw [e]; rfl⟩
theorem refMatch_j1 (h host : U8s) (ms : List ByteArray) (m : ByteArray) (b : Bool) (lo hi : Int) (h1 : h.length ≤ 1073741824) (h2 : host.length ≤ 1073741824) (hl : ms.length ≤ 1073741824) (x : Bool) :
    Ev (fun k => tollhouseref14_Matches.j1 k (mkB host) m x b (mkB h) lo hi ms) ((x || (decide (h.head? = some 46) && (decide (h.length < host.length) && (host.drop (host.length - h.length) == h)))) && (ms.isEmpty || ms.any fun x => x.toList == m.toList)) := by
  have j2 : ∀ y : Bool, Ev (fun k => tollhouseref14_Matches.j2 k m x y b (mkB h) lo hi ms) ((x || y) && (ms.isEmpty || ms.any fun x => x.toList == m.toList)) := by
    intro y
    cases y with
    | true => rw [Bool.or_true]; exact Ev.step (fun k => by rw [tollhouseref14_Matches.j2, if_pos rfl]) (refMatch_j3 ms m b (mkB h) lo hi hl true)
    | false => rw [Bool.or_false]; exact Ev.step (fun k => by rw [tollhouseref14_Matches.j2, if_neg (by decide)]) (refMatch_j3 ms m b (mkB h) lo hi hl x)
  cases hh : h with
  | nil =>
    subst hh
    have := j2 false
    exact Ev.step (fun k => by rw [tollhouseref14_Matches.j1, mkB_size, if_neg (by simp)]) this
  | cons c t =>
    rw [← hh]
    have hb := head_mk h c t hh
    have hlen : 0 < h.length := by rw [hh]; simp
    by_cases e46 : c = 46
    · have hd : h.head? = some 46 := by rw [hh, e46]; rfl
      rw [decide_eq_true hd, Bool.true_and]
      by_cases hn : h.length < host.length
      · have ew : wrap64 ((host.length : Int) - (h.length : Int)) = ((host.length - h.length : Nat) : Int) := by unfold wrap64; omega
        rw [decide_eq_true hn, Bool.true_and]
        refine Ev.step (fun k => ?_) (j2 (host.drop (host.length - h.length) == h))
        rw [tollhouseref14_Matches.j1, mkB_size, mkB_size, if_pos (by omega), if_pos (by omega), hb, if_pos ((c46 c).2 e46), ew, if_pos (by omega), if_pos (by omega), if_pos (by omega), Int.toNat_natCast, ext_mk, mkB_toList, mkB_toList, List.take_of_length_le (Nat.le_refl _)]
      · rw [decide_eq_false hn, Bool.false_and]
        refine Ev.step (fun k => ?_) (j2 false)
        rw [tollhouseref14_Matches.j1, mkB_size, mkB_size, if_pos (by omega), if_pos (by omega), hb, if_pos ((c46 c).2 e46), if_neg (by unfold wrap64; omega)]
    · have hd : ¬ h.head? = some 46 := by rw [hh]; simpa using e46
      rw [decide_eq_false hd, Bool.false_and]
      refine Ev.step (fun k => ?_) (j2 false)
      rw [tollhouseref14_Matches.j1, mkB_size, if_pos (by omega), if_pos (by omega), hb, if_neg (fun e => e46 ((c46 c).1 e))]
theorem refMatch_ok (b : Bool) (h : U8s) (lo hi : Int) (ms : List ByteArray) (host : U8s) (port : Int) (m : ByteArray) (h1 : h.length ≤ 1073741824) (h2 : host.length ≤ 1073741824) (hl : ms.length ≤ 1073741824) : Ev (fun k => tollhouseref14_Matches.f k b (mkB h) lo hi ms (mkB host) port m) (matchB h lo hi ms host port m) := by
  have bad : Ev (fun k => tollhouseref14_Matches.j0 k (mkB host) m true b (mkB h) lo hi ms) false := Ev.step (f := fun _ => some false) (fun k => by rw [tollhouseref14_Matches.j0, if_pos rfl]) (Ev.now _)
  have good : Ev (fun k => tollhouseref14_Matches.j0 k (mkB host) m false b (mkB h) lo hi ms) (ofL h host && (ms.isEmpty || ms.any fun x => x.toList == m.toList)) := by
    have key : ∀ x : Bool, (x || (decide (h.head? = some 46) && (decide (h.length < host.length) && (host.drop (host.length - h.length) == h)))) = ofL h host → Ev (fun k => tollhouseref14_Matches.j1 k (mkB host) m x b (mkB h) lo hi ms) (ofL h host && (ms.isEmpty || ms.any fun x => x.toList == m.toList)) := by
      intro x e
      have := refMatch_j1 h host ms m b lo hi h1 h2 hl x
      rwa [e] at this
    by_cases hs : h = [42]
    · have e : ofL h host = true := by unfold ofL; rw [if_pos hs]
      refine Ev.step (fun k => ?_) (key true (by rw [e, Bool.true_or]))
      rw [tollhouseref14_Matches.j0, if_neg (by decide), mkB_toList, if_pos hs]
    · by_cases hq : h = host
      · cases hh : host with
        | nil =>
          subst hh
          subst hq
          have kk := key (!false) rfl
          exact Ev.step (fun k => by rw [tollhouseref14_Matches.j0, if_neg (by decide), mkB_toList, if_neg hs, if_pos rfl, mkB_size, if_neg (by simp)]) kk
        | cons c t =>
          have hb := head_mk host c t hh
          rw [← hh]
          refine Ev.step (fun k => ?_) (key (!((c.toNat : Int) == 46)) ?_)
          · rw [tollhouseref14_Matches.j0, if_neg (by decide), mkB_toList, if_neg hs, mkB_toList, if_pos hq, mkB_size, if_pos (by rw [hh]; simp only [List.length_cons]; omega), if_pos (by rw [hh]; simp only [List.length_cons]; omega), hb]
          · unfold ofL
            rw [if_neg hs, hq]
            by_cases e46 : c = 46
            · have hd : host.head? = some 46 := by rw [hh, e46]; rfl
              rw [if_pos hd, decide_eq_true hd, show (((c.toNat : Nat) : Int) == 46) = true by simpa using (c46 c).2 e46]
              simp
            · have hd : ¬ host.head? = some 46 := by rw [hh]; simpa using e46
              rw [if_neg hd, decide_eq_false hd, show (((c.toNat : Nat) : Int) == 46) = false by simpa using fun e => e46 ((c46 c).1 e)]
              simp
      · refine Ev.step (fun k => ?_) (key false ?_)
        · rw [tollhouseref14_Matches.j0, if_neg (by decide), mkB_toList, if_neg hs, mkB_toList, if_neg hq]
        · unfold ofL
          rw [if_neg hs, Bool.false_or]
          by_cases hd : h.head? = some 46
          · rw [if_pos hd, decide_eq_true hd, Bool.true_and]
          · rw [if_neg hd, decide_eq_false hd, Bool.false_and]
            symm
            simpa using hq
  unfold tollhouseref14_Matches.f matchB
  by_cases e1 : port < lo
  · rw [decide_eq_false (show ¬ lo ≤ port by omega), Bool.and_false, Bool.false_and, Bool.false_and]
    exact Ev.congr (fun k => if_pos e1) bad
  · rw [decide_eq_true (show lo ≤ port by omega), Bool.and_true]
    refine Ev.congr (fun k => if_neg e1) ?_
    by_cases e2 : port ≤ hi
    · rw [decide_eq_true e2, Bool.and_true, show decide (port > hi) = false by simp; omega]
      exact good
    · rw [decide_eq_false e2, Bool.and_false, Bool.false_and, show decide (port > hi) = true by simp; omega]
      exact bad

/-! ### rules -/
def R2 (x : S25) : Prop := bulkR x ≤ 1048576
theorem bulkSs_each : ∀ (l : List ByteArray) (x : ByteArray), x ∈ l → x.size ≤ bulkSs l
  | [], x, h => by simp at h
  | y :: r, x, h => by
    unfold bulkSs
    simp only [List.map_cons, List.sum_cons]
    rcases List.mem_cons.1 h with rfl | h
    · omega
    · have := bulkSs_each r x h
      unfold bulkSs at this
      omega
theorem bulkSs_len : ∀ l : List ByteArray, l.length ≤ bulkSs l
  | [] => Nat.zero_le _
  | x :: r => by
    have := bulkSs_len r
    unfold bulkSs at this ⊢
    simp only [List.length_cons, List.map_cons, List.sum_cons]
    omega
theorem R2.host {x : S25} (h : R2 x) : x.f1.data.toList.length ≤ 1048576 := by
  have e : x.f1.data.toList.length = x.f1.size := by rw [Array.length_toList]; rfl
  unfold R2 bulkR at h; omega
theorem R2.ms {x : S25} (h : R2 x) : x.f4.length ≤ 1048576 := by have := bulkSs_len x.f4; unfold R2 bulkR at h; omega
theorem R2.each {x : S25} (h : R2 x) (m : ByteArray) (hm : m ∈ x.f4) : m.size ≤ 1048576 := by have := bulkSs_each x.f4 m hm; unfold R2 bulkR at h; omega
def matchR (x : S25) (host : U8s) (port : Int) (m : ByteArray) : Bool := matchB x.f1.data.toList x.f2 x.f3 x.f4 host port m
theorem match_codeR (x : S25) (hx : R2 x) (host : U8s) (port : Int) (m : ByteArray) (h2 : host.length ≤ 1048576) : Ev (fun k => acl_Matches.f k x.f0 x.f1 x.f2 x.f3 x.f4 (mkB host) port m) (matchR x host port m) := by
  have a1 := hx.host; have a2 := hx.ms
  have := matches_ok x.f0 x.f1.data.toList x.f2 x.f3 x.f4 host port m (by omega) (by omega) (by omega)
  rw [mkB_data] at this
  exact this
theorem match_refR (x : S25) (hx : R2 x) (host : U8s) (port : Int) (m : ByteArray) (h2 : host.length ≤ 1048576) : Ev (fun k => tollhouseref14_Matches.f k x.f0 x.f1 x.f2 x.f3 x.f4 (mkB host) port m) (matchR x host port m) := by
  have a1 := hx.host; have a2 := hx.ms
  have := refMatch_ok x.f0 x.f1.data.toList x.f2 x.f3 x.f4 host port m (by omega) (by omega) (by omega)
  rw [mkB_data] at this
  exact this
/-- What rules admit: the first that matches says it. -/
def admB : List S25 → U8s → Int → ByteArray → Bool
  | [], _, _, _ => false
  | x :: r, host, port, m => if matchR x host port m = true then x.f0 else admB r host port m
theorem rdT_at (l : List S25) (i : Nat) (h : i < l.length) : rd_T25 l (i : Int) = l[i]'h := by
  unfold rd_T25
  rw [Int.toNat_natCast, List.getD_eq_getElem?_getD, List.getElem?_eq_getElem h]; rfl
theorem admits_l0 (l : List S25) (hl : l.length ≤ 1048576) (hR : ∀ x ∈ l, R2 x) (host : U8s) (port : Int) (m : ByteArray) (h2 : host.length ≤ 1048576) : ∀ (d i : Nat), l.length - i = d → i ≤ l.length →
    Ev (fun k => acl_Admits.l0 k (mkB host) port m false l (l.length : Int) (i : Int)) (admB (l.drop i) host port m) ∧ Ev (fun k => tollhouseref14_Admits.l0 k l (mkB host) port m (i : Int)) (admB (l.drop i) host port m) := by
  intro d
  induction d with
  | zero =>
    intro i hd hi
    rw [List.drop_eq_nil_of_le (by omega), admB]
    exact ⟨Ev.step (f := fun _ => some false) (fun k => by rw [acl_Admits.l0, if_neg (by omega)]) (Ev.now _), Ev.step (f := fun _ => some false) (fun k => by rw [tollhouseref14_Admits.l0, if_neg (by omega)]) (Ev.now _)⟩
  | succ d ih =>
    intro i hd hi
    have hlt : i < l.length := by omega
    have hr := rdT_at l i hlt
    have hx := hR _ (List.getElem_mem hlt)
    obtain ⟨i1, i2⟩ := ih (i + 1) (by omega) (by omega)
    rw [List.drop_eq_getElem_cons hlt, admB]
    generalize l[i] = x at hr hx ⊢
    constructor
    · refine Ev.step (f := fun k => (acl_Matches.f k x.f0 x.f1 x.f2 x.f3 x.f4 (mkB host) port m).bind fun t122 => (if (t122 == true) = true then some x.f0 else acl_Admits.l0 k (mkB host) port m false l (l.length : Int) ((i + 1 : Nat) : Int))) (fun k => by rw [acl_Admits.l0, if_pos (by omega), if_pos (by omega), if_pos (by omega), hr, w64n i (by omega)]) (Ev.bind (match_codeR x hx host port m h2) ?_)
      cases matchR x host port m with
      | true => exact Ev.congr (fun k => if_pos rfl) (by simp only [if_true]; exact Ev.now _)
      | false => exact Ev.congr (fun k => if_neg (by decide)) (by simp only [Bool.false_eq_true, if_false]; exact i1)
    · refine Ev.step (f := fun k => (tollhouseref14_Matches.f k x.f0 x.f1 x.f2 x.f3 x.f4 (mkB host) port m).bind fun t196 => (if t196 = true then some x.f0 else tollhouseref14_Admits.l0 k l (mkB host) port m ((i + 1 : Nat) : Int))) (fun k => by rw [tollhouseref14_Admits.l0, if_pos (by omega), if_pos (by omega), hr, w64n i (by omega)]) (Ev.bind (match_refR x hx host port m h2) ?_)
      cases matchR x host port m with
      | true => exact Ev.congr (fun k => if_pos rfl) (by simp only [if_true]; exact Ev.now _)
      | false => exact Ev.congr (fun k => if_neg (by decide)) (by simp only [Bool.false_eq_true, if_false]; exact i2)

/-! ### may a rule be? -/
def trimDot (h : U8s) : U8s := if h.head? = some 46 then h.tail else h
def portsB (lo hi : Int) : Bool := decide (1 ≤ lo) && (decide (lo ≤ hi) && decide (hi ≤ 65535))
def mayB (x : S25) : Bool := (decide (x.f1.data.toList = [42]) || namedL (trimDot x.f1.data.toList)) && (portsB x.f2 x.f3 && (decide (x.f4.length ≤ 8) && x.f4.all tokenS))
theorem named_at (s : U8s) (ls : List U8s) (hne : ls ≠ []) (hl : s.length ≤ 1073741824) (hs : ∀ x ∈ ls, x.length ≤ 1073741824) (hn : ls.length ≤ 1073741824) : ∀ (d i : Nat), ls.length - i = d → i ≤ ls.length → ∀ k, d < k →
    uri_Named.l0 k (mkB s) (ls.map mkB) (ls.map mkB) ((ls.map mkB).length : Int) (i : Int) = some ((ls.drop i).all labOk && (decide (s.length ≤ 64) && (!numL (lastL ls) || quadL ls))) := by
  obtain ⟨w1, w2⟩ := last_ok ls hne hn
  have hml : (ls.map mkB).length = ls.length := List.length_map ..
  have h0 : 0 < ls.length := List.length_pos_iff.2 hne
  intro d
  induction d with
  | zero =>
    intro i hd hi k hk
    obtain ⟨k, rfl⟩ : ∃ j, k = j + 1 := ⟨k - 1, by omega⟩
    rw [List.drop_eq_nil_of_le (by omega), List.all_nil, Bool.true_and]
    by_cases h64 : s.length ≤ 64
    · rw [uri_Named.l0, if_neg (by omega), mkB_size, if_pos (by omega), w1, if_pos (by omega), if_pos (by omega), w2, numeric_ok _ (hs _ (lastL_mem ls hne)), Option.bind_some, quad_ok ls hs, decide_eq_true h64, Bool.true_and]
      cases numL (lastL ls) with
      | true => rfl
      | false => rfl
    · rw [decide_eq_false h64, Bool.false_and, uri_Named.l0, if_neg (by omega), mkB_size, if_neg (by omega)]
  | succ d ih =>
    intro i hd hi k hk
    obtain ⟨k, rfl⟩ : ∃ j, k = j + 1 := ⟨k - 1, by omega⟩
    have hlt : i < ls.length := by omega
    have hx := hs _ (List.getElem_mem hlt)
    have hrd := rd_map ls i hlt
    have ih' := ih (i + 1) (by omega) (by omega) k (by omega)
    rw [List.drop_eq_getElem_cons hlt, List.all_cons]
    generalize ls[i] = x at hrd hx ⊢
    have hal : uri_all_uri_Named_1.f (mkB x) = some (x.all fun b => labelI (b.toNat : Int)) := by
      unfold uri_all_uri_Named_1.f
      rw [if_pos (by rw [mkB_size]; omega), all_mk]
    by_cases he : x = []
    · subst he
      rw [show labOk [] = false from rfl, Bool.false_and, Bool.false_and, uri_Named.l0, if_pos (by omega), if_pos (by omega), if_pos (by omega), hrd, mkB_toList, if_pos rfl]
    · have hlab : labOk x = x.all fun b => labelI (b.toNat : Int) := by
        unfold labOk
        cases x with
        | nil => exact absurd rfl he
        | cons _ _ => rfl
      rw [hlab]
      cases hq : (x.all fun b => labelI (b.toNat : Int)) with
      | true =>
        rw [hq] at hal
        rw [Bool.true_and, uri_Named.l0, if_pos (by omega), if_pos (by omega), if_pos (by omega), hrd, mkB_toList, if_neg he, hal, Option.bind_some, if_pos rfl, w64n i (by omega), ih']
      | false =>
        rw [hq] at hal
        rw [Bool.false_and, Bool.false_and, uri_Named.l0, if_pos (by omega), if_pos (by omega), if_pos (by omega), hrd, mkB_toList, if_neg he, hal, Option.bind_some, if_neg (by decide)]
theorem named_k (s : U8s) (hl : s.length ≤ 1048576) (k : Nat) (hk : 1048578 ≤ k) : uri_Named.f k (mkB s) = some (namedL s) := by
  have e : spnB ((⟨#[46]⟩ : ByteArray).get! 0) (mkB s).data.toList.length (mkB s) = (labsL s).map mkB := rfl
  have := spn_len_le 46 s.length s
  have hlen : (labsL s).length ≤ s.length + 1 := this
  have h := named_at s (labsL s) (labsL_ne s) (by omega) (fun x hx => by have := labsL_le s x hx; omega) (by omega) (labsL s).length 0 (by omega) (Nat.zero_le _) k (by omega)
  rw [List.drop_zero] at h
  unfold uri_Named.f strings_Split.f
  rw [if_pos ⟨by rw [mkB_size]; omega, rfl⟩, Option.bind_some, e]
  exact h
theorem trimP_ok (h : U8s) (hl : h.length ≤ 1048576) : strings_TrimPrefix.f (mkB h) (⟨#[46]⟩ : ByteArray) = some (mkB (trimDot h)) := by
  have hp := hasPrefix_dot h (by omega)
  unfold strings_HasPrefix.f at hp
  have hp2 : stringslite_HasPrefix.f (mkB h) (⟨#[46]⟩ : ByteArray) = some (h.head? == some 46) := by
    cases hq : stringslite_HasPrefix.f (mkB h) (⟨#[46]⟩ : ByteArray) with
    | none => rw [hq] at hp; exact absurd hp (by simp)
    | some v => rw [hq, Option.bind_some] at hp; exact hp
  unfold strings_TrimPrefix.f stringslite_TrimPrefix.f trimDot
  have e1 : (⟨#[46]⟩ : ByteArray).size = 1 := rfl
  rw [hp2, Option.bind_some]
  by_cases hd : h.head? = some 46
  · have hlen : 0 < h.length := by cases h with
      | nil => simp at hd
      | cons _ _ => simp
    rw [if_pos (by simpa using hd), if_pos hd, e1, mkB_size, if_pos (by decide), if_pos (by omega), Option.bind_some, show ((((1 : Nat) : Int) : Int).toNat) = 1 from rfl, ext_mk, List.take_of_length_le (Nat.le_refl _), List.drop_one]
  · rw [if_neg (by simpa using hd), if_neg hd, Option.bind_some]
theorem trimDot_len (h : U8s) : (trimDot h).length ≤ h.length := by
  unfold trimDot
  split
  · rw [List.length_tail]; omega
  · exact Nat.le_refl _
theorem noTok_ok (x : S25) (hx : R2 x) : slices_ContainsFunc_acl_May_1.f x.f4 = some (!x.f4.all tokenS) := by
  unfold slices_ContainsFunc_acl_May_1.f
  rw [if_pos (by
    rw [List.all_eq_true]
    intro m hm
    rw [decide_eq_true_eq]
    have := hx.each m hm; omega)]
  congr 1
  have : ∀ l : List ByteArray, (l.any fun x => !tokenS x) = !l.all tokenS := by
    intro l
    induction l with
    | nil => rfl
    | cons a t ih => simp only [List.any_cons, List.all_cons, ih, Bool.not_and]
  exact this _
theorem may_k (x : S25) (hx : R2 x) (k : Nat) (hk : 1048578 ≤ k) : acl_May.f k x.f0 x.f1 x.f2 x.f3 x.f4 = some (mayB x) := by
  have a1 := hx.host
  have hno := noTok_ok x hx
  unfold acl_May.f mayB portsB
  obtain ⟨h, hh⟩ := mkOf x.f1
  have hdat : x.f1.data.toList = h := by rw [hh, mkB_l]
  rw [hdat] at a1 ⊢
  rw [hh, mkB_toList]
  have tail : (if x.f2 ≥ 1 then (if x.f2 ≤ x.f3 then (if x.f3 ≤ 65535 then (if (x.f4.length : Int) ≤ 8 then ((slices_ContainsFunc_acl_May_1.f x.f4).bind fun t132 => (some (!t132))) else (some false)) else (some false)) else (some false)) else (some false)) = some ((decide (1 ≤ x.f2) && (decide (x.f2 ≤ x.f3) && decide (x.f3 ≤ 65535))) && (decide (x.f4.length ≤ 8) && x.f4.all tokenS)) := by
    rw [hno]
    by_cases g1 : 1 ≤ x.f2
    · rw [if_pos (by omega), decide_eq_true g1]
      by_cases g2 : x.f2 ≤ x.f3
      · rw [if_pos g2, decide_eq_true g2]
        by_cases g3 : x.f3 ≤ 65535
        · rw [if_pos g3, decide_eq_true g3]
          by_cases g4 : x.f4.length ≤ 8
          · rw [if_pos (by omega), decide_eq_true g4, Option.bind_some]; simp
          · rw [if_neg (by omega), decide_eq_false g4]; rfl
        · rw [if_neg g3, decide_eq_false g3]; simp
      · rw [if_neg g2, decide_eq_false g2]; simp
    · rw [if_neg (by omega), decide_eq_false g1]; simp
  by_cases hs : h = [42]
  · rw [if_pos hs, decide_eq_true hs, Bool.true_or, Bool.true_and]
    exact tail
  · have ht := trimDot_len h
    rw [if_neg hs, decide_eq_false hs, Bool.false_or, trimP_ok h a1, Option.bind_some, named_k (trimDot h) (by omega) k hk, Option.bind_some]
    cases namedL (trimDot h) with
    | true =>
      rw [Bool.true_and, ← tail]
      simp only [if_true]
    | false =>
      rw [Bool.false_and]
      simp only [Bool.false_eq_true, if_false]
      repeat' split
      all_goals rfl
theorem mayO_ok (x : S25) (hx : R2 x) : mayO x = some (mayB x) := may_k x hx 2000000 (by omega)
theorem tokenS_B (s : ByteArray) : tokenS s = tokenB s := rfl
theorem refMay_l0 (x : S25) (hx : R2 x) : ∀ (d i : Nat), x.f4.length - i = d → i ≤ x.f4.length → Ev (fun k => tollhouseref14_May.l0 k (i : Int) x.f0 x.f1 x.f2 x.f3 x.f4) ((x.f4.drop i).all tokenS) := by
  have a2 := hx.ms
  intro d
  induction d with
  | zero =>
    intro i hd hi
    rw [List.drop_eq_nil_of_le (by omega), List.all_nil]
    exact Ev.step (f := fun _ => some true) (fun k => by rw [tollhouseref14_May.l0, if_neg (by omega)]) (Ev.now _)
  | succ d ih =>
    intro i hd hi
    have hlt : i < x.f4.length := by omega
    have hr : rdOf ByteArray.empty x.f4 (i : Int) = x.f4[i] := by unfold rdOf; rw [Int.toNat_natCast, List.getD_eq_getElem?_getD, List.getElem?_eq_getElem hlt]; rfl
    have hsz := hx.each _ (List.getElem_mem hlt)
    rw [List.drop_eq_getElem_cons hlt, List.all_cons]
    refine Ev.step (f := fun k => (tollhouseref02_Token.f k x.f4[i]).bind fun t190 => (if t190 = true then tollhouseref14_May.l0 k ((i + 1 : Nat) : Int) x.f0 x.f1 x.f2 x.f3 x.f4 else some false)) (fun k => by rw [tollhouseref14_May.l0, if_pos (by omega), if_pos (by omega), hr, w64n i (by omega)]) (Ev.bind (refToken_ok x.f4[i] (by omega)) ?_)
    rw [tokenS_B]
    cases tokenB x.f4[i] with
    | true => rw [Bool.true_and]; exact Ev.congr (fun k => if_pos rfl) (ih (i + 1) (by omega) (by omega))
    | false => rw [Bool.false_and]; exact Ev.congr (fun k => if_neg (by decide)) (Ev.now _)
theorem refMay_j2 (x : S25) (hx : R2 x) (y : Bool) : Ev (fun k => tollhouseref14_May.j2 k y x.f0 x.f1 x.f2 x.f3 x.f4) (!y && (portsB x.f2 x.f3 && (decide (x.f4.length ≤ 8) && x.f4.all tokenS))) := by
  have j3 : ∀ z : Bool, Ev (fun k => tollhouseref14_May.j3 k z x.f0 x.f1 x.f2 x.f3 x.f4) (!z && x.f4.all tokenS) := by
    intro z
    cases z with
    | true => exact Ev.step (f := fun _ => some false) (fun k => by rw [tollhouseref14_May.j3, if_pos rfl]) (Ev.now _)
    | false =>
      have := refMay_l0 x hx x.f4.length 0 (by omega) (Nat.zero_le _)
      rw [List.drop_zero] at this
      exact Ev.step (f := fun k => tollhouseref14_May.l0 k ((0 : Nat) : Int) x.f0 x.f1 x.f2 x.f3 x.f4) (fun k => by rw [tollhouseref14_May.j3, if_neg (by decide)]; rfl) this
  cases y with
  | true => exact Ev.step (f := fun _ => some false) (fun k => by rw [tollhouseref14_May.j2, if_pos rfl]) (Ev.now _)
  | false =>
    rw [Bool.not_false, Bool.true_and]
    unfold portsB
    by_cases g1 : 1 ≤ x.f2
    · by_cases g3 : x.f3 ≤ 65535
      · by_cases g2 : x.f2 ≤ x.f3
        · rw [decide_eq_true g1, decide_eq_true g2, decide_eq_true g3, Bool.true_and, Bool.true_and, Bool.true_and]
          have e : decide (x.f4.length ≤ 8) = !decide ((x.f4.length : Int) > 8) := by rw [Bool.eq_iff_iff]; simp; omega
          rw [e]
          exact Ev.step (fun k => by rw [tollhouseref14_May.j2, if_neg (by decide), if_neg (by omega), if_neg (by omega), if_neg (by omega)]) (j3 _)
        · rw [decide_eq_false g2, Bool.false_and, Bool.and_false, Bool.false_and]
          exact Ev.step (fun k => by rw [tollhouseref14_May.j2, if_neg (by decide), if_neg (by omega), if_neg (by omega), if_pos (by omega)]) (j3 true)
      · rw [decide_eq_false g3, Bool.and_false, Bool.and_false, Bool.false_and]
        exact Ev.step (fun k => by rw [tollhouseref14_May.j2, if_neg (by decide), if_neg (by omega), if_pos (by omega)]) (j3 true)
    · rw [decide_eq_false g1, Bool.false_and, Bool.false_and]
      exact Ev.step (fun k => by rw [tollhouseref14_May.j2, if_neg (by decide), if_pos (by omega)]) (j3 true)
theorem named_dot : namedL [46] = false ∧ namedL [] = false := by decide +kernel
theorem refMay_ok (x : S25) (hx : R2 x) : Ev (fun k => tollhouseref14_May.f k x.f0 x.f1 x.f2 x.f3 x.f4) (mayB x) := by
  have a1 := hx.host
  obtain ⟨h, hh⟩ := mkOf x.f1
  have hdat : x.f1.data.toList = h := by rw [hh, mkB_l]
  rw [hdat] at a1
  have j1 : ∀ nm : U8s, nm.length ≤ 1048576 → namedL nm = namedL (trimDot h) → Ev (fun k => tollhouseref14_May.j1 k (mkB nm) x.f0 x.f1 x.f2 x.f3 x.f4) (mayB x) := by
    intro nm hnm he
    unfold mayB
    rw [hdat]
    by_cases hs : h = [42]
    · rw [decide_eq_true hs, Bool.true_or]
      have := refMay_j2 x hx false
      rw [Bool.not_false] at this
      exact Ev.step (fun k => by rw [tollhouseref14_May.j1, hh, mkB_toList, if_pos hs]) (by rw [hh] at this; exact this)
    · rw [decide_eq_false hs, Bool.false_or, ← he]
      have h3 := refMay_j2 x hx (!namedL nm)
      rw [Bool.not_not] at h3
      refine Ev.step (f := fun k => (tollhouseref10_Named.f k (mkB nm)).bind fun t188 => tollhouseref14_May.j2 k (!t188) x.f0 x.f1 x.f2 x.f3 x.f4) (fun k => by rw [tollhouseref14_May.j1]; rw [if_neg (by rw [hh, mkB_toList]; exact hs)]) (Ev.bind (namedRef_ok nm hnm) h3)
  have j0 : ∀ y : Bool, y = decide (1 < h.length ∧ h.head? = some 46) → Ev (fun k => tollhouseref14_May.j0 k x.f1 y x.f0 x.f1 x.f2 x.f3 x.f4) (mayB x) := by
    intro y hy
    by_cases hc : 1 < h.length ∧ h.head? = some 46
    · rw [decide_eq_true hc] at hy
      subst hy
      have ht : trimDot h = h.drop 1 := by unfold trimDot; rw [if_pos hc.2, List.drop_one]
      refine Ev.step (fun k => ?_) (j1 (h.drop 1) (by rw [List.length_drop]; omega) (by rw [ht]))
      rw [tollhouseref14_May.j0, if_pos rfl]
      have e : x.f1.extract 1 x.f1.size = mkB (h.drop 1) := by rw [hh, mkB_size, ext_mk, List.take_of_length_le (Nat.le_refl _)]
      rw [if_pos (by rw [hh, mkB_size]; omega), e]
    · rw [decide_eq_false hc] at hy
      subst hy
      have he : namedL h = namedL (trimDot h) := by
        unfold trimDot
        by_cases hd : h.head? = some 46
        · rw [if_pos hd]
          cases h with
          | nil => simp at hd
          | cons c t =>
            have hc46 : c = 46 := by simpa using hd
            have ht : t = [] := by
              cases t with
              | nil => rfl
              | cons a b => exact absurd ⟨by simp, hd⟩ hc
            subst hc46 ht
            exact named_dot.1.trans named_dot.2.symm
        · rw [if_neg hd]
      have := j1 h a1 he
      exact Ev.step (fun k => by rw [tollhouseref14_May.j0, if_neg (by decide)]) (by rw [← hh] at this; exact this)
  unfold tollhouseref14_May.f
  by_cases h1 : 1 < h.length
  · have hne : ∃ c t, h = c :: t := by
      cases h with
      | nil => simp at h1
      | cons c t => exact ⟨c, t, rfl⟩
    obtain ⟨c, t, hct⟩ := hne
    have hb := head_mk h c t hct
    rw [← hh] at hb
    have hsz : x.f1.size = h.length := by rw [hh, mkB_size]
    refine Ev.congr (fun k => by rw [if_pos (by omega), if_pos (by omega), hb]) (j0 _ ?_)
    rw [Bool.eq_iff_iff, beq_iff_eq, decide_eq_true_eq, c46]
    constructor
    · intro e; exact ⟨h1, by rw [hct, e]; rfl⟩
    · rintro ⟨_, e⟩; rw [hct] at e; simpa using e
  · have hsz : x.f1.size = h.length := by rw [hh, mkB_size]
    refine Ev.congr (fun k => by rw [if_neg (by omega)]) (j0 _ ?_)
    rw [decide_eq_false (fun e => h1 e.1)]
theorem all_code (l : List S25) (hl : l.length ≤ 1048576) (hR : ∀ x ∈ l, R2 x) : acl_All.f l = some (decide (l.length ≤ 16) && l.all mayB) := by
  unfold acl_All.f
  by_cases h16 : l.length ≤ 16
  · rw [if_pos (by omega), decide_eq_true h16, Bool.true_and]
    unfold slices_ContainsFunc_acl_All_1.f
    rw [if_pos (by
      rw [List.all_eq_true]
      intro x hx
      rw [mayO_ok x (hR x hx)]; rfl), Option.bind_some]
    congr 1
    have : ∀ l : List S25, (∀ x ∈ l, R2 x) → (!(l.any fun x => !((mayO x).getD false))) = l.all mayB := by
      intro l
      induction l with
      | nil => intro _; rfl
      | cons a t ih =>
        intro h
        simp only [List.any_cons, List.all_cons, Bool.not_or, Bool.not_not]
        rw [ih (fun x hx => h x (List.mem_cons_of_mem _ hx)), mayO_ok a (h a (List.mem_cons_self ..))]; rfl
    exact this l hR
  · rw [if_neg (by omega), decide_eq_false h16, Bool.false_and]
theorem all_ref_l0 (l : List S25) (hl : l.length ≤ 1048576) (hR : ∀ x ∈ l, R2 x) : ∀ (d i : Nat), l.length - i = d → i ≤ l.length → Ev (fun k => tollhouseref14_All.l0 k l (i : Int)) ((l.drop i).all mayB && decide (l.length ≤ 16)) := by
  intro d
  induction d with
  | zero =>
    intro i hd hi
    rw [List.drop_eq_nil_of_le (by omega), List.all_nil, Bool.true_and]
    have e : decide (l.length ≤ 16) = decide ((l.length : Int) ≤ 16) := by congr 1; rw [eq_iff_iff]; omega
    rw [e]
    exact Ev.step (f := fun _ => some (decide ((l.length : Int) ≤ 16))) (fun k => by rw [tollhouseref14_All.l0, if_neg (by omega)]) (Ev.now _)
  | succ d ih =>
    intro i hd hi
    have hlt : i < l.length := by omega
    have hr := rdT_at l i hlt
    have hx := hR _ (List.getElem_mem hlt)
    rw [List.drop_eq_getElem_cons hlt, List.all_cons]
    generalize l[i] = x at hr hx ⊢
    refine Ev.step (f := fun k => (tollhouseref14_May.f k x.f0 x.f1 x.f2 x.f3 x.f4).bind fun t192 => (if t192 = true then tollhouseref14_All.l0 k l ((i + 1 : Nat) : Int) else some false)) (fun k => by rw [tollhouseref14_All.l0, if_pos (by omega), if_pos (by omega), hr, w64n i (by omega)]) (Ev.bind (refMay_ok x hx) ?_)
    cases mayB x with
    | true => rw [Bool.true_and]; exact Ev.congr (fun k => if_pos rfl) (ih (i + 1) (by omega) (by omega))
    | false => rw [Bool.false_and, Bool.false_and]; exact Ev.congr (fun k => if_neg (by decide)) (Ev.now _)
theorem AclRules_true (l : List S25) (r : S25) (host : ByteArray) (port : Int) (method : ByteArray) (hr : (∀ x ∈ l, bulkR x ≤ 1048576) ∧ l.length ≤ 1048576) (w2 : host.size ≤ 140737488351232) (w3 : (Lit.int .i64 port).wf = true) (w4 : method.size ≤ 140737488351232) (hB : bulkR r + host.size + method.size ≤ 1048576) : ∃ k, tollhouselaw14_AclRules.f k l r.f0 r.f1 r.f2 r.f3 r.f4 host port method = some true := by
  have hR : ∀ x ∈ l, R2 x := hr.1
  have hl := hr.2
  have h2 : R2 r := by unfold R2; omega
  obtain ⟨hst, rfl⟩ := mkOf host
  have hh : hst.length ≤ 1048576 := by rw [mkB_size] at hB; omega
  refine Ev.rounds (g := fun k => tollhouselaw14_AclRules.f k l r.f0 r.f1 r.f2 r.f3 r.f4 (mkB hst) port method) ?_
  unfold tollhouselaw14_AclRules.f
  have mayEv : Ev (fun k => acl_May.f k r.f0 r.f1 r.f2 r.f3 r.f4) (mayB r) := ⟨1048578, fun k hk => may_k r h2 k hk⟩
  refine Ev.bind mayEv (Ev.bind (refMay_ok r h2) (Ev.congr (fun k => if_pos (beq_self_eq_true _)) ?_))
  have hall := all_ref_l0 l hl hR l.length 0 (by omega) (Nat.zero_le _)
  rw [List.drop_zero, Bool.and_comm] at hall
  have hall2 : Ev (fun k => tollhouseref14_All.f k l) (decide (l.length ≤ 16) && l.all mayB) := hall
  refine Ev.congr (fun k => by rw [all_code l hl hR, Option.bind_some]) (Ev.bind hall2 (Ev.congr (fun k => if_pos (beq_self_eq_true _)) ?_))
  refine Ev.bind (match_codeR r h2 hst port method hh) (Ev.bind (match_refR r h2 hst port method hh) (Ev.congr (fun k => if_pos (beq_self_eq_true _)) ?_))
  obtain ⟨a1, a2⟩ := admits_l0 l hl hR hst port method hh l.length 0 (by omega) (Nat.zero_le _)
  rw [List.drop_zero] at a1 a2
  have b1 : Ev (fun k => acl_Admits.f k l (mkB hst) port method) (admB l hst port method) := a1
  have b2 : Ev (fun k => tollhouseref14_Admits.f k l (mkB hst) port method) (admB l hst port method) := a2
  refine Ev.bind b1 (Ev.bind b2 (Ev.congr (fun k => if_pos (beq_self_eq_true _)) (Ev.bind wakesEvR (Ev.now _))))
end Go.Proofs.YthfppglmjkjcoaaDoor.P
