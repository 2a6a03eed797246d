/- Rules, plain: what the code answers (from PAclRules, without what matches). -/
import Derived.Test.YtepljhleaohbcaaGreatDoorPNamedP
import Derived.Test.YtepljhleaohbcaaGreatDoorFOpenR
import Derived.Test.YtepljhleaohbcaaGreatDoorQaclAll
set_option linter.unusedVariables false
set_option linter.unusedSimpArgs false
namespace Go.Proofs.YtepljhleaohbcaaGreatDoor.P
open Go.RowKit Go.Proofs.YtepljhleaohbcaaGreatDoorW.PrintWords Go.Proofs.YtepljhleaohbcaaGreatDoorW.PrintLast Go.Proofs.YtepljhleaohbcaaGreatDoorW.PrintMore

theorem hasPrefix_dot (h : U8s) (hl : h.length ≤ 1073741824) : stringslite_HasPrefix.f (mkB h) (⟨#[46]⟩ : ByteArray) = some (h.head? == some 46) := by
  unfold stringslite_HasPrefix.f
  have e1 : (⟨#[46]⟩ : ByteArray).size = 1 := rfl
  have e2 : (⟨#[46]⟩ : ByteArray).toList = [46] := by decide +kernel
  rw [mkB_size, e1, e2]
  cases h with
  | nil => rfl
  | cons b t =>
    rw [if_pos (by simp only [List.length_cons]; omega), if_pos (by decide), if_pos (by simp only [List.length_cons]; omega)]
    congr 1
    rw [show ((((1 : Nat) : Int) : Int).toNat) = 1 from rfl, ext_mk, mkB_toList]
    simp
theorem head_mk (h : U8s) (c : UInt8) (t : U8s) (e : h = c :: t) : bt (mkB h) 0 = (c.toNat : Int) := by subst e; exact bt_mk (c :: t) 0 (by simp)
theorem c46 (c : UInt8) : ((c.toNat : Nat) : Int) = 46 ↔ c = 46 := ⟨fun e => UInt8.toNat_inj.1 (by have : ((c.toNat : Nat) : Int) = ((46 : UInt8).toNat : Int) := e; omega), fun e => by rw [e]; rfl⟩
/-! ### rules -/
def R2 (x : S46) : Prop := bulkR x ≤ 1048576
theorem bulkSs_each : ∀ (l : List ByteArray) (x : ByteArray), x ∈ l → x.size ≤ bulkSs l
  | [], x, h => by simp at h
  | y :: r, x, h => by
    unfold bulkSs
    simp only [List.map_cons, List.sum_cons]
    rcases List.mem_cons.1 h with rfl | h
    · omega
    · have := bulkSs_each r x h
      unfold bulkSs at this
      omega
theorem bulkSs_len : ∀ l : List ByteArray, l.length ≤ bulkSs l
  | [] => Nat.zero_le _
  | x :: r => by
    have := bulkSs_len r
    unfold bulkSs at this ⊢
    simp only [List.length_cons, List.map_cons, List.sum_cons]
    omega
theorem R2.host {x : S46} (h : R2 x) : x.f1.data.toList.length ≤ 1048576 := by
  have e : x.f1.data.toList.length = x.f1.size := by rw [Array.length_toList]; rfl
  unfold R2 bulkR at h; omega
theorem R2.ms {x : S46} (h : R2 x) : x.f4.length ≤ 1048576 := by have := bulkSs_len x.f4; unfold R2 bulkR at h; omega
theorem R2.each {x : S46} (h : R2 x) (m : ByteArray) (hm : m ∈ x.f4) : m.size ≤ 1048576 := by have := bulkSs_each x.f4 m hm; unfold R2 bulkR at h; omega
theorem rdT_at (l : List S46) (i : Nat) (h : i < l.length) : rd_T46 l (i : Int) = l[i]'h := by
  unfold rd_T46
  rw [Int.toNat_natCast, List.getD_eq_getElem?_getD, List.getElem?_eq_getElem h]; rfl
/-! ### may a rule be? -/
def trimDot (h : U8s) : U8s := if h.head? = some 46 then h.tail else h
def portsB (lo hi : Int) : Bool := decide (1 ≤ lo) && (decide (lo ≤ hi) && decide (hi ≤ 65535))
def mayB (x : S46) : Bool := (decide (x.f1.data.toList = [42]) || namedL (trimDot x.f1.data.toList)) && (portsB x.f2 x.f3 && (decide (x.f4.length ≤ 8) && x.f4.all tokenS))
theorem named_at (s : U8s) (ls : List U8s) (hne : ls ≠ []) (hl : s.length ≤ 1073741824) (hs : ∀ x ∈ ls, x.length ≤ 1073741824) (hn : ls.length ≤ 1073741824) : ∀ (d i : Nat), ls.length - i = d → i ≤ ls.length → ∀ k, d < k →
    uri_Named.l0 k (mkB s) (ls.map mkB) (ls.map mkB) ((ls.map mkB).length : Int) (i : Int) = some ((ls.drop i).all labOk && (decide (s.length ≤ 64) && (!numL (lastL ls) || quadL ls))) := by
  obtain ⟨w1, w2⟩ := last_ok ls hne hn
  have hml : (ls.map mkB).length = ls.length := List.length_map ..
  have h0 : 0 < ls.length := List.length_pos_iff.2 hne
  intro d
  induction d with
  | zero =>
    intro i hd hi k hk
    obtain ⟨k, rfl⟩ : ∃ j, k = j + 1 := ⟨k - 1, by omega⟩
    rw [List.drop_eq_nil_of_le (by omega), List.all_nil, Bool.true_and]
    by_cases h64 : s.length ≤ 64
    · rw [uri_Named.l0, if_neg (by omega), mkB_size, if_pos (by omega), w1, if_pos (by omega), if_pos (by omega), w2, numeric_ok _ (hs _ (lastL_mem ls hne)), Option.bind_some, quad_ok ls hs, decide_eq_true h64, Bool.true_and]
      cases numL (lastL ls) with
      | true => rfl
      | false => rfl
    · rw [decide_eq_false h64, Bool.false_and, uri_Named.l0, if_neg (by omega), mkB_size, if_neg (by omega)]
  | succ d ih =>
    intro i hd hi k hk
    obtain ⟨k, rfl⟩ : ∃ j, k = j + 1 := ⟨k - 1, by omega⟩
    have hlt : i < ls.length := by omega
    have hx := hs _ (List.getElem_mem hlt)
    have hrd := rd_map ls i hlt
    have ih' := ih (i + 1) (by omega) (by omega) k (by omega)
    rw [List.drop_eq_getElem_cons hlt, List.all_cons]
    generalize ls[i] = x at hrd hx ⊢
    have hal : uri_all_uri_Named_1.f (mkB x) = some (x.all fun b => labelI (b.toNat : Int)) := by
      unfold uri_all_uri_Named_1.f
      rw [if_pos (by rw [mkB_size]; omega), all_mk]
    by_cases he : x = []
    · subst he
      rw [show labOk [] = false from rfl, Bool.false_and, Bool.false_and, uri_Named.l0, if_pos (by omega), if_pos (by omega), if_pos (by omega), hrd, mkB_toList, if_pos rfl]
    · have hlab : labOk x = x.all fun b => labelI (b.toNat : Int) := by
        unfold labOk
        cases x with
        | nil => exact absurd rfl he
        | cons _ _ => rfl
      rw [hlab]
      cases hq : (x.all fun b => labelI (b.toNat : Int)) with
      | true =>
        rw [hq] at hal
        rw [Bool.true_and, uri_Named.l0, if_pos (by omega), if_pos (by omega), if_pos (by omega), hrd, mkB_toList, if_neg he, hal, Option.bind_some, if_pos rfl, w64n i (by omega), ih']
      | false =>
        rw [hq] at hal
        rw [Bool.false_and, Bool.false_and, uri_Named.l0, if_pos (by omega), if_pos (by omega), if_pos (by omega), hrd, mkB_toList, if_neg he, hal, Option.bind_some, if_neg (by decide)]
theorem named_k (s : U8s) (hl : s.length ≤ 1048576) (k : Nat) (hk : 1048578 ≤ k) : uri_Named.f k (mkB s) = some (namedL s) := by
  have e : spnB ((⟨#[46]⟩ : ByteArray).get! 0) (mkB s).data.toList.length (mkB s) = (labsL s).map mkB := rfl
  have := spn_len_le 46 s.length s
  have hlen : (labsL s).length ≤ s.length + 1 := this
  have h := named_at s (labsL s) (labsL_ne s) (by omega) (fun x hx => by have := labsL_le s x hx; omega) (by omega) (labsL s).length 0 (by omega) (Nat.zero_le _) k (by omega)
  rw [List.drop_zero] at h
  unfold uri_Named.f strings_Split.f
  rw [if_pos ⟨by rw [mkB_size]; omega, rfl⟩, Option.bind_some, e]
  exact h
theorem trimP_ok (h : U8s) (hl : h.length ≤ 1048576) : strings_TrimPrefix.f (mkB h) (⟨#[46]⟩ : ByteArray) = some (mkB (trimDot h)) := by
  have hp2 := hasPrefix_dot h (by omega)
  unfold strings_TrimPrefix.f stringslite_TrimPrefix.f trimDot
  have e1 : (⟨#[46]⟩ : ByteArray).size = 1 := rfl
  rw [hp2, Option.bind_some]
  by_cases hd : h.head? = some 46
  · have hlen : 0 < h.length := by cases h with
      | nil => simp at hd
      | cons _ _ => simp
    rw [if_pos (by simpa using hd), if_pos hd, e1, mkB_size, if_pos (by decide), if_pos (by omega), Option.bind_some, show ((((1 : Nat) : Int) : Int).toNat) = 1 from rfl, ext_mk, List.take_of_length_le (Nat.le_refl _), List.drop_one]
  · rw [if_neg (by simpa using hd), if_neg hd, Option.bind_some]
theorem trimDot_len (h : U8s) : (trimDot h).length ≤ h.length := by
  unfold trimDot
  split
  · rw [List.length_tail]; omega
  · exact Nat.le_refl _
theorem noTok_ok (x : S46) (hx : R2 x) : slices_ContainsFunc_acl_May_1.f x.f4 = some (!x.f4.all tokenS) := by
  unfold slices_ContainsFunc_acl_May_1.f
  rw [if_pos (by
    rw [List.all_eq_true]
    intro m hm
    rw [decide_eq_true_eq]
    have := hx.each m hm; omega)]
  congr 1
  have : ∀ l : List ByteArray, (l.any fun x => !tokenS x) = !l.all tokenS := by
    intro l
    induction l with
    | nil => rfl
    | cons a t ih => simp only [List.any_cons, List.all_cons, ih, Bool.not_and]
  exact this _
theorem may_k (x : S46) (hx : R2 x) (k : Nat) (hk : 1048578 ≤ k) : acl_May.f k x.f0 x.f1 x.f2 x.f3 x.f4 = some (mayB x) := by
  have a1 := hx.host
  have hno := noTok_ok x hx
  unfold acl_May.f mayB portsB
  obtain ⟨h, hh⟩ := mkOf x.f1
  have hdat : x.f1.data.toList = h := by rw [hh, mkB_l]
  rw [hdat] at a1 ⊢
  rw [hh, mkB_toList]
  have tail : (if x.f2 ≥ 1 then (if x.f2 ≤ x.f3 then (if x.f3 ≤ 65535 then (if (x.f4.length : Int) ≤ 8 then ((slices_ContainsFunc_acl_May_1.f x.f4).bind fun t132 => (some (!t132))) else (some false)) else (some false)) else (some false)) else (some false)) = some ((decide (1 ≤ x.f2) && (decide (x.f2 ≤ x.f3) && decide (x.f3 ≤ 65535))) && (decide (x.f4.length ≤ 8) && x.f4.all tokenS)) := by
    rw [hno]
    by_cases g1 : 1 ≤ x.f2
    · rw [if_pos (by omega), decide_eq_true g1]
      by_cases g2 : x.f2 ≤ x.f3
      · rw [if_pos g2, decide_eq_true g2]
        by_cases g3 : x.f3 ≤ 65535
        · rw [if_pos g3, decide_eq_true g3]
          by_cases g4 : x.f4.length ≤ 8
          · rw [if_pos (by omega), decide_eq_true g4, Option.bind_some]; simp
          · rw [if_neg (by omega), decide_eq_false g4]; rfl
        · rw [if_neg g3, decide_eq_false g3]; simp
      · rw [if_neg g2, decide_eq_false g2]; simp
    · rw [if_neg (by omega), decide_eq_false g1]; simp
  by_cases hs : h = [42]
  · rw [if_pos hs, decide_eq_true hs, Bool.true_or, Bool.true_and]
    exact tail
  · have ht := trimDot_len h
    rw [if_neg hs, decide_eq_false hs, Bool.false_or, trimP_ok h a1, Option.bind_some, named_k (trimDot h) (by omega) k hk, Option.bind_some]
    cases namedL (trimDot h) with
    | true =>
      rw [Bool.true_and, ← tail]
      simp only [if_true]
    | false =>
      rw [Bool.false_and]
      simp only [Bool.false_eq_true, if_false]
      repeat' split
      all_goals rfl
theorem mayO_ok (x : S46) (hx : R2 x) : mayO x = some (mayB x) := may_k x hx 2000000 (by omega)
theorem all_code (l : List S46) (hl : l.length ≤ 1048576) (hR : ∀ x ∈ l, R2 x) : acl_All.f l = some (decide (l.length ≤ 16) && l.all mayB) := by
  unfold acl_All.f
  by_cases h16 : l.length ≤ 16
  · rw [if_pos (by omega), decide_eq_true h16, Bool.true_and]
    unfold slices_ContainsFunc_acl_All_1.f
    rw [if_pos (by
      rw [List.all_eq_true]
      intro x hx
      rw [mayO_ok x (hR x hx)]; rfl), Option.bind_some]
    congr 1
    have : ∀ l : List S46, (∀ x ∈ l, R2 x) → (!(l.any fun x => !((mayO x).getD false))) = l.all mayB := by
      intro l
      induction l with
      | nil => intro _; rfl
      | cons a t ih =>
        intro h
        simp only [List.any_cons, List.all_cons, Bool.not_or, Bool.not_not]
        rw [ih (fun x hx => h x (List.mem_cons_of_mem _ hx)), mayO_ok a (h a (List.mem_cons_self ..))]; rfl
    exact this l hR
  · rw [if_neg (by omega), decide_eq_false h16, Bool.false_and]
end Go.Proofs.YtepljhleaohbcaaGreatDoor.P
