/- head.Parse and the document's Parse are one machine over bytes. -/
import Derived.Test.YtdofgilfmgdpkaaDoorFheadParseA
import Derived.Test.YtdofgilfmgdpkaaDoorPRef02
import Derived.Test.YtdofgilfmgdpkaaDoorQtollhouseref05Parse
set_option linter.unusedVariables false
set_option linter.unusedSimpArgs false
namespace Go.Proofs.YtdofgilfmgdpkaaDoor.P
open Go.RowKit Go.Proofs.YtdofgilfmgdpkaaDoorW.PrintWords Go.Proofs.YtdofgilfmgdpkaaDoorW.PrintLast Go.Proofs.YtdofgilfmgdpkaaDoorW.PrintMore

/-- Where the machine stands: at a line's beginning, in its name, its value, behind its 0d, behind that of the empty line. -/
inductive PSt where
  | line (l : List S45) | name (nm : List Int) (l : List S45) | value (nm vl : List Int) (l : List S45) | ended (nm vl : List Int) (l : List S45) | fin (l : List S45)
inductive PRes where
  | go (s : PSt) | done (l : List S45) | err (e : Int)
/-- One byte. -/
def pstep : PSt → Int → PRes
  | .line l, c => if c = 13 then .go (.fin l) else if 32 ≤ l.length then .err 21 else if tokI c = true then .go (.name [c] l) else .err 20
  | .name nm l, c => if c ≠ 13 ∧ 512 < nm.length + 1 then .err 21 else if c = 58 then .go (.value nm [] l) else if tokI c = true then .go (.name (nm ++ [c]) l) else .err 20
  | .value nm vl l, c => if c = 13 then .go (.ended nm vl l) else if 512 < nm.length + 1 + vl.length + 1 then .err 21 else if shownI c = true then .go (.value nm (vl ++ [c]) l) else .err 20
  | .ended nm vl l, c => if c = 10 then .go (.line (l ++ [⟨strOfNums nm, trimB (strOfNums vl)⟩])) else .err 20
  | .fin l, c => if c = 10 then .done l else .err 20
/-- All bytes, from a place on. -/
def pm : List Int → Nat → PSt → PR
  | [], _, _ => ([], 0, 8)
  | c :: r, p, s => if 2048 ≤ p then ([], 0, 21) else match pstep s c with
    | .go s' => pm r (p + 1) s'
    | .done l => (l, (p : Int) + 1, 0)
    | .err e => ([], 0, e)
/-- What head.Parse tells. -/
def parseB (b : List Int) : PR := pm b 0 (.line [])

/-! ### the program's -/
def pAfter (b : List Int) (pl : Nat) (nm : List Int) (c : Int) (l : List S45) : PR :=
  if c = 58 ∧ nm ≠ [] then pm (b.drop pl) pl (.value nm [] l) else if tokI c = true then pm (b.drop pl) pl (.name (nm ++ [c]) l) else ([], 0, 20)
theorem drop_at (b : List Int) (pl : Nat) (h : pl < b.length) : b.drop pl = b.getD pl 0 :: b.drop (pl + 1) := by
  rw [List.drop_eq_getElem_cons h, List.getD_eq_getElem?_getD, List.getElem?_eq_getElem h]; rfl
theorem cut_snoc (b : List Int) (i pl : Nat) (hi : i ≤ pl) (h : pl < b.length) : (b.drop i).take (pl + 1 - i) = (b.drop i).take (pl - i) ++ [b.getD pl 0] := by
  have h2 : pl - i < (b.drop i).length := by rw [List.length_drop]; omega
  rw [show pl + 1 - i = (pl - i) + 1 by omega, List.take_succ_eq_append_getElem h2, List.getElem_drop, List.getD_eq_getElem?_getD, List.getElem?_eq_getElem h]
  simp [show i + (pl - i) = pl by omega]
theorem cut_len (b : List Int) (i pl : Nat) (h : pl ≤ b.length) : ((b.drop i).take (pl - i)).length = pl - i := by rw [List.length_take, List.length_drop]; omega
theorem tok13 : tokI 13 = false := by decide
theorem tok58 : tokI 58 = false := by decide
theorem pm_nil (p : Nat) (s : PSt) : pm [] p s = ([], 0, 8) := by rw [pm]
theorem pm_big (c : Int) (r : List Int) (p : Nat) (s : PSt) (h : 2048 ≤ p) : pm (c :: r) p s = ([], 0, 21) := by rw [pm, if_pos h]
theorem pm_go {c : Int} {r : List Int} {p : Nat} {s s' : PSt} (h : ¬ 2048 ≤ p) (hs : pstep s c = .go s') : pm (c :: r) p s = pm r (p + 1) s' := by rw [pm, if_neg h, hs]
theorem pm_err {c : Int} {r : List Int} {p : Nat} {s : PSt} {e : Int} (h : ¬ 2048 ≤ p) (hs : pstep s c = .err e) : pm (c :: r) p s = ([], 0, e) := by rw [pm, if_neg h, hs]
theorem pm_done {c : Int} {r : List Int} {p : Nat} {s : PSt} {l : List S45} (h : ¬ 2048 ≤ p) (hs : pstep s c = .done l) : pm (c :: r) p s = (l, (p : Int) + 1, 0) := by rw [pm, if_neg h, hs]

theorem pGo_pm (b : List Int) : ∀ (k : Nat),
    (∀ pl from' to' c l, pl ≤ b.length → pl ≤ 2048 → 2 * (b.length - pl) + 1 ≤ k → pGo b k .line pl from' to' c l = some (pm (b.drop pl) pl (.line l))) ∧
    (∀ pl from' to' c l, pl ≤ b.length → pl ≤ 2048 → 2 * (b.length - pl) + 2 ≤ k → from' < pl → c = b.getD (pl - 1) 0 → pGo b k .name pl from' to' c l = some (pAfter b pl ((b.drop from').take (pl - 1 - from')) c l)) ∧
    (∀ pl from' to' c l, pl ≤ b.length → pl ≤ 2048 → 2 * (b.length - pl) + 1 ≤ k → from' + 1 < to' → to' ≤ pl → pGo b k .value pl from' to' c l = some (pm (b.drop pl) pl (.value ((b.drop from').take (to' - 1 - from')) ((b.drop to').take (pl - to')) l))) ∧
    (∀ pl from' to' c l, pl ≤ b.length → pl ≤ 2048 → 2 * (b.length - pl) + 1 ≤ k → from' + 1 < to' → to' < pl → pGo b k .ended pl from' to' c l = some (pm (b.drop pl) pl (.ended ((b.drop from').take (to' - 1 - from')) ((b.drop to').take (pl - 1 - to')) l))) ∧
    (∀ pl from' to' c l, pl ≤ b.length → pl ≤ 2048 → 2 * (b.length - pl) + 1 ≤ k → pGo b k .fin pl from' to' c l = some (pm (b.drop pl) pl (.fin l))) := by
  intro k
  induction k with
  | zero => exact ⟨fun _ _ _ _ _ _ _ h => by omega, fun _ _ _ _ _ _ _ h => by omega, fun _ _ _ _ _ _ _ h => by omega, fun _ _ _ _ _ _ _ h => by omega, fun _ _ _ _ _ _ _ h => by omega⟩
  | succ k ih =>
    obtain ⟨iL, iN, iV, iE, iF⟩ := ih
    refine ⟨?_, ?_, ?_, ?_, ?_⟩
    · intro pl from' to' c l h1 h2 h3
      rw [pGo]
      by_cases e1 : pl = b.length
      · rw [if_pos e1, List.drop_eq_nil_of_le (by omega), pm_nil]
      have hlt : pl < b.length := by omega
      rw [if_neg e1, drop_at b pl hlt]
      by_cases e2 : pl = 2048
      · rw [if_pos e2, pm_big _ _ _ _ (by omega)]
      rw [if_neg e2]
      have hq : ¬ 2048 ≤ pl := by omega
      by_cases e3 : b.getD pl 0 = 13
      · rw [if_pos e3, iF _ _ _ _ _ (by omega) (by omega) (by omega)]
        rw [pm_go hq (by rw [pstep, if_pos e3])]
      rw [if_neg e3]
      by_cases e4 : 32 ≤ l.length
      · rw [if_pos e4, pm_err hq (by rw [pstep, if_neg e3, if_pos e4])]
      rw [if_neg e4, iN _ _ _ _ _ (by omega) (by omega) (by omega) (by omega) (by simp)]
      congr 1
      rw [show pl + 1 - 1 - pl = 0 by omega, List.take_zero]
      unfold pAfter
      rw [if_neg (by simp)]
      by_cases e5 : tokI (b.getD pl 0) = true
      · rw [if_pos e5, pm_go hq (by rw [pstep, if_neg e3, if_neg e4, if_pos e5]), List.nil_append]
      · rw [if_neg e5, pm_err hq (by rw [pstep, if_neg e3, if_neg e4, if_neg e5])]
    · intro pl from' to' c l h1 h2 h3 h4 h5
      rw [pGo]
      have hnm : ((b.drop from').take (pl - 1 - from')).length = pl - 1 - from' := by rw [List.length_take, List.length_drop]; omega
      unfold pAfter
      by_cases e1 : c = 58 ∧ from' + 1 < pl
      · rw [if_pos e1, if_pos ⟨e1.1, fun e => by rw [e] at hnm; simp at hnm; omega⟩, iV _ _ _ _ _ (by omega) (by omega) (by omega) (by omega) (by omega), Nat.sub_self, List.take_zero]
      have e1' : ¬ (c = 58 ∧ (b.drop from').take (pl - 1 - from') ≠ []) := fun h => e1 ⟨h.1, by
        rcases Nat.lt_or_ge (from' + 1) pl with h' | h'
        · exact h'
        · exact absurd (List.eq_nil_of_length_eq_zero (by rw [hnm]; omega)) h.2⟩
      rw [if_neg e1, if_neg e1']
      by_cases e2 : tokI c = true
      · rw [if_neg (by simp [e2]), if_pos e2]
        by_cases e3 : pl = b.length
        · rw [if_pos e3, List.drop_eq_nil_of_le (by omega), pm_nil]
        have hlt : pl < b.length := by omega
        rw [if_neg e3, drop_at b pl hlt]
        by_cases e4 : pl = 2048
        · rw [if_pos e4, pm_big _ _ _ _ (by omega)]
        have hq : ¬ 2048 ≤ pl := by omega
        have hsn : (b.drop from').take (pl - 1 - from') ++ [c] = (b.drop from').take (pl - from') := by
          have := cut_snoc b from' (pl - 1) (by omega) (by omega)
          rw [show pl - 1 + 1 - from' = pl - from' by omega] at this
          rw [this, h5]
        have hln := cut_len b from' pl h1
        rw [if_neg e4, hsn]
        by_cases e5 : ¬ b.getD pl 0 = 13 ∧ 512 < pl + 1 - from'
        · rw [if_pos e5, pm_err hq (by rw [pstep, if_pos ⟨e5.1, by omega⟩])]
        · rw [if_neg e5, iN _ _ _ _ _ (by omega) (by omega) (by omega) (by omega) (by simp)]
          congr 1
          rw [show pl + 1 - 1 - from' = pl - from' by omega]
          have e6 : ¬ (b.getD pl 0 ≠ 13 ∧ 512 < ((b.drop from').take (pl - from')).length + 1) := fun h => e5 ⟨h.1, by omega⟩
          unfold pAfter
          by_cases e7 : b.getD pl 0 = 58
          · rw [if_pos ⟨e7, fun e => by rw [e] at hln; simp at hln; omega⟩, pm_go hq (by rw [pstep, if_neg e6, if_pos e7])]
          rw [if_neg (fun h => e7 h.1)]
          by_cases e8 : tokI (b.getD pl 0) = true
          · rw [if_pos e8, pm_go hq (by rw [pstep, if_neg e6, if_neg e7, if_pos e8])]
          · rw [if_neg e8, pm_err hq (by rw [pstep, if_neg e6, if_neg e7, if_neg e8])]
      · rw [if_pos (by simpa using e2), if_neg e2]
    · intro pl from' to' c l h1 h2 h3 h4 h5
      rw [pGo]
      by_cases e1 : pl = b.length
      · rw [if_pos e1, List.drop_eq_nil_of_le (by omega), pm_nil]
      have hlt : pl < b.length := by omega
      rw [if_neg e1, drop_at b pl hlt]
      by_cases e2 : pl = 2048
      · rw [if_pos e2, pm_big _ _ _ _ (by omega)]
      rw [if_neg e2]
      have hq : ¬ 2048 ≤ pl := by omega
      by_cases e3 : b.getD pl 0 = 13
      · rw [if_pos e3, iE _ _ _ _ _ (by omega) (by omega) (by omega) h4 (by omega)]
        rw [pm_go hq (by rw [pstep, if_pos e3]), show pl + 1 - 1 - to' = pl - to' by omega]
      rw [if_neg e3]
      have hln : ((b.drop from').take (to' - 1 - from')).length = to' - 1 - from' := cut_len b from' (to' - 1) (by omega)
      have hlv := cut_len b to' pl h1
      by_cases e4 : 512 < pl + 1 - from'
      · rw [if_pos e4, pm_err hq (by rw [pstep, if_neg e3, if_pos (by omega)])]
      rw [if_neg e4]
      by_cases e5 : shownI (b.getD pl 0) = true
      · rw [if_neg (by rw [e5]; decide), iV _ _ _ _ _ (by omega) (by omega) (by omega) h4 (by omega)]
        rw [pm_go hq (by rw [pstep, if_neg e3, if_neg (by omega), if_pos e5]), cut_snoc b to' pl h5 hlt]
      · rw [if_pos (Bool.not_eq_true _ ▸ e5), pm_err hq (by rw [pstep, if_neg e3, if_neg (by omega), if_neg e5])]
    · intro pl from' to' c l h1 h2 h3 h4 h5
      rw [pGo]
      by_cases e1 : pl = b.length
      · rw [if_pos e1, List.drop_eq_nil_of_le (by omega), pm_nil]
      have hlt : pl < b.length := by omega
      rw [if_neg e1, drop_at b pl hlt]
      by_cases e2 : pl = 2048
      · rw [if_pos e2, pm_big _ _ _ _ (by omega)]
      rw [if_neg e2]
      have hq : ¬ 2048 ≤ pl := by omega
      by_cases e3 : b.getD pl 0 = 10
      · rw [if_pos e3, iL _ _ _ _ _ (by omega) (by omega) (by omega), pm_go hq (by rw [pstep, if_pos e3])]
        rfl
      · rw [if_neg e3, pm_err hq (by rw [pstep, if_neg e3])]
    · intro pl from' to' c l h1 h2 h3
      rw [pGo]
      by_cases e1 : pl = b.length
      · rw [if_pos e1, List.drop_eq_nil_of_le (by omega), pm_nil]
      have hlt : pl < b.length := by omega
      rw [if_neg e1, drop_at b pl hlt]
      by_cases e2 : pl = 2048
      · rw [if_pos e2, pm_big _ _ _ _ (by omega)]
      rw [if_neg e2]
      have hq : ¬ 2048 ≤ pl := by omega
      by_cases e3 : b.getD pl 0 = 10
      · rw [if_pos e3, pm_done hq (by rw [pstep, if_pos e3])]
      · rw [if_neg e3, pm_err hq (by rw [pstep, if_neg e3])]
theorem parse_ok (b : List Int) (hl : b.length ≤ 140737488355328) (hb : b.all isByte = true) : head_Parse.f b = some (parseB b) := by
  unfold head_Parse.f parseB
  rw [if_pos ⟨hl, hb⟩]
  have := (pGo_pm b (2 * b.length + 2)).1 0 0 0 0 [] (Nat.zero_le _) (by omega) (by omega)
  rwa [List.drop_zero] at this

/-! ### the document's -/
theorem refToken_bytes : ∀ n : Fin 256, tollhouseref05_one.f 64 ((n.val : Nat) : Int) = some (tokI ((n.val : Nat) : Int)) := by decide +kernel
theorem refOne_ok (c : Int) (h : isByte c = true) : Ev (fun k => tollhouseref05_one.f k c) (tokI c) := by
  obtain ⟨n, rfl⟩ := byte_fin h
  exact Ev.of (fun k => tollhouseref05_one.mono _ k) (refToken_bytes n)
theorem refShown_bytes : ∀ n : Fin 256, tollhouseref05_shown.f ((n.val : Nat) : Int) = some (shownI ((n.val : Nat) : Int)) := by decide +kernel
theorem refShown_ok (c : Int) (h : isByte c = true) : tollhouseref05_shown.f c = some (shownI c) := by
  obtain ⟨n, rfl⟩ := byte_fin h
  exact refShown_bytes n
theorem str_snoc (l : List Int) (c : Int) : strOfNums (l ++ [c]) = strOfNums l ++ strOfNums [c] := by
  unfold strOfNums
  rw [List.map_append]
  apply ByteArray.ext
  rw [ByteArray.data_append]
  simp
theorem str_size (l : List Int) : (strOfNums l).size = l.length := by
  unfold strOfNums
  show (List.toArray _).size = _
  simp
/-- The document's words for where the machine stands. -/
def RefSt : PSt → List S45 → ByteArray → ByteArray → Int → Int → Prop
  | .line l, x5, _, _, x8, x9 => x5 = l ∧ x8 = 0 ∧ x9 = 0 ∧ l.length ≤ 32
  | .name nm l, x5, x6, _, x8, x9 => x5 = l ∧ x6 = strOfNums nm ∧ x8 = 1 ∧ x9 = (nm.length : Int) ∧ nm.length ≤ 512 ∧ l.length < 32
  | .value nm vl l, x5, x6, x7, x8, x9 => x5 = l ∧ x6 = strOfNums nm ∧ x7 = strOfNums vl ∧ x8 = 2 ∧ x9 = (nm.length : Int) + 1 + (vl.length : Int) ∧ nm.length + 1 + vl.length ≤ 512 ∧ l.length < 32
  | .ended nm vl l, x5, x6, x7, x8, _ => x5 = l ∧ x6 = strOfNums nm ∧ x7 = strOfNums vl ∧ x8 = 3 ∧ nm.length + 1 + vl.length ≤ 512 ∧ l.length < 32
  | .fin l, x5, _, _, x8, _ => x5 = l ∧ x8 = 4 ∧ l.length ≤ 32
theorem refParse_from (b : List Int) (hl : b.length < 140737488355328) (hb : b.all isByte = true) : ∀ (d p : Nat), b.length - p = d → p ≤ b.length → ∀ s x5 x6 x7 x8 x9, RefSt s x5 x6 x7 x8 x9 →
    Ev (fun k => tollhouseref05_Parse.l0 k b x5 x6 x7 x8 x9 (p : Int)) (pm (b.drop p) p s) := by
  intro d
  induction d with
  | zero =>
    intro p hd hp s x5 x6 x7 x8 x9 _
    rw [List.drop_eq_nil_of_le (by omega), pm_nil]
    exact Ev.step (f := fun _ => some (([] : List S45), 0, 8)) (fun k => by rw [tollhouseref05_Parse.l0, if_neg (by omega)]) (Ev.now _)
  | succ d ih =>
    intro p hd hp s x5 x6 x7 x8 x9 hs
    have hlt : p < b.length := by omega
    have hby : isByte (b.getD p 0) = true := by
      rw [List.getD_eq_getElem?_getD, List.getElem?_eq_getElem hlt]
      exact List.all_eq_true.1 hb _ (List.getElem_mem hlt)
    have hrd : rd b (p : Int) = b.getD p 0 := by unfold rd; rw [Int.toNat_natCast]
    have hw := w64n p (by omega)
    rw [drop_at b p hlt]
    by_cases hq : 2048 ≤ p
    · rw [pm_big _ _ _ _ hq]
      exact Ev.step (f := fun _ => some (([] : List S45), 0, 21)) (fun k => by rw [tollhouseref05_Parse.l0, if_pos (by omega), if_pos (by omega), if_pos (by omega)]) (Ev.now _)
    have hn : ∀ s' y5 y6 y7 y8 y9, RefSt s' y5 y6 y7 y8 y9 → Ev (fun k => tollhouseref05_Parse.l0 k b y5 y6 y7 y8 y9 ((p + 1 : Nat) : Int)) (pm (b.drop (p + 1)) (p + 1) s') := fun s' y5 y6 y7 y8 y9 h => ih (p + 1) (by omega) (by omega) s' y5 y6 y7 y8 y9 h
    generalize b.getD p 0 = c at hby hrd ⊢
    have hone := refOne_ok c hby
    have hsh := refShown_ok c hby
    -- behind the lengths
    have j3 : ∀ y9 r, Ev (fun k => tollhouseref05_Parse.j3 k b x5 x6 x7 x8 y9 (p : Int) c) r → ((x8 ≤ 2 ∧ c ≠ 13 ∧ ¬ (x8 = 0 ∧ x5.length = 32) ∧ y9 = x9 + 1 ∧ 0 ≤ x9 ∧ x9 + 1 ≤ 512) ∨ ((¬ x8 ≤ 2 ∨ c = 13) ∧ x9 = y9)) → Ev (fun k => tollhouseref05_Parse.l0 k b x5 x6 x7 x8 x9 (p : Int)) r := by
      intro y9 r hr hc
      rcases hc with ⟨a1, a2, a3, rfl, a4, a5⟩ | ⟨a1, rfl⟩
      · refine Ev.step (f := fun k => tollhouseref05_Parse.j1 k b x5 x6 x7 x8 x9 (p : Int) c true) (fun k => by rw [tollhouseref05_Parse.l0, if_pos (by omega), if_pos (by omega), if_neg (by omega), if_pos a1, hrd, show (c != 13) = true by simpa using a2]) ?_
        refine Ev.step (f := fun k => tollhouseref05_Parse.j2 k b x5 x6 x7 x8 x9 (p : Int) c false) (fun k => ?_) ?_
        · rw [tollhouseref05_Parse.j1, if_pos rfl]
          by_cases a0 : x8 = 0
          · rw [if_pos a0, show ((x5.length : Int) == 32) = false by simp only [beq_eq_false_iff_ne]; intro h; exact a3 ⟨a0, by omega⟩]
          · rw [if_neg a0]
        · refine Ev.step (f := fun k => tollhouseref05_Parse.j3 k b x5 x6 x7 x8 (x9 + 1) (p : Int) c) (fun k => ?_) hr
          have hw9 : wrap64 (x9 + 1) = x9 + 1 := by unfold wrap64; omega
          rw [tollhouseref05_Parse.j2, if_neg (by simp), hw9, if_neg (by omega)]
      · refine Ev.step (f := fun k => tollhouseref05_Parse.j1 k b x5 x6 x7 x8 x9 (p : Int) c false) (fun k => ?_) (Ev.step (f := fun k => tollhouseref05_Parse.j3 k b x5 x6 x7 x8 x9 (p : Int) c) (fun k => by rw [tollhouseref05_Parse.j1, if_neg (by simp)]) hr)
        rw [tollhouseref05_Parse.l0, if_pos (by omega), if_pos (by omega), if_neg (by omega)]
        by_cases a2 : x8 ≤ 2
        · have a3 : c = 13 := by rcases a1 with h | h; exact absurd a2 h; exact h
          rw [if_pos a2, hrd, show (c != 13) = false by simp [a3]]
        · rw [if_neg a2, hrd]
    -- too long
    have jbig : x8 ≤ 2 → c ≠ 13 → 0 ≤ x9 → x9 ≤ 512 → ((x8 = 0 ∧ x5.length = 32) ∨ 512 < x9 + 1) → Ev (fun k => tollhouseref05_Parse.l0 k b x5 x6 x7 x8 x9 (p : Int)) (([] : List S45), 0, 21) := by
      intro a1 a2 a4 a6 a5
      refine Ev.step (f := fun k => tollhouseref05_Parse.j1 k b x5 x6 x7 x8 x9 (p : Int) c true) (fun k => by rw [tollhouseref05_Parse.l0, if_pos (by omega), if_pos (by omega), if_neg (by omega), if_pos a1, hrd, show (c != 13) = true by simpa using a2]) ?_
      have hw9 : wrap64 (x9 + 1) = x9 + 1 := by unfold wrap64; omega
      by_cases a3 : x8 = 0 ∧ x5.length = 32
      · refine Ev.step (f := fun k => tollhouseref05_Parse.j2 k b x5 x6 x7 x8 x9 (p : Int) c true) (fun k => ?_) (Ev.step (f := fun _ => some (([] : List S45), 0, 21)) (fun k => by rw [tollhouseref05_Parse.j2, if_pos rfl]) (Ev.now _))
        rw [tollhouseref05_Parse.j1, if_pos rfl, if_pos a3.1, show ((x5.length : Int) == 32) = true by rw [a3.2]; rfl]
      · refine Ev.step (f := fun k => tollhouseref05_Parse.j2 k b x5 x6 x7 x8 x9 (p : Int) c false) (fun k => ?_) (Ev.step (f := fun _ => some (([] : List S45), 0, 21)) (fun k => ?_) (Ev.now _))
        · rw [tollhouseref05_Parse.j1, if_pos rfl]
          by_cases a0 : x8 = 0
          · rw [if_pos a0, show ((x5.length : Int) == 32) = false by simp only [beq_eq_false_iff_ne]; intro h; exact a3 ⟨a0, by omega⟩]
          · rw [if_neg a0]
        · rw [tollhouseref05_Parse.j2, if_neg (by simp), hw9, if_pos (by omega)]
    have e13 : tokI 13 = false := tok13
    match s, hs with
    | .line l, hs =>
      obtain ⟨rfl, rfl, rfl, h32⟩ := hs
      by_cases c13 : c = 13
      · rw [pm_go hq (by rw [pstep, if_pos c13])]
        refine j3 0 _ (Ev.step (f := fun k => tollhouseref05_Parse.l0 k b x5 x6 x7 4 0 ((p + 1 : Nat) : Int)) (fun k => by rw [tollhouseref05_Parse.j3, if_pos rfl, if_pos c13, hw]) (hn _ _ _ _ _ _ ⟨rfl, rfl, h32⟩)) (.inr ⟨.inr c13, rfl⟩)
      by_cases h33 : 32 ≤ x5.length
      · rw [pm_err hq (by rw [pstep, if_neg c13, if_pos h33])]
        exact jbig (by omega) c13 (by omega) (by omega) (.inl ⟨rfl, by omega⟩)
      by_cases ht : tokI c = true
      · rw [pm_go hq (by rw [pstep, if_neg c13, if_neg h33, if_pos ht])]
        refine j3 1 _ (Ev.step (f := fun k => (tollhouseref05_one.f k c).bind fun t => if t = true then tollhouseref05_Parse.l0 k b x5 (strOfNums [c]) x7 1 1 ((p + 1 : Nat) : Int) else some (([] : List S45), 0, 20)) (fun k => by rw [tollhouseref05_Parse.j3, if_pos rfl, if_neg c13, hw]) ?_) (.inl ⟨by omega, c13, fun h => h33 (by omega), by omega, by omega, by omega⟩)
        refine Ev.bind hone ?_
        simp only [ht, if_true]
        exact hn _ _ _ _ _ _ ⟨rfl, rfl, rfl, rfl, by simp, by omega⟩
      · rw [pm_err hq (by rw [pstep, if_neg c13, if_neg h33, if_neg ht])]
        refine j3 1 _ (Ev.step (f := fun k => (tollhouseref05_one.f k c).bind fun t => if t = true then tollhouseref05_Parse.l0 k b x5 (strOfNums [c]) x7 1 1 ((p + 1 : Nat) : Int) else some (([] : List S45), 0, 20)) (fun k => by rw [tollhouseref05_Parse.j3, if_pos rfl, if_neg c13, hw]) ?_) (.inl ⟨by omega, c13, fun h => h33 (by omega), by omega, by omega, by omega⟩)
        refine Ev.bind hone ?_
        simp only [ht, if_false, Bool.false_eq_true]
        exact Ev.now _
    | .name nm l, hs =>
      obtain ⟨rfl, rfl, rfl, rfl, hnl, h32⟩ := hs
      by_cases hb5 : c ≠ 13 ∧ 512 < nm.length + 1
      · rw [pm_err hq (by rw [pstep, if_pos hb5])]
        exact jbig (by omega) hb5.1 (by omega) (by omega) (.inr (by omega))
      have key : ∀ r, (∀ y9, (c ≠ 13 → y9 = (nm.length : Int) + 1) → Ev (fun k => tollhouseref05_Parse.j3 k b x5 (strOfNums nm) x7 1 y9 (p : Int) c) r) → Ev (fun k => tollhouseref05_Parse.l0 k b x5 (strOfNums nm) x7 1 (nm.length : Int) (p : Int)) r := by
        intro r h
        by_cases c13 : c = 13
        · exact j3 _ _ (h (nm.length : Int) (fun h => absurd c13 h)) (.inr ⟨.inr c13, rfl⟩)
        · exact j3 _ _ (h ((nm.length : Int) + 1) (fun _ => rfl)) (.inl ⟨by omega, c13, fun h => by omega, rfl, by omega, by have : ¬ 512 < nm.length + 1 := fun h => hb5 ⟨c13, h⟩; omega⟩)
      by_cases h58 : c = 58
      · rw [pm_go hq (by rw [pstep, if_neg hb5, if_pos h58])]
        refine key _ fun y9 hy => Ev.step (f := fun k => tollhouseref05_Parse.l0 k b x5 (strOfNums nm) ⟨#[]⟩ 2 y9 ((p + 1 : Nat) : Int)) (fun k => by rw [tollhouseref05_Parse.j3, if_neg (by omega), if_pos rfl, if_pos h58, hw]) (hn _ _ _ _ _ _ ⟨rfl, rfl, by rfl, rfl, by rw [hy (by omega)]; simp, ?_, h32⟩)
        have : ¬ 512 < nm.length + 1 := fun h => hb5 ⟨by omega, h⟩
        simp; omega
      have hstep : ∀ y9 k, tollhouseref05_Parse.j3 (k + 1) b x5 (strOfNums nm) x7 1 y9 (p : Int) c = (tollhouseref05_one.f k c).bind fun t => if t = true then tollhouseref05_Parse.l0 k b x5 (strOfNums (nm ++ [c])) x7 1 y9 ((p + 1 : Nat) : Int) else some (([] : List S45), 0, 20) := by
        intro y9 k
        rw [tollhouseref05_Parse.j3, if_neg (by omega), if_pos rfl, if_neg h58, hw]
        simp only [Option.bind_some]
        rw [if_pos (by rw [str_size, str_size]; simp; omega), str_snoc]
      by_cases ht : tokI c = true
      · rw [pm_go hq (by rw [pstep, if_neg hb5, if_neg h58, if_pos ht])]
        refine key _ fun y9 hy => Ev.step (hstep y9) (Ev.bind hone ?_)
        simp only [ht, if_true]
        have hc13 : c ≠ 13 := fun e => by rw [e, e13] at ht; exact absurd ht (by simp)
        have : ¬ 512 < nm.length + 1 := fun h => hb5 ⟨hc13, h⟩
        exact hn _ _ _ _ _ _ ⟨rfl, rfl, rfl, by rw [hy hc13]; simp, by simp; omega, h32⟩
      · rw [pm_err hq (by rw [pstep, if_neg hb5, if_neg h58, if_neg ht])]
        refine key _ fun y9 hy => Ev.step (hstep y9) (Ev.bind hone ?_)
        simp only [ht, if_false, Bool.false_eq_true]
        exact Ev.now _
    | .value nm vl l, hs =>
      obtain ⟨rfl, rfl, rfl, rfl, rfl, hnl, h32⟩ := hs
      by_cases c13 : c = 13
      · rw [pm_go hq (by rw [pstep, if_pos c13])]
        exact j3 _ _ (Ev.step (f := fun k => tollhouseref05_Parse.l0 k b x5 (strOfNums nm) (strOfNums vl) 3 ((nm.length : Int) + 1 + (vl.length : Int)) ((p + 1 : Nat) : Int)) (fun k => by rw [tollhouseref05_Parse.j3, if_neg (by omega), if_neg (by omega), if_pos rfl, if_pos c13, hw]) (hn _ _ _ _ _ _ ⟨rfl, rfl, rfl, rfl, hnl, h32⟩)) (.inr ⟨.inr c13, rfl⟩)
      by_cases hb5 : 512 < nm.length + 1 + vl.length + 1
      · rw [pm_err hq (by rw [pstep, if_neg c13, if_pos hb5])]
        exact jbig (by omega) c13 (by omega) (by omega) (.inr (by omega))
      have hstep : ∀ y9 k, tollhouseref05_Parse.j3 (k + 1) b x5 (strOfNums nm) (strOfNums vl) 2 y9 (p : Int) c = if shownI c = true then tollhouseref05_Parse.l0 k b x5 (strOfNums nm) (strOfNums (vl ++ [c])) 2 y9 ((p + 1 : Nat) : Int) else some (([] : List S45), 0, 20) := by
        intro y9 k
        rw [tollhouseref05_Parse.j3, if_neg (by omega), if_neg (by omega), if_pos rfl, if_neg c13, hw, hsh]
        simp only [Option.bind_some]
        rw [if_pos (show (strOfNums vl).size + (strOfNums [c]).size ≤ 9223372036854775807 by rw [str_size, str_size]; simp; omega), str_snoc]
      by_cases ht : shownI c = true
      · rw [pm_go hq (by rw [pstep, if_neg c13, if_neg hb5, if_pos ht])]
        refine j3 _ _ (Ev.step (hstep _) ?_) (.inl ⟨by omega, c13, fun h => by omega, rfl, by omega, by omega⟩)
        simp only [ht, if_true]
        exact hn _ _ _ _ _ _ ⟨rfl, rfl, rfl, rfl, by simp; omega, by simp; omega, h32⟩
      · rw [pm_err hq (by rw [pstep, if_neg c13, if_neg hb5, if_neg ht])]
        refine j3 _ _ (Ev.step (hstep _) ?_) (.inl ⟨by omega, c13, fun h => by omega, rfl, by omega, by omega⟩)
        simp only [ht, if_false, Bool.false_eq_true]
        exact Ev.now _
    | .ended nm vl l, hs =>
      obtain ⟨rfl, rfl, rfl, rfl, hnl, h32⟩ := hs
      by_cases c10 : c = 10
      · rw [pm_go hq (by rw [pstep, if_pos c10])]
        refine j3 _ _ (Ev.step (f := fun k => (tollhouseref02_Trim.f k (strOfNums vl)).bind fun t => if x5.length < 4398046511104 then tollhouseref05_Parse.l0 k b (x5 ++ [(⟨strOfNums nm, t⟩ : S45)]) (strOfNums nm) (strOfNums vl) 0 0 ((p + 1 : Nat) : Int) else none) (fun k => by rw [tollhouseref05_Parse.j3, if_neg (by omega), if_neg (by omega), if_neg (by omega), if_pos rfl, if_pos c10, hw]) ?_) (.inr ⟨.inl (by omega), rfl⟩)
        refine Ev.bind (refTrim_ok _ (by rw [str_size]; omega)) ?_
        exact Ev.congr (fun k => if_pos (by omega)) (hn _ _ _ _ _ _ ⟨rfl, rfl, rfl, by simp; omega⟩)
      · rw [pm_err hq (by rw [pstep, if_neg c10])]
        exact j3 _ _ (Ev.step (f := fun _ => some (([] : List S45), 0, 20)) (fun k => by rw [tollhouseref05_Parse.j3, if_neg (by omega), if_neg (by omega), if_neg (by omega), if_pos rfl, if_neg c10]) (Ev.now _)) (.inr ⟨.inl (by omega), rfl⟩)
    | .fin l, hs =>
      obtain ⟨rfl, rfl, h32⟩ := hs
      by_cases c10 : c = 10
      · rw [pm_done hq (by rw [pstep, if_pos c10])]
        exact j3 _ _ (Ev.step (f := fun _ => some (x5, (p : Int) + 1, 0)) (fun k => by rw [tollhouseref05_Parse.j3, if_neg (by omega), if_neg (by omega), if_neg (by omega), if_neg (by omega), if_pos rfl, if_pos c10, hw]; rfl) (Ev.now _)) (.inr ⟨.inl (by omega), rfl⟩)
      · rw [pm_err hq (by rw [pstep, if_neg c10])]
        exact j3 _ _ (Ev.step (f := fun _ => some (([] : List S45), 0, 20)) (fun k => by rw [tollhouseref05_Parse.j3, if_neg (by omega), if_neg (by omega), if_neg (by omega), if_neg (by omega), if_pos rfl, if_neg c10]) (Ev.now _)) (.inr ⟨.inl (by omega), rfl⟩)
theorem refParse_ok (b : List Int) (hl : b.length < 140737488355328) (hb : b.all isByte = true) : Ev (fun k => tollhouseref05_Parse.f k b) (parseB b) := by
  unfold tollhouseref05_Parse.f parseB
  have := refParse_from b hl hb b.length 0 (by omega) (Nat.zero_le _) (.line []) [] ⟨#[]⟩ ⟨#[]⟩ 0 0 ⟨rfl, rfl, rfl, by simp⟩
  rwa [List.drop_zero] at this
end Go.Proofs.YtdofgilfmgdpkaaDoor.P
