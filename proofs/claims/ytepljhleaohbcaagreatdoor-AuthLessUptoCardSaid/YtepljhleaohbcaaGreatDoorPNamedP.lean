/- What a host's name is, plain: the program's answer. -/
import Derived.Test.YtepljhleaohbcaaGreatDoorPText
import Derived.Test.YtepljhleaohbcaaGreatDoorFUri
import Derived.Test.YtepljhleaohbcaaGreatDoorQUriA
import Derived.Lib.ParseIntBCases
set_option linter.unusedVariables false
set_option linter.unusedSimpArgs false
namespace Go.Proofs.YtepljhleaohbcaaGreatDoor.P
open Go.RowKit Go.Proofs.YtepljhleaohbcaaGreatDoorW.PrintWords Go.Proofs.YtepljhleaohbcaaGreatDoorW.PrintLast Go.Proofs.YtepljhleaohbcaaGreatDoorW.PrintMore

theorem bytesOf_mk (l : U8s) : bytesOf (mkB l) = l.map fun b => ((b.toNat : Nat) : Int) := rfl
theorem all_mk (l : U8s) (p : Int → Bool) : (bytesOf (mkB l)).all p = l.all fun b => p (b.toNat : Int) := by rw [bytesOf_mk, List.all_map]; rfl
def labsL (s : U8s) : List U8s := spn 46 s.length s
def labOk (x : U8s) : Bool := !x.isEmpty && x.all fun b => labelI (b.toNat : Int)
def lowHexI (c : Int) : Bool := digitI c || (decide (97 ≤ c) && decide (c ≤ 102))
def is0x (x : U8s) : Bool := x.take 2 == [48, 120]
def numL (x : U8s) : Bool := if is0x x = true then (x.drop 2).all fun b => hexI (b.toNat : Int) else x.all fun b => digitI (b.toNat : Int)
def numR (x : U8s) : Bool := if is0x x = true then (x.drop 2).all fun b => lowHexI (b.toNat : Int) else x.all fun b => digitI (b.toNat : Int)
def quadL (ls : List U8s) : Bool := decide (ls.length = 4) && ls.all octetL
def lastL (ls : List U8s) : U8s := ls.getLast?.getD []
def namedL (s : U8s) : Bool := (labsL s).all labOk && (decide (s.length ≤ 64) && (!numL (lastL (labsL s)) || quadL (labsL s)))
theorem labsL_ne (s : U8s) : labsL s ≠ [] := spn_ne 46 _ s
theorem labsL_le (s x : U8s) (h : x ∈ labsL s) : x.length ≤ s.length := spn_le 46 _ s x h

/-! ### the program's -/
theorem is0x_len {x : U8s} (h : is0x x = true) : 2 ≤ x.length := by
  unfold is0x at h
  rw [beq_iff_eq] at h
  have := congrArg List.length h
  rw [List.length_take] at this
  simp at this
  omega
theorem cut0x (x : U8s) (hl : x.length ≤ 1073741824) : strings_CutPrefix.f (mkB x) (⟨#[48, 120]⟩ : ByteArray) = some (if is0x x = true then (mkB (x.drop 2), true) else (mkB x, false)) := by
  have e1 : (⟨#[48, 120]⟩ : ByteArray).size = 2 := rfl
  have e2 : (⟨#[48, 120]⟩ : ByteArray).toList = [48, 120] := by decide +kernel
  have hp : stringslite_HasPrefix.f (mkB x) (⟨#[48, 120]⟩ : ByteArray) = some (is0x x) := by
    unfold stringslite_HasPrefix.f
    rw [mkB_size, e1, e2]
    by_cases h2 : 2 ≤ x.length
    · rw [if_pos (by omega), if_pos (by decide), if_pos (by omega)]
      rw [show ((((2 : Nat) : Int) : Int).toNat) = 2 from rfl, ext_mk, mkB_toList, List.drop_zero]
      rfl
    · rw [if_neg (by omega)]
      cases hq : is0x x with
      | false => rfl
      | true => exact absurd (is0x_len hq) h2
  unfold strings_CutPrefix.f stringslite_CutPrefix.f
  rw [hp, Option.bind_some]
  cases h : is0x x with
  | false => rfl
  | true =>
    have h2 := is0x_len h
    rw [if_pos rfl, e1, mkB_size, if_pos (by decide), if_pos (by omega), show ((((2 : Nat) : Int) : Int).toNat) = 2 from rfl, ext_mk, List.take_of_length_le (Nat.le_refl _)]
    rfl
theorem numeric_ok (x : U8s) (hl : x.length ≤ 1073741824) : uri_numeric.f (mkB x) = some (numL x) := by
  unfold uri_numeric.f numL
  rw [cut0x x hl, Option.bind_some]
  cases h : is0x x with
  | true =>
    rw [if_pos rfl, if_pos rfl, if_pos rfl]
    unfold uri_all_uri_numeric_1.f
    rw [if_pos (by rw [mkB_size, List.length_drop]; omega), Option.bind_some, all_mk]
  | false =>
    simp only [Bool.false_eq_true, ↓reduceIte]
    unfold uri_all_uri_numeric_2.f
    rw [if_pos (by rw [mkB_size]; omega), Option.bind_some, all_mk]
theorem quad_ok (ls : List U8s) (hs : ∀ x ∈ ls, x.length ≤ 1073741824) : uri_quad.f (ls.map mkB) = some (quadL ls) := by
  unfold uri_quad.f quadL
  rw [List.length_map]
  by_cases h4 : ls.length = 4
  · rw [if_pos (by omega), decide_eq_true h4, Bool.true_and]
    unfold slices_ContainsFunc_uri_quad_1.f
    rw [if_pos (by
      rw [List.all_eq_true]
      intro y hy
      obtain ⟨x, hx, rfl⟩ := List.mem_map.1 hy
      rw [decide_eq_true_eq, mkB_size]
      have := hs x hx; omega), Option.bind_some]
    congr 1
    rw [List.any_map]
    have : ∀ l : List U8s, (!(l.any ((fun x : ByteArray => !octetL x.data.toList) ∘ mkB))) = l.all octetL := by
      intro l
      induction l with
      | nil => rfl
      | cons a t ih => simp only [List.any_cons, List.all_cons, Bool.not_or, ih, Function.comp, mkB_l, Bool.not_not]
    exact this ls
  · rw [if_neg (by omega), decide_eq_false h4, Bool.false_and]
theorem rd_map (ls : List U8s) (i : Nat) (h : i < ls.length) : rdOf ByteArray.empty (ls.map mkB) (i : Int) = mkB (ls[i]'h) := by
  unfold rdOf
  rw [Int.toNat_natCast, List.getD_eq_getElem?_getD, List.getElem?_map, List.getElem?_eq_getElem h]; rfl
theorem last_at (ls : List U8s) (h : ls ≠ []) : rdOf ByteArray.empty (ls.map mkB) (wrap64 (((ls.map mkB).length : Int) - 1)) = mkB (lastL ls) ∧ 0 ≤ wrap64 (((ls.map mkB).length : Int) - 1) ∨ 4611686018427387904 < ls.length := by
  by_cases hb : ls.length ≤ 4611686018427387904
  · left
    have h0 : 0 < ls.length := List.length_pos_iff.2 h
    have e : wrap64 (((ls.map mkB).length : Int) - 1) = ((ls.length - 1 : Nat) : Int) := by rw [List.length_map]; unfold wrap64; omega
    rw [e, rd_map ls _ (by omega)]
    refine ⟨?_, by omega⟩
    unfold lastL
    rw [List.getLast?_eq_some_getLast h, Option.getD_some, List.getLast_eq_getElem]
  · right; omega
theorem last_ok (ls : List U8s) (h : ls ≠ []) (hb : ls.length ≤ 1073741824) : wrap64 (((ls.map mkB).length : Int) - 1) = ((ls.length - 1 : Nat) : Int) ∧ rdOf ByteArray.empty (ls.map mkB) ((ls.length - 1 : Nat) : Int) = mkB (lastL ls) := by
  have h0 : 0 < ls.length := List.length_pos_iff.2 h
  refine ⟨by rw [List.length_map]; unfold wrap64; omega, ?_⟩
  rw [rd_map ls _ (by omega)]
  unfold lastL
  rw [List.getLast?_eq_some_getLast h, Option.getD_some, List.getLast_eq_getElem]
theorem lastL_mem (ls : List U8s) (h : ls ≠ []) : lastL ls ∈ ls := by
  unfold lastL
  rw [List.getLast?_eq_some_getLast h, Option.getD_some]
  exact List.getLast_mem h
theorem named_l0 (s : U8s) (ls : List U8s) (hne : ls ≠ []) (hl : s.length ≤ 1073741824) (hs : ∀ x ∈ ls, x.length ≤ 1073741824) (hn : ls.length ≤ 1073741824) : ∀ (d i : Nat), ls.length - i = d → i ≤ ls.length →
    Ev (fun k => uri_Named.l0 k (mkB s) (ls.map mkB) (ls.map mkB) ((ls.map mkB).length : Int) (i : Int)) ((ls.drop i).all labOk && (decide (s.length ≤ 64) && (!numL (lastL ls) || quadL ls))) := by
  obtain ⟨w1, w2⟩ := last_ok ls hne hn
  have hml : (ls.map mkB).length = ls.length := List.length_map ..
  have h0 : 0 < ls.length := List.length_pos_iff.2 hne
  intro d
  induction d with
  | zero =>
    intro i hd hi
    rw [List.drop_eq_nil_of_le (by omega), List.all_nil, Bool.true_and]
    by_cases h64 : s.length ≤ 64
    · refine Ev.step (f := fun _ => if numL (lastL ls) = true then some (quadL ls) else some true) (fun k => ?_) ?_
      · rw [uri_Named.l0, if_neg (by omega), mkB_size, if_pos (by omega), w1, if_pos (by omega), if_pos (by omega), w2, numeric_ok _ (hs _ (lastL_mem ls hne)), Option.bind_some, quad_ok ls hs]
        rfl
      · rw [decide_eq_true h64, Bool.true_and]
        cases numL (lastL ls) with
        | true => exact Ev.congr (fun k => if_pos rfl) (Ev.now _)
        | false => exact Ev.congr (fun k => if_neg (by decide)) (Ev.now _)
    · rw [decide_eq_false h64, Bool.false_and]
      exact Ev.step (f := fun _ => some false) (fun k => by rw [uri_Named.l0, if_neg (by omega), mkB_size, if_neg (by omega)]) (Ev.now _)
  | succ d ih =>
    intro i hd hi
    have hlt : i < ls.length := by omega
    have hx := hs _ (List.getElem_mem hlt)
    have hrd := rd_map ls i hlt
    rw [List.drop_eq_getElem_cons hlt, List.all_cons]
    generalize ls[i] = x at hrd hx ⊢
    have hal : uri_all_uri_Named_1.f (mkB x) = some (x.all fun b => labelI (b.toNat : Int)) := by
      unfold uri_all_uri_Named_1.f
      rw [if_pos (by rw [mkB_size]; omega), all_mk]
    by_cases he : x = []
    · subst he
      rw [show labOk [] = false from rfl, Bool.false_and, Bool.false_and]
      exact Ev.step (f := fun _ => some false) (fun k => by rw [uri_Named.l0, if_pos (by omega), if_pos (by omega), if_pos (by omega), hrd, mkB_toList, if_pos rfl]) (Ev.now _)
    · have hlab : labOk x = x.all fun b => labelI (b.toNat : Int) := by
        unfold labOk
        cases x with
        | nil => exact absurd rfl he
        | cons _ _ => rfl
      rw [hlab]
      cases hq : (x.all fun b => labelI (b.toNat : Int)) with
      | true =>
        rw [hq] at hal
        rw [Bool.true_and]
        exact Ev.step (f := fun k => uri_Named.l0 k (mkB s) (ls.map mkB) (ls.map mkB) ((ls.map mkB).length : Int) ((i + 1 : Nat) : Int)) (fun k => by rw [uri_Named.l0, if_pos (by omega), if_pos (by omega), if_pos (by omega), hrd, mkB_toList, if_neg he, hal, Option.bind_some, if_pos rfl, w64n i (by omega)]) (ih (i + 1) (by omega) (by omega))
      | false =>
        rw [hq] at hal
        rw [Bool.false_and, Bool.false_and]
        exact Ev.step (f := fun _ => some false) (fun k => by rw [uri_Named.l0, if_pos (by omega), if_pos (by omega), if_pos (by omega), hrd, mkB_toList, if_neg he, hal, Option.bind_some, if_neg (by decide)]) (Ev.now _)
theorem spn_len_le (c : UInt8) (k : Nat) (s : U8s) : (spn c k s).length ≤ s.length + 1 := by
  induction s generalizing k with
  | nil => cases k <;> simp [spn]
  | cons b l ih =>
    have ha : ∀ j, (ahead b (spn c j l)).length ≤ l.length + 1 := by
      intro j
      have := ih j
      cases hs : spn c j l with
      | nil => simp [ahead]
      | cons h t => rw [hs] at this; simpa [ahead] using this
    cases k with
    | zero => rw [spn]; have := ha 0; simp only [List.length_cons]; omega
    | succ k =>
      rw [spn]
      split
      · have := ih k; simp only [List.length_cons]; omega
      · have := ha (k + 1); simp only [List.length_cons]; omega
theorem named_ok (s : U8s) (hl : s.length ≤ 536870912) : Ev (fun k => uri_Named.f k (mkB s)) (namedL s) := by
  unfold uri_Named.f strings_Split.f
  have e : spnB ((⟨#[46]⟩ : ByteArray).get! 0) (mkB s).data.toList.length (mkB s) = (labsL s).map mkB := rfl
  refine Ev.congr (fun k => by rw [if_pos ⟨by rw [mkB_size]; omega, rfl⟩, Option.bind_some, e]) ?_
  have := spn_len_le 46 s.length s
  have h := named_l0 s (labsL s) (labsL_ne s) (by omega) (fun x hx => by have := labsL_le s x hx; omega) (by show (spn 46 s.length s).length ≤ _; omega) (labsL s).length 0 (by omega) (Nat.zero_le _)
  rw [List.drop_zero] at h
  exact h

end Go.Proofs.YtepljhleaohbcaaGreatDoor.P
