/- vary.Names: the names, once each, with small letters; a star tells itself alone. -/
import Derived.Test.YtalolopngekgbaaDoorFBulk
import Derived.Maps.Own
import Derived.Maps.OwnOps
import Derived.Maps.Views
set_option linter.unusedVariables false
set_option linter.unusedSimpArgs false
namespace Go.Proofs.YtalolopngekgbaaDoor.P
open Go.RowKit Go.Proofs.YtalolopngekgbaaDoorW.PrintWords Go.Proofs.YtalolopngekgbaaDoorW.PrintLast Go.Proofs.YtalolopngekgbaaDoorW.PrintMore Go.Maps Go.WideMaps

def starS : ByteArray := ⟨#[42]⟩
def varyS : ByteArray := ⟨#[118, 97, 114, 121]⟩
/-- One element more. -/
def nmStep (st : List ByteArray × Bool) (x : ByteArray) : List ByteArray × Bool :=
  if lowB x = starS then (st.1, true) else if lowB x ∈ st.1 then st else (st.1 ++ [lowB x], st.2)
def namesB (xs : List ByteArray) : List ByteArray × Bool := xs.foldl nmStep ([], false)
def vary_Names.f (l0 : List S32) : Option (List ByteArray × Bool) := if bulkL l0 ≤ 1073741824 then some (namesB (elemsB l0 varyS)) else none

theorem nmStep_len (st : List ByteArray × Bool) (x : ByteArray) : (nmStep st x).1.length ≤ st.1.length + 1 := by
  unfold nmStep
  repeat' split
  all_goals simp

theorem strKeyed : Keyed Tryd.prog 9 := string_keyed Tryd.underlying9
theorem zeroInt (w : World) : (zeroValue 3).run Tryd.prog w = .ok (.int .i64 0) w := by kernel_rfl
/-- A text as a key. -/
def keyS (s : ByteArray) : Lit := .string s.data.toList
theorem keyS_inj {a b : ByteArray} (h : keyS a = keyS b) : a = b := by
  unfold keyS at h
  injection h with h
  cases a; cases b
  congr 1
  exact Array.toList_inj.1 h
/-- What the map tells of each key: was it met? -/
structure NmInv (D : DataW Unit) (acc : List ByteArray) (st : Bool) : Prop where
  isMap : IsMap D
  tells : ∀ s : ByteArray, D.atKey (keyS s) (.lit (.int .i64 0)) = .lit (.int .i64 (if s ∈ acc ∨ (s = starS ∧ st = true) then 1 else 0))
theorem NmInv.start : NmInv (.map []) [] false := ⟨isMap_empty, fun s => by simp [DataW.atKey]⟩
theorem NmInv.step {D : DataW Unit} {acc : List ByteArray} {st : Bool} (h : NmInv D acc st) (hns : starS ∉ acc) (x : ByteArray) : NmInv (D.put (keyS (lowB x)) (.lit (.int .i64 1))) (nmStep (acc, st) x).1 (nmStep (acc, st) x).2 := by
  refine ⟨h.isMap.put _ _, fun s => ?_⟩
  by_cases e : s = lowB x
  · subst e
    rw [atKey_put_same (k := keyS (lowB x)) h.isMap (by unfold keyS; trivial)]
    unfold nmStep
    by_cases e1 : lowB x = starS
    · rw [if_pos e1, if_pos (.inr ⟨e1, rfl⟩)]
    · rw [if_neg e1]
      by_cases e2 : lowB x ∈ acc
      · rw [if_pos e2, if_pos (.inl e2)]
      · rw [if_neg e2, if_pos (.inl (by simp))]
  · rw [atKey_put_other (fun e' => e (keyS_inj e')), h.tells s]
    unfold nmStep
    by_cases e1 : lowB x = starS
    · rw [if_pos e1]
      have : (s ∈ acc ∨ s = starS ∧ st = true) ↔ (s ∈ acc ∨ s = starS ∧ true = true) := by
        constructor
        · rintro (h | ⟨h, _⟩)
          · exact .inl h
          · exact .inr ⟨h, rfl⟩
        · rintro (h | ⟨h, _⟩)
          · exact .inl h
          · exact absurd (h.trans e1.symm) e
      simp only [this]
    · rw [if_neg e1]
      by_cases e2 : lowB x ∈ acc
      · rw [if_pos e2]
      · rw [if_neg e2]
        have : (s ∈ acc ∨ s = starS ∧ st = true) ↔ (s ∈ acc ++ [lowB x] ∨ s = starS ∧ st = true) := by
          simp [e]
        simp only [this]
theorem nmStep_star {st : List ByteArray × Bool} (h : starS ∉ st.1) (x : ByteArray) : starS ∉ (nmStep st x).1 := by
  unfold nmStep
  by_cases e1 : lowB x = starS
  · rw [if_pos e1]; exact h
  · rw [if_neg e1]
    by_cases e2 : lowB x ∈ st.1
    · rw [if_pos e2]; exact h
    · rw [if_neg e2]
      simp
      exact ⟨h, fun e => e1 e.symm⟩

/-- What lies in memory: the map, the elements, the names. -/
structure NmMem (w0 : World) (B : Nat) (vE v : Value) (xs acc : List ByteArray) (n : Nat) (D : DataW Unit) (W : World) : Prop where
  map : W.ownsMap Tryd.prog 9 (plainElem Tryd.prog 3) B n D
  row : Kd.R Kd.string 9 W w0.heap.size (fun k => k ≠ B ∧ some k ≠ vE.ownBlock) v acc
  els : Kd.R Kd.string 9 W w0.heap.size (fun k => k ≠ B ∧ some k ≠ v.ownBlock) vE xs
  below : Below w0.heap.size w0 W
  gb : w0.heap.size ≤ B
theorem grown_below {W W1 : World} (hb : Below W.heap.size W W1) (row : Option Nat) : W.grownBy W1 row := ⟨hb.os, hb.tape, hb.output, hb.size, fun k hk _ => hb.block k hk⟩
theorem NmMem.later {w0 W W1 : World} {B n : Nat} {vE v : Value} {xs acc : List ByteArray} {D : DataW Unit} (M : NmMem w0 B vE v xs acc n D W) (hb : Below W.heap.size W W1) : NmMem w0 B vE v xs acc n D W1 :=
  ⟨M.map.kept (grown_below hb none) (by simp), Kd.R_below M.row hb, Kd.R_below M.els hb, M.below.trans (hb.mono M.below.size), M.gb⟩
theorem NmMem.put {w0 W W1 : World} {B n : Nat} {vE v : Value} {xs acc : List ByteArray} {D D1 : DataW Unit} (M : NmMem w0 B vE v xs acc n D W) (hg : W.grownBy W1 (some B)) (hm : W1.ownsMap Tryd.prog 9 (plainElem Tryd.prog 3) B (n + 1) D1) : NmMem w0 B vE v xs acc (n + 1) D1 W1 :=
  ⟨hm, Kd.R_grown M.row hg (fun k hk e => hk.1 (Option.some.inj e)), Kd.R_grown M.els hg (fun k hk e => hk.1 (Option.some.inj e)), M.below.grown hg M.below.size (fun j hj => by cases hj; exact M.gb), M.gb⟩
theorem NmMem.app {w0 W W1 : World} {B n : Nat} {vE v v1 : Value} {xs acc l1 : List ByteArray} {D : DataW Unit} (M : NmMem w0 B vE v xs acc n D W) (hg : W.grownBy W1 v.ownBlock) (hat : v1.ownBlock = v.ownBlock ∨ ∃ b, v1.ownBlock = some b ∧ W.heap.size ≤ b) (hb : Below w0.heap.size w0 W1) (ho : Kd.R Kd.string 9 W1 w0.heap.size (fun k => k ≠ B ∧ some k ≠ vE.ownBlock) v1 l1) : NmMem w0 B vE v1 xs l1 n D W1 :=
  ⟨M.map.kept hg (fun e => (M.row.1 B e.symm).1 rfl), ho, Kd.R_after M.els hg hat, hb, M.gb⟩

theorem fresh_ok {w0 W : World} {B n : Nat} {vE v : Value} {xs acc : List ByteArray} {D : DataW Unit} (M : NmMem w0 B vE v xs acc n D W) : ∀ k, W.heap.size ≤ k → k ≠ B ∧ some k ≠ vE.ownBlock := fun k hk => by
  have h1 := M.map.lt
  refine ⟨by omega, fun e => ?_⟩
  obtain ⟨inner, ho⟩ := Kd.R_own M.els
  have := own_lt ho k e.symm
  omega
/-- What holds at the loop's head. -/
def NmRel (w : World) (vE : Value) (xs : List ByteArray) (kk : Nat) (v : Value) (wr : World) : Prop :=
  ∃ (acc : List ByteArray) (st : Bool) (D : DataW Unit), NmMem w w.heap.size vE v xs acc kk D wr ∧ NmInv D acc st ∧ starS ∉ acc ∧ acc.length ≤ kk ∧ (xs.take kk).foldl nmStep ([], false) = (acc, st)
theorem NmRel.next {w : World} {vE : Value} {xs : List ByteArray} {kk : Nat} {v : Value} {W : World} {acc acc1 : List ByteArray} {st st1 : Bool} {D : DataW Unit} {y : ByteArray} (hlt : kk < xs.length) (hy : xs.getD kk ByteArray.empty = y)
    (I : NmInv D acc st) (hns : starS ∉ acc) (hal : acc.length ≤ kk) (hf : (xs.take kk).foldl nmStep ([], false) = (acc, st)) (hst : nmStep (acc, st) y = (acc1, st1))
    (M : NmMem w w.heap.size vE v xs acc1 (kk + 1) (D.put (keyS (lowB y)) (.lit (.int .i64 1))) W) : NmRel w vE xs (kk + 1) v W := by
  have h1 := I.step hns y
  have h2 := nmStep_star (st := (acc, st)) hns y
  have h3 := nmStep_len (acc, st) y
  rw [hst] at h1 h2 h3
  have hsn : xs.take (kk + 1) = xs.take kk ++ [y] := by
    rw [List.take_succ_eq_append_getElem hlt, ← hy, List.getD_eq_getElem?_getD, List.getElem?_eq_getElem hlt]; rfl
  exact ⟨acc1, st1, _, M, h1, h2, by have : acc1.length ≤ acc.length + 1 := h3; omega, by rw [hsn, List.foldl_append, hf]; exact hst⟩

set_option maxRecDepth 1000000 in
set_option maxHeartbeats 4000000 in
theorem vary_Names.calls (A0 : Option Addr) (c0 : Nat) (l0 : List S32) (r1 : List ByteArray) (r2 : Bool) (w : World) (hr0 : Kd.C k32 w A0 l0.length l0) (hc0 : l0.length ≤ c0) (h : vary_Names.f l0 = some (r1, r2)) :
    Calls Tryd.prog 9 #[.slice A0 l0.length c0] w fun e w' => ∃ v0_ : Value, e = .returned (.tuple #[v0_, .bool r2]) ∧ Kd.R Kd.string 9 w' w.heap.size (fun _ => True) v0_ r1 ∧ Below w.heap.size w w' := by
  unfold vary_Names.f at h
  split at h
  · rename_i hs
    have HR := Aside0.mk (Option.some.inj h)
    have HS := Aside0.mk hs
    obtain ⟨k, hk⟩ := (elements_ev l0 varyS hs (by decide)).rounds
    have hmm := @run_makeMap Tryd.prog
    have hC0 := hop_Elements.calls k A0 c0 l0 varyS (elemsB l0 varyS) (w.alloc (.map #[] 0)) (Kd.C_alloc hr0 _) hc0 hk
    have HC := Aside0.mk hC0
    clear h hs hk hC0 hr0
    go_enter Tryd.func9, Tryd.ntmps9
    go_wp2_with fail
    refine HC.out.mono ?_
    rintro e w1 ⟨vE, rfl, hE, hb⟩
    obtain ⟨Ae, ce, ee⟩ := Kd.R_slice hE
    subst ee
    have hz : (w.alloc (.map #[] 0)).heap.size = w.heap.size + 1 := by simp
    have hM0 : NmMem w w.heap.size (.slice Ae (elemsB l0 varyS).length ce) (.slice none 0 0) (elemsB l0 varyS) [] 0 (.map []) w1 :=
      ⟨(World.ownsMap_made _ _ _ _).kept (grown_below hb none) (by simp), Kd.R_nil _ _ _ _ _, Kd.R_lower (Kd.R_mono (Kd.R_bound hE) (fun k hk => ⟨by have := hk.2.1; omega, by simp [Value.ownBlock]⟩)) (by omega), (below_alloc (Below.refl _ w) _).trans (hb.mono (by omega)), Nat.le_refl _⟩
    have HM0 := Aside0.mk hM0
    have HX := Aside0.mk (show (elemsB l0 varyS).length ≤ 1073741824 ∧ ∀ x ∈ elemsB l0 varyS, x.size ≤ 1073741824 from ⟨Nat.le_trans (elemsB_length _ _) HS.out, fun x hx => Nat.le_trans (elemsB_mem hx).1 HS.out⟩)
    clear hmm HC hE hb hM0 HS hz
    generalize elemsB l0 varyS = xs at HR HM0 HX
    have eq0 : ∀ a : ByteArray, a = starS → (a.toList == [42]) = true := fun a h => by rw [h, ByteArray.toList_eq]; rfl
    have eq1 : ∀ a : ByteArray, a ≠ starS → (a.toList == [42]) = false := fun a h => beq_eq_false_iff_ne.2 fun e => h (by rw [ByteArray.toList_eq] at e; cases a; unfold starS; congr 1; exact Array.toList_inj.1 e)
    have EQ := Aside0.mk (And.intro eq0 eq1)
    clear eq0 eq1
    go_wp2
    go_loopw [4, 13] (fun v4 v13 wr => ∃ kk : Nat, v13 = .int .i64 kk ∧ kk ≤ xs.length ∧ Aside0 (NmRel w (.slice Ae xs.length ce) xs kk v4 wr)) (fun _ s13 _ => xs.length - (intOf s13).toNat)
    case atStart => exact ⟨0, rfl, Nat.zero_le _, ⟨⟨[], false, .map [], HM0.out, NmInv.start, by simp, Nat.zero_le _, by simp⟩⟩⟩
    case round =>
      rename_i s4 s13
      obtain ⟨kk, rfl, hkk, HREL⟩ := hrel
      obtain ⟨acc, st, D, M, I, hns, hal, hf⟩ := HREL.out
      clear HREL HM0
      by_cases hlt : kk < xs.length
      · have hltz : (kk : Int) < (xs.length : Int) := by omega
        obtain ⟨ad, cs, hA, hcs, hK, hcell⟩ := Kd.C_get (Kd.R_reads' M.els).2.2 ByteArray.empty (kk : Int) (by omega) hltz
        subst hA
        have hK' : cs = [.string (xs.getD kk ByteArray.empty)] := hK
        have hx := hcell 0 (.string (xs.getD kk ByteArray.empty)) (by rw [hK']; rfl)
        have l2 : wr.cell? (ad.add kk) = some (.string (xs.getD kk ByteArray.empty)) := by simpa [Kd.string, Kd.scalar] using hx
        clear hcell hK hK' hx hcs
        have hmem : xs.getD kk ByteArray.empty ∈ xs := by rw [List.getD_eq_getElem?_getD, List.getElem?_eq_getElem hlt]; exact List.getElem_mem hlt
        have hys := HX.out.2 _ hmem
        generalize hy : xs.getD kk ByteArray.empty = y at l2 hmem hys
        have HL := Aside0.mk (text_Lower.calls y (lowB y) wr (lower_ok y (by omega)))
        have hkl : (lowB y).size ≤ maxLen := by rw [lowB_size]; unfold maxLen; omega
        have HKEY := Aside0.mk (show keyOf Tryd.prog 9 (.string (lowB y)) = some (keyS (lowB y)) from keyOf_string_mk Tryd.underlying9 hkl)
        have HC := Aside0.mk (I.tells (lowB y))
        have HF := Aside0.mk (And.intro hlt (And.intro hy (And.intro I (And.intro hns (And.intro hal hf)))))
        have HM := Aside0.mk M
        obtain ⟨An, cn, en⟩ := Kd.R_slice M.row
        have hn1 : acc.length ≤ 1073741824 := by have := HX.out.1; omega
        have HB := Aside0.mk (And.intro hn1 (show kk < maxLen by unfold maxLen; have := HX.out.1; omega))
        have hxl : (xs.length : Int) ≤ 1073741824 := by have := HX.out.1; omega
        clear hy hys hmem hkl hf hal M I hn1
        subst en
        by_cases e1 : lowB y = starS
        · have hstp : nmStep (acc, st) y = (acc, true) := by unfold nmStep; rw [if_pos e1]
          have hst := EQ.out.1 _ e1
          have HST := Aside0.mk hstp
          have hc0 := HC.out
          have e3 : (lowB y ∈ acc ∨ lowB y = starS ∧ st = true) ↔ st = true := ⟨fun h => h.elim (fun h => absurd (e1 ▸ h) hns) (·.2), fun h => .inr ⟨e1, h⟩⟩
          simp only [e3] at hc0
          clear hns hstp HC e1 e3
          cases st with
          | true =>
            rw [if_pos rfl] at hc0
            have HC0 := Aside0.mk hc0
            clear hc0
            go_wp2_with (first | (go_at_call 19; refine HL.out.mono ?_; rintro e w2 ⟨rfl, hb⟩; have HM2 := Aside0.mk (HM.out.later hb); clear hb) | (at_lookup; refine wpList_lookup_own_int _ rfl _ _ 39 rfl 9 3 .i64 strKeyed Tryd.underlying39 Tryd.underlying3 (zeroInt _) w.heap.size kk D rfl HM2.out.map _ (keyS (lowB y)) rfl HKEY.out ?_; intro c hat hwc; obtain rfl : c = 1 := (by rw [HC0.out] at hat; injection hat with hat; injection hat with _ hat; exact hat.symm); clear hat hwc) | (at_mapUpdate; refine wpList_mapUpdate_own _ rfl _ _ _ 39 rfl 9 3 strKeyed Tryd.underlying39 _ w.heap.size kk _ rfl HM2.out.map HB.out.2 _ _ _ rfl rfl HKEY.out _ [] (plainElem_int Tryd.underlying3 (by decide)) ?_; intro w3 hm3 hg3; have HM4 := Aside0.mk (HM2.out.put hg3 hm3); clear hm3 hg3))
            go_roundw
            case rel => exact ⟨kk + 1, by go_num, HF.out.1, ⟨NmRel.next HF.out.1 HF.out.2.1 HF.out.2.2.1 HF.out.2.2.2.1 HF.out.2.2.2.2.1 HF.out.2.2.2.2.2 HST.out HM4.out⟩⟩
            case measure => simp [intOf]; have := HF.out.1; omega
          | false =>
            rw [if_neg (by decide)] at hc0
            have HC0 := Aside0.mk hc0
            clear hc0
            go_wp2_with (first | (go_at_call 19; refine HL.out.mono ?_; rintro e w2 ⟨rfl, hb⟩; have HM2 := Aside0.mk (HM.out.later hb); clear hb) | (at_lookup; refine wpList_lookup_own_int _ rfl _ _ 39 rfl 9 3 .i64 strKeyed Tryd.underlying39 Tryd.underlying3 (zeroInt _) w.heap.size kk D rfl HM2.out.map _ (keyS (lowB y)) rfl HKEY.out ?_; intro c hat hwc; obtain rfl : c = 0 := (by rw [HC0.out] at hat; injection hat with hat; injection hat with _ hat; exact hat.symm); clear hat hwc) | (at_mapUpdate; refine wpList_mapUpdate_own _ rfl _ _ _ 39 rfl 9 3 strKeyed Tryd.underlying39 _ w.heap.size kk _ rfl HM2.out.map HB.out.2 _ _ _ rfl rfl HKEY.out _ [] (plainElem_int Tryd.underlying3 (by decide)) ?_; intro w3 hm3 hg3; have HM4 := Aside0.mk (HM2.out.put hg3 hm3); clear hm3 hg3))
            go_roundw
            case rel => exact ⟨kk + 1, by go_num, HF.out.1, ⟨NmRel.next HF.out.1 HF.out.2.1 HF.out.2.2.1 HF.out.2.2.2.1 HF.out.2.2.2.2.1 HF.out.2.2.2.2.2 HST.out HM4.out⟩⟩
            case measure => simp [intOf]; have := HF.out.1; omega
        · have hst := EQ.out.2 _ e1
          have hc0 := HC.out
          by_cases e2 : lowB y ∈ acc
          · have hstp : nmStep (acc, st) y = (acc, st) := by unfold nmStep; rw [if_neg e1, if_pos e2]
            rw [if_pos (.inl e2)] at hc0
            have HC0 := Aside0.mk hc0
            have HST := Aside0.mk hstp
            clear hc0 e2 hns hstp HC e1
            go_wp2_with (first | (go_at_call 19; refine HL.out.mono ?_; rintro e w2 ⟨rfl, hb⟩; have HM2 := Aside0.mk (HM.out.later hb); clear hb) | (at_lookup; refine wpList_lookup_own_int _ rfl _ _ 39 rfl 9 3 .i64 strKeyed Tryd.underlying39 Tryd.underlying3 (zeroInt _) w.heap.size kk D rfl HM2.out.map _ (keyS (lowB y)) rfl HKEY.out ?_; intro c hat hwc; obtain rfl : c = 1 := (by rw [HC0.out] at hat; injection hat with hat; injection hat with _ hat; exact hat.symm); clear hat hwc) | (at_mapUpdate; refine wpList_mapUpdate_own _ rfl _ _ _ 39 rfl 9 3 strKeyed Tryd.underlying39 _ w.heap.size kk _ rfl HM2.out.map HB.out.2 _ _ _ rfl rfl HKEY.out _ [] (plainElem_int Tryd.underlying3 (by decide)) ?_; intro w3 hm3 hg3; have HM4 := Aside0.mk (HM2.out.put hg3 hm3); clear hm3 hg3))
            go_roundw
            case rel => exact ⟨kk + 1, by go_num, HF.out.1, ⟨NmRel.next HF.out.1 HF.out.2.1 HF.out.2.2.1 HF.out.2.2.2.1 HF.out.2.2.2.2.1 HF.out.2.2.2.2.2 HST.out HM4.out⟩⟩
            case measure => simp [intOf]; have := HF.out.1; omega
          · have hstp : nmStep (acc, st) y = (acc ++ [lowB y], st) := by unfold nmStep; rw [if_neg e1, if_neg e2]
            rw [if_neg (by rintro (h | ⟨h, _⟩); exact e2 h; exact e1 h)] at hc0
            have HC0 := Aside0.mk hc0
            have HST := Aside0.mk hstp
            clear hc0 e2 hns hstp HC e1
            go_wp2_with (first | (go_at_call 19; refine HL.out.mono ?_; rintro e w2 ⟨rfl, hb⟩; have HM2 := Aside0.mk (HM.out.later hb); clear hb) | (at_lookup; refine wpList_lookup_own_int _ rfl _ _ 39 rfl 9 3 .i64 strKeyed Tryd.underlying39 Tryd.underlying3 (zeroInt _) w.heap.size kk D rfl HM2.out.map _ (keyS (lowB y)) rfl HKEY.out ?_; intro c hat hwc; obtain rfl : c = 0 := (by rw [HC0.out] at hat; injection hat with hat; injection hat with _ hat; exact hat.symm); clear hat hwc) | ((with_reducible refine gate_builtin (b := .append) (xs := #[.tmp 27, .tmp 29]) rfl ?_); at_builtin; refine Kd.R_append Kd.string (w0 := w) w.heap.size rfl (.tmp 27) (.tmp 29) 23 9 (.string ⟨#[]⟩) 16 rfl Tryd.underlying23 info9 rfl (by decide) (by decide) (.slice An acc.length cn) acc (lowB y) [.string (lowB y)] (fun k => k ≠ w.heap.size ∧ some k ≠ (Value.slice (some ad) xs.length ce).ownBlock) (fun _ => False) rfl rfl ?aP (fun _ hk => hk.elim) ?aF HM2.out.row HM2.out.below HM2.out.below.size ?aL ?_; (case aP => exact rfl); (case aF => exact fresh_ok HM2.out); (case aL => have := HB.out.1; omega); intro v1 w3 ho hb hg hat; obtain ⟨Ao, co, eo⟩ := Kd.R_slice ho; subst eo; rw [List.length_append, List.length_singleton] at ho hat; have HM3 := Aside0.mk (HM2.out.app hg hat hb ho); clear ho hb hg hat) | (at_mapUpdate; refine wpList_mapUpdate_own _ rfl _ _ _ 39 rfl 9 3 strKeyed Tryd.underlying39 _ w.heap.size kk _ rfl HM3.out.map HB.out.2 _ _ _ rfl rfl HKEY.out _ [] (plainElem_int Tryd.underlying3 (by decide)) ?_; intro w3 hm3 hg3; have HM4 := Aside0.mk (HM3.out.put hg3 hm3); clear hm3 hg3))
            go_roundw
            case rel => exact ⟨kk + 1, by go_num, HF.out.1, ⟨NmRel.next HF.out.1 HF.out.2.1 HF.out.2.2.1 HF.out.2.2.2.1 HF.out.2.2.2.2.1 HF.out.2.2.2.2.2 HST.out HM4.out⟩⟩
            case measure => simp [intOf]; have := HF.out.1; omega
      · have hke : kk = xs.length := by omega
        subst hke
        rw [List.take_length] at hf
        have hr : (acc, st) = (r1, r2) := hf.symm.trans HR.out
        obtain ⟨rfl, rfl⟩ := Prod.mk.inj hr
        have HKEY := show keyOf Tryd.prog 9 (.string ⟨#[42]⟩) = some (keyS starS) from keyOf_string_mk Tryd.underlying9 (by decide)
        obtain ⟨c, hrun, hat, _⟩ := M.map.drew.lookup_int strKeyed Tryd.underlying39 Tryd.underlying3 (zeroInt _) HKEY
        rw [I.tells starS] at hat
        injection hat with hat
        injection hat with _ hat
        obtain ⟨An, cn, en⟩ := Kd.R_slice M.row
        have HM := Aside0.mk M
        subst en
        clear HKEY hf M I hal HX
        cases st with
        | true =>
          rw [if_pos (.inr ⟨rfl, rfl⟩)] at hat
          subst hat
          clear hns
          go_wp2
          go_region_law (fail)
          go_wp2
          go_ret2
          exact ⟨_, rfl, Kd.R_drew (Kd.R_mono HM.out.row (fun _ _ => trivial)), below_drew1 HM.out.below⟩
        | false =>
          rw [if_neg (by rintro (h | ⟨_, h⟩); exact hns h; cases h)] at hat
          subst hat
          clear hns
          go_wp2
          go_region_law (fail)
          go_wp2
          go_ret2
          exact ⟨_, rfl, Kd.R_drew (Kd.R_mono HM.out.row (fun _ _ => trivial)), below_drew1 HM.out.below⟩
  · exact absurd h (by simp)
end Go.Proofs.YtalolopngekgbaaDoor.P
