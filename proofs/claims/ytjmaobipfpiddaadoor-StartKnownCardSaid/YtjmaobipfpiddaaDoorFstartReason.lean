/- start.Reason: a status's usual words, out of a map that the call makes. -/
import Derived.Test.YtjmaobipfpiddaaDoorQ0
import Derived.Maps.Own
import Derived.Maps.OwnOps
import Derived.Maps.Views
set_option linter.unusedVariables false
set_option linter.unusedSimpArgs false
namespace Go.Proofs.YtjmaobipfpiddaaDoor.P
open Go.RowKit Go.Proofs.YtjmaobipfpiddaaDoorW.PrintWords Go.Proofs.YtjmaobipfpiddaaDoorW.PrintLast Go.Proofs.YtjmaobipfpiddaaDoorW.PrintMore Go.Maps Go.WideMaps

theorem plainElem_string_inv {H : Type} {P : Program} {e : TypeId} (he : P.underlying e = some .string) {v : Value} {z : DataW H × List MemPlace} (h : plainElem P e v = some z) : ∃ s, v = .string s ∧ z = (.lit (.string s.data.toList), []) := by
  unfold plainElem at h
  rw [he] at h
  cases v <;> simp at h
  obtain ⟨_, rfl⟩ := h
  exact ⟨_, rfl, rfl⟩
theorem wpList_lookup_own_str {H : Type} {P : Program} (w : World) {ops : Array Oper} {rest : List Oper} {o : Oper} {a : Act} {Q : Exit → Act → World → Prop}
    (hg : o.guard = none) (m x : Operand) (t : TypeId) (hop : o.op = Op.lookup t m x false)
    (k e : TypeId) (K : Keyed P k) (ht : P.underlying t = some (.map k e)) (he : P.underlying e = some .string) (hz : (zeroValue e).run P w = .ok (.string ⟨#[]⟩) w) (b n : Nat) (D : DataW H)
    (hm : a.eval m = .map (some b)) (hown : w.ownsMap P k (plainElem P e) b n D) (key : Value) (kl : Lit) (hx : a.eval x = key) (hkey : keyOf P k key = some kl)
    (hK : ∀ s : ByteArray, D.atKey kl (.lit (.string [])) = .lit (.string s.data.toList) → wpList P ops Q rest (a.put o.dst (.string s)) w) :
    wpList P ops Q (o :: rest) a w := by
  refine wpList_plain hg fun K' hK' => ?_
  obtain ⟨v, ps, hrun, hv⟩ := hown.lookup K ht hz (plainElem_string he (s := ⟨#[]⟩) (by decide)) hkey
  obtain ⟨s, rfl, hs⟩ := plainElem_string_inv he hv
  unfold Oper.wp
  simp [execOp, hop, hm, hx, hrun, Result.andThen]
  exact hK' _ _ (hK s (congrArg Prod.fst hs))
theorem wpList_insert_own {H : Type} {P : Program} (w : World) {ops : Array Oper} {rest : List Oper} {o : Oper} {a : Act} {Q : Exit → Act → World → Prop}
    (hg : o.guard = none) (m x v : Operand) (t : TypeId) (hop : o.op = Op.insert t m x v)
    (k e : TypeId) (K : Keyed P k) (ht : P.underlying t = some (.map k e)) (R : Value → Option (DataW H × List MemPlace)) (b n : Nat) (D : DataW H)
    (hm : a.eval m = .map (some b)) (hown : w.ownsMap P k R b n D) (hn : n < maxLen) (key val : Value) (kl : Lit) (hx : a.eval x = key) (hv : a.eval v = val) (hkey : keyOf P k key = some kl)
    (d : DataW H) (ps : List MemPlace) (hval : R val = some (d, ps))
    (hK : ∀ w', w'.ownsMap P k R b (n + 1) (D.put kl d) → w.grownBy w' (some b) → wpList P ops Q rest (a.put o.dst undef) w') :
    wpList P ops Q (o :: rest) a w := by
  refine wpList_plain hg fun K' hK' => ?_
  obtain ⟨w', hrun, r1, r2⟩ := hown.update K ht hn hkey hval
  unfold Oper.wp
  simp [execOp, hop, hm, hx, hv, hrun, Result.andThen]
  exact hK' _ _ (hK w' r1 r2)
theorem intKeyed : Keyed Tryd.prog 3 := int_keyed Tryd.underlying3
theorem zeroStr (w : World) : (zeroValue 9).run Tryd.prog w = .ok (.string ⟨#[]⟩) w := by kernel_rfl
/-- What the map tells of each status. -/
structure RsInv (D : DataW Unit) (g : Int → List UInt8) : Prop where
  isMap : IsMap D
  tells : ∀ st : Int, D.atKey (.int .i64 st) (.lit (.string [])) = .lit (.string (g st))
theorem RsInv.start : RsInv (.map []) (fun _ => []) := ⟨isMap_empty, fun s => by simp [DataW.atKey]⟩
theorem RsInv.step {D : DataW Unit} {g : Int → List UInt8} (h : RsInv D g) (c : Int) (s : List UInt8) : RsInv (D.put (.int .i64 c) (.lit (.string s))) (fun st => if st = c then s else g st) := by
  refine ⟨h.isMap.put _ _, fun st => ?_⟩
  by_cases e : st = c
  · subst e
    rw [atKey_put_same (k := .int .i64 st) h.isMap (by trivial), if_pos rfl]
  · rw [atKey_put_other (fun e' => e (by injection e')), h.tells st, if_neg e]
/-- The usual words of a status. -/
def reasonL (st : Int) : List UInt8 :=
  if st = 504 then [71, 97, 116, 101, 119, 97, 121, 32, 84, 105, 109, 101, 111, 117, 116] else
  if st = 503 then [83, 101, 114, 118, 105, 99, 101, 32, 85, 110, 97, 118, 97, 105, 108, 97, 98, 108, 101] else
  if st = 502 then [66, 97, 100, 32, 71, 97, 116, 101, 119, 97, 121] else
  if st = 501 then [78, 111, 116, 32, 73, 109, 112, 108, 101, 109, 101, 110, 116, 101, 100] else
  if st = 431 then [82, 101, 113, 117, 101, 115, 116, 32, 72, 101, 97, 100, 101, 114, 32, 70, 105, 101, 108, 100, 115, 32, 84, 111, 111, 32, 76, 97, 114, 103, 101] else
  if st = 429 then [84, 111, 111, 32, 77, 97, 110, 121, 32, 82, 101, 113, 117, 101, 115, 116, 115] else
  if st = 413 then [67, 111, 110, 116, 101, 110, 116, 32, 84, 111, 111, 32, 76, 97, 114, 103, 101] else
  if st = 407 then [80, 114, 111, 120, 121, 32, 65, 117, 116, 104, 101, 110, 116, 105, 99, 97, 116, 105, 111, 110, 32, 82, 101, 113, 117, 105, 114, 101, 100] else
  if st = 403 then [70, 111, 114, 98, 105, 100, 100, 101, 110] else
  if st = 400 then [66, 97, 100, 32, 82, 101, 113, 117, 101, 115, 116] else
  if st = 304 then [78, 111, 116, 32, 77, 111, 100, 105, 102, 105, 101, 100] else
  if st = 200 then [79, 75] else
  []
def start_Reason.f (a0 : Int) : Option ByteArray := if -9223372036854775808 ≤ a0 ∧ a0 ≤ 9223372036854775807 then some ⟨(reasonL a0).toArray⟩ else none
theorem wf64 {a : Int} (h : -9223372036854775808 ≤ a ∧ a ≤ 9223372036854775807) : (Lit.int .i64 a).wf = true := by
  show (decide (IntKind.i64.min ≤ a) && decide (a ≤ IntKind.i64.max)) = true
  rw [Bool.and_eq_true, decide_eq_true_eq, decide_eq_true_eq]
  exact h
set_option maxRecDepth 100000 in
set_option maxHeartbeats 4000000 in
theorem start_Reason.calls (a0 : Int) (r : ByteArray) (w : World) (h : start_Reason.f a0 = some r) :
    Calls Tryd.prog 16 #[.int .i64 a0] w fun e w' => e = .returned (.string r) ∧ Below w.heap.size w w' := by
  unfold start_Reason.f at h
  split at h
  · rename_i hc
    have hr := Option.some.inj h
    have HR := Aside0.mk hr
    have HW := Aside0.mk (wf64 hc)
    have HI := Aside0.mk (((((((((((((RsInv.start.step 200 [79, 75]).step 304 [78, 111, 116, 32, 77, 111, 100, 105, 102, 105, 101, 100]).step 400 [66, 97, 100, 32, 82, 101, 113, 117, 101, 115, 116]).step 403 [70, 111, 114, 98, 105, 100, 100, 101, 110]).step 407 [80, 114, 111, 120, 121, 32, 65, 117, 116, 104, 101, 110, 116, 105, 99, 97, 116, 105, 111, 110, 32, 82, 101, 113, 117, 105, 114, 101, 100]).step 413 [67, 111, 110, 116, 101, 110, 116, 32, 84, 111, 111, 32, 76, 97, 114, 103, 101]).step 429 [84, 111, 111, 32, 77, 97, 110, 121, 32, 82, 101, 113, 117, 101, 115, 116, 115]).step 431 [82, 101, 113, 117, 101, 115, 116, 32, 72, 101, 97, 100, 101, 114, 32, 70, 105, 101, 108, 100, 115, 32, 84, 111, 111, 32, 76, 97, 114, 103, 101]).step 501 [78, 111, 116, 32, 73, 109, 112, 108, 101, 109, 101, 110, 116, 101, 100]).step 502 [66, 97, 100, 32, 71, 97, 116, 101, 119, 97, 121]).step 503 [83, 101, 114, 118, 105, 99, 101, 32, 85, 110, 97, 118, 97, 105, 108, 97, 98, 108, 101]).step 504 [71, 97, 116, 101, 119, 97, 121, 32, 84, 105, 109, 101, 111, 117, 116]))
    have HM := Aside0.mk (World.ownsMap_made (H := Unit) w Tryd.prog 3 (plainElem Tryd.prog 9))
    have HB := Aside0.mk (show Below w.heap.size w (w.alloc (.map #[] 0)) from below_alloc (Below.refl _ _) _)
    clear h hc hr
    have hmm := @run_makeMap Tryd.prog
    go_enter Tryd.func16, Tryd.ntmps16
    go_wp2_with (first | (at_lookup; refine wpList_lookup_own_str _ rfl _ _ 55 rfl 3 9 intKeyed Tryd.underlying55 Tryd.underlying9 (zeroStr _) w.heap.size _ _ rfl HM.out _ _ rfl (keyOf_int_mk Tryd.underlying3 HW.out) ?_; intro s hat; have HA := Aside0.mk hat; clear hat) | (refine wpList_insert_own _ rfl _ _ _ 55 rfl 3 9 intKeyed Tryd.underlying55 _ w.heap.size _ _ rfl HM.out (by decide) _ _ _ rfl rfl (keyOf_int_mk Tryd.underlying3 (by decide)) _ [] (plainElem_string Tryd.underlying9 (by decide)) ?_; intro w3 hm3 hg3; have n1_ := Aside0.mk hm3; have n2_ := Aside0.mk (HB.out.grown hg3 HB.out.size (fun j hj => by cases hj; exact Nat.le_refl _)); clear HM HB hm3 hg3; have HM := n1_; have HB := n2_; clear n1_ n2_))
    go_ret
    refine ⟨?_, HB.out⟩
    have hs := HI.out.tells a0
    have hs2 := HA.out.symm.trans hs
    injection hs2 with hs2
    injection hs2 with hs2
    rw [← HR.out]
    have hs3 : s.data.toList = reasonL a0 := hs2
    have hs4 : s = ⟨(reasonL a0).toArray⟩ := by
      cases s
      rw [← hs3]
    exact congrArg (fun x => Ending.returned (Value.string x)) hs4
  · exact absurd h (by simp)
end Go.Proofs.YtjmaobipfpiddaaDoor.P
