/- tollhouse: 'FrameSmuggles': the row and its card, out of the walk and the plain law. -/
import Derived.Test.YtcamdfjjdigaeaaDoorCards
import Derived.Test.YtcamdfjjdigaeaaDoorTie
import Derived.Test.YtcamdfjjdigaeaaDoorQtollhouselaw07FrameSmuggles
import Derived.Test.YtcamdfjjdigaeaaDoorPFrameSmuggles
import Derived.Test.YtcamdfjjdigaeaaDoorWords
import Derived.Test.YtcamdfjjdigaeaaDoorFTabOf
import Derived.Test.YtcamdfjjdigaeaaDoorFCase
import Derived.Test.YtcamdfjjdigaeaaDoorFOpenM
import Derived.WalkKit
import Derived.ProofKit
import Derived.OpenShut
import Derived.ShutString
import Derived.ChangeOld
import Derived.Below
import Derived.SizedLaws
import Derived.Deep.DeepHandedRow
import Derived.Lib.LaidTab
import Derived.LaidOnce
import Derived.LaidLaws
import Derived.Deep.DeepWitnessRowRef
namespace Go.Proofs.YtcamdfjjdigaeaaDoor.frameSmuggles
open Go.ChangeShapes Go.WideShapes Go.ChangeAt Go.RowKit Go.Proofs.YtcamdfjjdigaeaaDoor.P
open Go.ChangeMaps (open_string shut_string)
set_option linter.unusedVariables false
theorem own : ownKnob Tryd.prog.godebug = none := by kernel_rfl
theorem laidOut : laidOutB Tryd.prog = true := by kernel_rfl
/-- What a datum's cells hold. -/
def flat : Nat → DataW Unit → List Value
  | 0, _ => []
  | _ + 1, .lit (.int k n) => [.int k n]
  | _ + 1, .lit (.string s) => [.string ⟨s.toArray⟩]
  | _ + 1, .lit (.bool b) => [.bool b]
  | k + 1, .agg parts => parts.flatMap (flat k)
  | _ + 1, _ => []
def lays (w : World) (g : Nat) (d : DataW Unit) : World := { w with heap := w.heap.modify g fun
  | .cells _ t frozen => .cells (flat 9 d).toArray t frozen
  | o => o }
/-- A slice's rows lie in a block of their own. -/
def setv (w : World) (g : Nat) (v : Value) : World := { w with heap := w.heap.modify g fun
  | .cells _ t frozen => .cells #[v] t frozen
  | o => o }
def pushed (w : World) (o : Obj) : World := { w with heap := w.heap.push o }
def laysS (w : World) (g : Nat) (t : Nat) : World := pushed (setv w g (.slice (some ⟨w.heap.size, 0, none⟩) Lib.caseA.size Lib.caseA.size)) (.cells Lib.caseCells5 t (0, 0))
/-- A world for the witness. -/
noncomputable def laidWorld (os : Os) : World := lays (lays (laysS (World.holding Tryd.prog os ⟨#[], #[], []⟩) 1 115) 3 Rows.laid_unicode_utf8_acceptRanges) 2 Rows.laid_unicode_utf8_first
theorem laid_met (os : Os) : laidMetH Tryd.prog Rows.frameSmugglesUptoRow.laid ((laidWorld os).forCall (fun _ _ => 0) ⟨#[], #[.agg #[.int .i64 0, .string ⟨#[]⟩, .int .i64 0, .slice none 0 0]], []⟩).memory :=
  laid_case (l := [("unicode/utf8.acceptRanges", Rows.laid_unicode_utf8_acceptRanges)]) (f := ("unicode/utf8.first", Rows.laid_unicode_utf8_first)) 9 (by kernel_rfl) (by kernel_rfl) (by kernel_rfl) (World.holding Tryd.prog os ⟨#[], #[], []⟩).heap.size 115 (Nat.ne_of_beq_eq_false (by kernel_rfl)) (by kernel_rfl) (by kernel_rfl) (by kernel_rfl)
theorem reads (os : Os) {H : Type} (enc : TypeId × Value → H) : ∃ places, DataW.whole enc Tryd.prog ((laidWorld os).forCall (fun _ _ => 0) ⟨#[], #[.agg #[.int .i64 0, .string ⟨#[]⟩, .int .i64 0, .slice none 0 0]], []⟩).memory Tryd.f7.params.toList Rows.frameSmugglesSpec.vars false (#[.agg #[.int .i64 0, .string ⟨#[]⟩, .int .i64 0, .slice none 0 0]] : Array Value).toList 8 = some ([.agg [.lit (.int .i64 0), .lit (.string []), .lit (.int .i64 0), .nil]], [], places) :=
  ⟨[], by kernel_rfl⟩
set_option maxRecDepth 100000 in
theorem lifted (os : Os) (started : os.Started) (H : Type) (enc : TypeId × Value → H) (F : Stop.Interp) :
    ReturnsInHanded {} Tryd.checked os 7 .any ((Rows.OpenSpec.upto Rows.frameSmugglesSpec).preRow enc Tryd.prog Tryd.f7 Rows.frameSmugglesUptoRow.domain false Rows.frameSmugglesUptoRow.laid) (((Rows.OpenSpec.upto Rows.frameSmugglesSpec).at F).post enc Tryd.prog Tryd.f7 false true false false) := by
  obtain ⟨places, hx⟩ := reads os enc
  refine returnsInHanded_of_row (C := Tryd.checked) (s := (Rows.OpenSpec.upto Rows.frameSmugglesSpec)) own started (by kernel_rfl) Tryd.func7
    (witness_row_atRef (enc := enc) (C := Tryd.checked) false (laidWorld os) #[.agg #[.int .i64 0, .string ⟨#[]⟩, .int .i64 0, .slice none 0 0]] rfl (by kernel_rfl) (by kernel_rfl) (by kernel_rfl)
      (OpenSpec.preRow_of_cond 8 hx (by kernel_rfl) (fun k hk => by cases hk; kernel_rfl) (by kernel_rfl) (laid_met os))) ?_
  intro W base args ds gs before hval0 hW _ hcond hsz0 hL hSH _
  have hsz : (DataW.weightsEach Tryd.prog (Tryd.f7.params.toList ++ Rows.frameSmugglesSpec.plain.varTypes Tryd.prog) (ds ++ gs)).all (· ≤ reachBytes) = true := hsz0
  have hval : ∀ (j : Nat) t v, Tryd.f7.params[j]? = some t → args[j]? = some v → Value.okWide Tryd.prog W .any base t v := hval0
  have hW' := hW
  obtain ⟨p, q, hA0, hV, rfl, hfz, hnd⟩ := hW
  have hA : DataW.TrodAll enc Tryd.prog W 0 (fun _ => true) true Tryd.f7.params.toList args.toList ds p := hA0
  rw [Tryd.params7] at hA hval hsz
  obtain ⟨v0, vs0, d0, ds0, p0, q0, hargs, rfl, rfl, h0, r0⟩ := trodAll_cons hA
  obtain ⟨rfl, rfl, rfl⟩ := trodAll_nil r0
  obtain rfl : args = #[v0] := by cases args; simp_all
  obtain ⟨rfl, rfl⟩ := trodVars_none hV
  have hbulk : Rows.uptoBulkAll [d0] ≤ 1048576 := by
    have h := of_decide_eq_true (hcond _ rfl)
    simpa using h
  simp only [Rows.uptoBulkAll] at hbulk
  have k0 := h0
  have lt0 : ∀ x ∈ p0, x.block < W.heap.size := by obtain ⟨m, hm⟩ := k0; exact DataW.trod_lt m _ _ _ hm
  obtain ⟨i0_, s0_, m0_, a0, cap0, l0, rfl, hcap0, hC0, hbk0⟩ := open_msg (hval 0 24 v0 rfl rfl) h0
  have hB : (s0_.size + bulkFs l0) ≤ 1048576 := by
    have q0 := hbk0
    (repeat (first | simp only [Rows.uptoBulk] at hbulk | simp only [Rows.uptoBulkAll] at hbulk))
    omega
  clear hA0 hval0 hsz0
  have hT := FrameSmuggles_true i0_ s0_ m0_ l0 hB
  obtain ⟨k, hk⟩ := hT
  refine (tollhouselaw07_FrameSmuggles.calls k i0_ s0_ m0_ _ _ l0 true W (hC0) hcap0 rfl (tab_of_shaped W hSH) hk).mono fun e W' ⟨he, bel⟩ => ?_
  subst he
  exact ⟨_, rfl, _, _, _, [], _, [], hW', trodAll_mk1 (shut_bool Tryd.underlying4 _), (trodAll_cons_mk (Below.trod laidOut (by kernel_rfl) (of_decide_eq_true (by kernel_rfl)) k0 bel lt0) trodAll_mk0), rfl, bel.frame _, fun h => by cases h⟩
theorem over : Rows.FrameSmugglesUptoSaid :=
  OpenClaim.holds_of_cond 7 Tryd.f7 rfl rfl rfl rfl rfl rfl rfl ⟨rfl, rfl, rfl, rfl, rfl⟩ rfl rfl rfl rfl rfl (by kernel_rfl) Tryd.func7 (by kernel_rfl)
    (of_decide_eq_true (by kernel_rfl)) (by unfold Func.isWrapper; first | (rw [if_pos (by decide +kernel)]; kernel_rfl) | (rw [if_neg (by decide +kernel)]; exact ⟨rfl, rfl⟩))
    (fun os started H enc _ F => by rw [OpenClaim.pre_eq_preRow]; exact lifted os started H enc F)
/-- No parameter wants a stand-in; the program's own looks are off: what the card asks. -/
theorem plain (f : FuncId) (fn : Func) (hf : Tryd.pinned.checked.prog.funcNamed "tollhouse/tollhouselaw07.FrameSmuggles" = some f) (hfn : Tryd.pinned.checked.prog.funcs[f]? = some fn) :
    false = Tryd.pinned.checked.prog.looks [] ∧ ∀ (j : Nat) t, fn.params[j]? = some t → Tryd.pinned.checked.prog.wantsStandIn t = false := by
  obtain rfl : f = 7 := Option.some.inj ((show Tryd.prog.funcNamed "tollhouse/tollhouselaw07.FrameSmuggles" = some 7 by kernel_rfl).symm.trans hf) |>.symm
  obtain rfl : fn = Tryd.f7 := (Option.some.inj (Tryd.func7.symm.trans hfn)).symm
  refine ⟨by kernel_rfl, fun j t ht => ?_⟩
  rw [Tryd.params7] at ht
  have hm := Array.mem_of_getElem? ht
  simp at hm
  rcases hm with rfl
  · exact (show Tryd.prog.wantsStandIn 24 = false by kernel_rfl)
theorem card : Rows.FrameSmugglesUptoCardSaid :=
  Claim7.holds_tied_plain_at .later [] _ _ _ _ over (fun _ h => by cases h) (by kernel_rfl) (fun _ h => by cases h) frameSmugglesUpto_row_tie rfl ⟨rfl, rfl⟩ (by kernel_rfl) rfl plain (by kernel_rfl)
end Go.Proofs.YtcamdfjjdigaeaaDoor.frameSmuggles
namespace Go.Proofs.YtcamdfjjdigaeaaDoor
/-- The statement, under a short name, for the claim. -/
theorem frameSmuggles_holds : Rows.FrameSmugglesUptoCardSaid := frameSmuggles.card
end Go.Proofs.YtcamdfjjdigaeaaDoor
