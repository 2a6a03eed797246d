/- tollhouse: 'AuthLess': the row and its card, out of the walk and the plain law. -/
import Derived.Test.YtepljhleaohbcaaGreatDoorCards
import Derived.Test.YtepljhleaohbcaaGreatDoorTie
import Derived.Test.YtepljhleaohbcaaGreatDoorQtollhouselaw15AuthLess
import Derived.Test.YtepljhleaohbcaaGreatDoorPAuthLess
import Derived.Test.YtepljhleaohbcaaGreatDoorWords
import Derived.Test.YtepljhleaohbcaaGreatDoorFTabOf
import Derived.Test.YtepljhleaohbcaaGreatDoorFOpenT
import Derived.Test.YtepljhleaohbcaaGreatDoorFOpenT
import Derived.WalkKit
import Derived.ProofKit
import Derived.OpenShut
import Derived.ShutString
import Derived.ChangeOld
import Derived.Below
import Derived.SizedLaws
import Derived.Deep.DeepHandedRow
import Derived.Lib.LaidTab
namespace Go.Proofs.YtepljhleaohbcaaGreatDoor.authLess
open Go.ChangeShapes Go.WideShapes Go.ChangeAt Go.RowKit Go.Proofs.YtepljhleaohbcaaGreatDoor.P
open Go.ChangeMaps (open_string shut_string)
set_option linter.unusedVariables false
theorem own : ownKnob Tryz.prog.godebug = none := by kernel_rfl
theorem laidOut : laidOutB Tryz.prog = true := by kernel_rfl
/-- What a datum's cells hold. -/
def flat : Nat → DataW Unit → List Value
  | 0, _ => []
  | _ + 1, .lit (.int k n) => [.int k n]
  | _ + 1, .lit (.string s) => [.string ⟨s.toArray⟩]
  | _ + 1, .lit (.bool b) => [.bool b]
  | k + 1, .agg parts => parts.flatMap (flat k)
  | _ + 1, _ => []
def lays (w : World) (g : Nat) (d : DataW Unit) : World := { w with heap := w.heap.modify g fun
  | .cells _ t frozen => .cells (flat 9 d).toArray t frozen
  | o => o }
def setv (w : World) (g : Nat) (v : Value) : World := { w with heap := w.heap.modify g fun
  | .cells _ t frozen => .cells #[v] t frozen
  | o => o }
def pushed (w : World) (o : Obj) : World := { w with heap := w.heap.push o }
/-- A sentinel lies in a block of its own. -/
def laysE (w : World) (g : Nat) (tp te : Nat) (s : List UInt8) : World := pushed (setv w g (.iface tp (.pointer (some ⟨w.heap.size, 0, none⟩)))) (.cells #[.string ⟨s.toArray⟩] te (0, 0))
/-- A world for the witness. -/
noncomputable def laidWorld (os : Os) : World := lays (laysE (laysE (lays (lays (lays (lays (World.holding Tryz.prog os ⟨#[], #[], []⟩) 6 Rows.laid_math_bits_deBruijn32tab) 7 Rows.laid_math_bits_deBruijn64tab) 5 Rows.laid_internal_strconv_uint64pow10) 2 Rows.laid_unicode_utf8_acceptRanges) 4 130 132 [118, 97, 108, 117, 101, 32, 111, 117, 116, 32, 111, 102, 32, 114, 97, 110, 103, 101]) 3 130 132 [105, 110, 118, 97, 108, 105, 100, 32, 115, 121, 110, 116, 97, 120]) 1 Rows.laid_unicode_utf8_first
theorem laid_met (os : Os) : laidMetH Tryz.prog Rows.authLessUptoRow.laid ((laidWorld os).forCall (fun _ _ => 0) ⟨#[], #[.agg #[.slice none 0 0, .int .i64 0, .int .i64 0], .agg #[.string ⟨#[]⟩, .slice none 0 0, .int .i64 0, .int .i64 0, .int .i64 0, .int .i64 0, .int .i64 0, .int .i64 0, .int .i64 0], .int .u8 0], []⟩).memory :=
  laidMet_of_run' 9 (by kernel_rfl) (by kernel_rfl)
theorem reads (os : Os) {H : Type} (enc : TypeId × Value → H) : ∃ places, DataW.whole enc Tryz.prog ((laidWorld os).forCall (fun _ _ => 0) ⟨#[], #[.agg #[.slice none 0 0, .int .i64 0, .int .i64 0], .agg #[.string ⟨#[]⟩, .slice none 0 0, .int .i64 0, .int .i64 0, .int .i64 0, .int .i64 0, .int .i64 0, .int .i64 0, .int .i64 0], .int .u8 0], []⟩).memory Tryz.f6.params.toList Rows.authLessSpec.vars false (#[.agg #[.slice none 0 0, .int .i64 0, .int .i64 0], .agg #[.string ⟨#[]⟩, .slice none 0 0, .int .i64 0, .int .i64 0, .int .i64 0, .int .i64 0, .int .i64 0, .int .i64 0, .int .i64 0], .int .u8 0] : Array Value).toList 8 = some ([.agg [.nil, .lit (.int .i64 0), .lit (.int .i64 0)], .agg [.lit (.string []), .nil, .lit (.int .i64 0), .lit (.int .i64 0), .lit (.int .i64 0), .lit (.int .i64 0), .lit (.int .i64 0), .lit (.int .i64 0), .lit (.int .i64 0)], .lit (.int .u8 0)], [], places) :=
  ⟨[], by kernel_rfl⟩
set_option maxRecDepth 100000 in
theorem lifted (os : Os) (started : os.Started) (H : Type) (enc : TypeId × Value → H) (F : Stop.Interp) :
    ReturnsInHanded {} Tryz.checked os 6 .any ((Rows.OpenSpec.upto Rows.authLessSpec).preRow enc Tryz.prog Tryz.f6 Rows.authLessUptoRow.domain false Rows.authLessUptoRow.laid) (((Rows.OpenSpec.upto Rows.authLessSpec).at F).post enc Tryz.prog Tryz.f6 false true false false) := by
  obtain ⟨places, hx⟩ := reads os enc
  refine returnsInHanded_of_row (C := Tryz.checked) (s := (Rows.OpenSpec.upto Rows.authLessSpec)) own started (by kernel_rfl) Tryz.func6
    (witness_row_at (enc := enc) (C := Tryz.checked) false (laidWorld os) #[.agg #[.slice none 0 0, .int .i64 0, .int .i64 0], .agg #[.string ⟨#[]⟩, .slice none 0 0, .int .i64 0, .int .i64 0, .int .i64 0, .int .i64 0, .int .i64 0, .int .i64 0, .int .i64 0], .int .u8 0] rfl (by kernel_rfl) (by kernel_rfl) (by kernel_rfl)
      (OpenSpec.preRow_of_cond 8 hx (by kernel_rfl) (fun k hk => by cases hk; kernel_rfl) (by kernel_rfl) (laid_met os))) ?_
  intro W base args ds gs before hval0 hW _ hcond hsz0 hL hSH _
  have hsz : (DataW.weightsEach Tryz.prog (Tryz.f6.params.toList ++ Rows.authLessSpec.plain.varTypes Tryz.prog) (ds ++ gs)).all (· ≤ reachBytes) = true := hsz0
  have hval : ∀ (j : Nat) t v, Tryz.f6.params[j]? = some t → args[j]? = some v → Value.okWide Tryz.prog W .any base t v := hval0
  have hW' := hW
  obtain ⟨p, q, hA0, hV, rfl, hfz, hnd⟩ := hW
  have hA : DataW.TrodAll enc Tryz.prog W 0 (fun _ => true) true Tryz.f6.params.toList args.toList ds p := hA0
  rw [Tryz.params6] at hA hval hsz
  obtain ⟨v0, vs0, d0, ds0, p0, q0, hargs, rfl, rfl, h0, r0⟩ := trodAll_cons hA
  obtain ⟨v1, vs1, d1, ds1, p1, q1, rfl, rfl, rfl, h1, r1⟩ := trodAll_cons r0
  obtain ⟨v2, vs2, d2, ds2, p2, q2, rfl, rfl, rfl, h2, r2⟩ := trodAll_cons r1
  obtain ⟨rfl, rfl, rfl⟩ := trodAll_nil r2
  obtain rfl : args = #[v0, v1, v2] := by cases args; simp_all
  obtain ⟨rfl, rfl⟩ := trodVars_none hV
  have hbulk : Rows.uptoBulkAll [d0, d1, d2] ≤ 1048576 := by
    have h := of_decide_eq_true (hcond _ rfl)
    simpa using h
  simp only [Rows.uptoBulkAll] at hbulk
  have k0 := h0
  have lt0 : ∀ x ∈ p0, x.block < W.heap.size := by obtain ⟨m, hm⟩ := k0; exact DataW.trod_lt m _ _ _ hm
  obtain ⟨c0l, c0s, c0t, a0, cap0, rfl, hcap0, hC0, hbk0⟩ := open_config (hval 0 24 v0 rfl rfl) h0
  have hu0 : Rows.uptoBulk d0 ≤ 1048576 := by (repeat (first | simp only [Rows.uptoBulk] at hbulk | simp only [Rows.uptoBulkAll] at hbulk)); omega
  have hr0 : (∀ x ∈ c0l, TenLe x 1048576) ∧ c0l.length ≤ 1048576 := ⟨fun x hx => (hbk0.1 x hx).mono hu0, Nat.le_trans hbk0.2 hu0⟩
  have k1 := h1
  have lt1 : ∀ x ∈ p1, x.block < W.heap.size := by obtain ⟨m, hm⟩ := k1; exact DataW.trod_lt m _ _ _ hm
  obtain ⟨t1_, a1, cap1, rfl, hcap1, hC1, hbk1⟩ := open_tenant (hval 1 27 v1 rfl rfl) h1
  have hr1 : TenLe t1_ 1048576 := hbk1.mono (by (repeat (first | simp only [Rows.uptoBulk] at hbulk | simp only [Rows.uptoBulkAll] at hbulk)); omega)
  obtain ⟨a2, rfl, rfl, rfl, w2⟩ := open_int Tryz.underlying5 (hval 2 5 v2 rfl rfl) h2
  have hB : 0 ≤ 1048576 := by
    (repeat (first | simp only [Rows.uptoBulk] at hbulk | simp only [Rows.uptoBulkAll] at hbulk))
    omega
  clear hA0 hval0 hsz0
  have hT := AuthLess_true c0l c0s c0t t1_ a2 hr0 hr1 w2 hB
  obtain ⟨k, hk⟩ := hT
  refine (tollhouselaw15_AuthLess.calls k _ _ _ c0l c0s c0t t1_.f0 _ _ _ t1_.f1 t1_.f2 t1_.f3 t1_.f4 t1_.f5 t1_.f6 t1_.f7 t1_.f8 a2 true W (Go.Proofs.YtepljhleaohbcaaGreatDoorW.PrintWords.Kd.V_mk hcap0 (Go.Proofs.YtepljhleaohbcaaGreatDoorW.PrintWords.Kd.C_F heapTenant hC0)) (Go.Proofs.YtepljhleaohbcaaGreatDoorW.PrintWords.Kd.V_mk hcap1 (Go.Proofs.YtepljhleaohbcaaGreatDoorW.PrintWords.Kd.C_F heapRule hC1)) rfl (tab_of_laid W _ _ rfl (by kernel_rfl) hL hSH) hk).mono fun e W' ⟨he, bel⟩ => ?_
  subst he
  exact ⟨_, rfl, _, _, _, [], _, [], hW', trodAll_mk1 (shut_bool Tryz.underlying4 _), (trodAll_cons_mk (Below.trod laidOut (by kernel_rfl) (of_decide_eq_true (by kernel_rfl)) k0 bel lt0) (trodAll_cons_mk (Below.trod laidOut (by kernel_rfl) (of_decide_eq_true (by kernel_rfl)) k1 bel lt1) (trodAll_cons_mk (shut_int Tryz.underlying5 w2) trodAll_mk0))), rfl, bel.frame _, fun h => by cases h⟩
theorem over : Rows.AuthLessUptoSaid :=
  OpenClaim.holds_of_cond 6 Tryz.f6 rfl rfl rfl rfl rfl rfl rfl ⟨rfl, rfl, rfl, rfl, rfl⟩ rfl rfl rfl rfl rfl (by kernel_rfl) Tryz.func6 (by kernel_rfl)
    (of_decide_eq_true (by kernel_rfl)) (by unfold Func.isWrapper; first | (rw [if_pos (by decide +kernel)]; kernel_rfl) | (rw [if_neg (by decide +kernel)]; exact ⟨rfl, rfl⟩))
    (fun os started H enc _ F => by rw [OpenClaim.pre_eq_preRow]; exact lifted os started H enc F)
/-- No parameter wants a stand-in; the program's own looks are off: what the card asks. -/
theorem plain (f : FuncId) (fn : Func) (hf : Tryz.pinned.checked.prog.funcNamed "tollhouse/tollhouselaw15.AuthLess" = some f) (hfn : Tryz.pinned.checked.prog.funcs[f]? = some fn) :
    true = Tryz.pinned.checked.prog.looks [] ∧ ∀ (j : Nat) t, fn.params[j]? = some t → Tryz.pinned.checked.prog.wantsStandIn t = false := by
  obtain rfl : f = 6 := Option.some.inj ((show Tryz.prog.funcNamed "tollhouse/tollhouselaw15.AuthLess" = some 6 by kernel_rfl).symm.trans hf) |>.symm
  obtain rfl : fn = Tryz.f6 := (Option.some.inj (Tryz.func6.symm.trans hfn)).symm
  refine ⟨by kernel_rfl, fun j t ht => ?_⟩
  rw [Tryz.params6] at ht
  have hm := Array.mem_of_getElem? ht
  simp at hm
  rcases hm with rfl | rfl | rfl
  · exact (show Tryz.prog.wantsStandIn 24 = false by kernel_rfl)
  · exact (show Tryz.prog.wantsStandIn 27 = false by kernel_rfl)
  · exact (show Tryz.prog.wantsStandIn 5 = false by kernel_rfl)
theorem card : Rows.AuthLessUptoCardSaid :=
  Claim7.holds_tied_plain_at .later [] _ _ _ _ over (fun _ h => by cases h) (by kernel_rfl) (fun _ h => by cases h) authLessUpto_row_tie rfl ⟨rfl, rfl⟩ (by kernel_rfl) rfl plain (by kernel_rfl)
end Go.Proofs.YtepljhleaohbcaaGreatDoor.authLess
namespace Go.Proofs.YtepljhleaohbcaaGreatDoor
/-- The statement, under a short name, for the claim. -/
theorem authLess_holds : Rows.AuthLessUptoCardSaid := authLess.card
end Go.Proofs.YtepljhleaohbcaaGreatDoor
