/- tollhouse: 'AuthApart': the row and its card, out of the walk and the plain law. -/
import Derived.Test.YtepljhleaohbcaaGreatDoorCards
import Derived.Test.YtepljhleaohbcaaGreatDoorTie
import Derived.Test.YtepljhleaohbcaaGreatDoorQtollhouselaw15AuthApart
import Derived.Test.YtepljhleaohbcaaGreatDoorPAuthApart
import Derived.Test.YtepljhleaohbcaaGreatDoorWords
import Derived.Test.YtepljhleaohbcaaGreatDoorFTabOf
import Derived.Test.YtepljhleaohbcaaGreatDoorFOpen
import Derived.Test.YtepljhleaohbcaaGreatDoorFOpenT
import Derived.WalkKit
import Derived.ProofKit
import Derived.OpenShut
import Derived.ShutString
import Derived.ChangeOld
import Derived.Below
import Derived.SizedLaws
import Derived.Deep.DeepHandedRow
import Derived.Lib.LaidTab
namespace Go.Proofs.YtepljhleaohbcaaGreatDoor.authApart
open Go.ChangeShapes Go.WideShapes Go.ChangeAt Go.RowKit Go.Proofs.YtepljhleaohbcaaGreatDoor.P
open Go.ChangeMaps (open_string shut_string)
set_option linter.unusedVariables false
theorem own : ownKnob Tryz.prog.godebug = none := by kernel_rfl
theorem laidOut : laidOutB Tryz.prog = true := by kernel_rfl
/-- What a datum's cells hold. -/
def flat : Nat → DataW Unit → List Value
  | 0, _ => []
  | _ + 1, .lit (.int k n) => [.int k n]
  | _ + 1, .lit (.string s) => [.string ⟨s.toArray⟩]
  | _ + 1, .lit (.bool b) => [.bool b]
  | k + 1, .agg parts => parts.flatMap (flat k)
  | _ + 1, _ => []
def lays (w : World) (g : Nat) (d : DataW Unit) : World := { w with heap := w.heap.modify g fun
  | .cells _ t frozen => .cells (flat 9 d).toArray t frozen
  | o => o }
def setv (w : World) (g : Nat) (v : Value) : World := { w with heap := w.heap.modify g fun
  | .cells _ t frozen => .cells #[v] t frozen
  | o => o }
def pushed (w : World) (o : Obj) : World := { w with heap := w.heap.push o }
/-- A sentinel lies in a block of its own. -/
def laysE (w : World) (g : Nat) (tp te : Nat) (s : List UInt8) : World := pushed (setv w g (.iface tp (.pointer (some ⟨w.heap.size, 0, none⟩)))) (.cells #[.string ⟨s.toArray⟩] te (0, 0))
/-- A world for the witness. -/
noncomputable def laidWorld (os : Os) : World := lays (laysE (laysE (lays (lays (lays (lays (World.holding Tryz.prog os ⟨#[], #[], []⟩) 6 Rows.laid_math_bits_deBruijn32tab) 7 Rows.laid_math_bits_deBruijn64tab) 5 Rows.laid_internal_strconv_uint64pow10) 2 Rows.laid_unicode_utf8_acceptRanges) 4 130 132 [118, 97, 108, 117, 101, 32, 111, 117, 116, 32, 111, 102, 32, 114, 97, 110, 103, 101]) 3 130 132 [105, 110, 118, 97, 108, 105, 100, 32, 115, 121, 110, 116, 97, 120]) 1 Rows.laid_unicode_utf8_first
theorem laid_met (os : Os) : laidMetH Tryz.prog Rows.authApartUptoRow.laid ((laidWorld os).forCall (fun _ _ => 0) ⟨#[], #[.agg #[.slice none 0 0, .int .i64 0, .int .i64 0], .slice none 0 0], []⟩).memory :=
  laidMet_of_run' 9 (by kernel_rfl) (by kernel_rfl)
theorem reads (os : Os) {H : Type} (enc : TypeId × Value → H) : ∃ places, DataW.whole enc Tryz.prog ((laidWorld os).forCall (fun _ _ => 0) ⟨#[], #[.agg #[.slice none 0 0, .int .i64 0, .int .i64 0], .slice none 0 0], []⟩).memory Tryz.f5.params.toList Rows.authApartSpec.vars false (#[.agg #[.slice none 0 0, .int .i64 0, .int .i64 0], .slice none 0 0] : Array Value).toList 8 = some ([.agg [.nil, .lit (.int .i64 0), .lit (.int .i64 0)], .nil], [], places) :=
  ⟨[], by kernel_rfl⟩
set_option maxRecDepth 100000 in
theorem lifted (os : Os) (started : os.Started) (H : Type) (enc : TypeId × Value → H) (F : Stop.Interp) :
    ReturnsInHanded {} Tryz.checked os 5 .any ((Rows.OpenSpec.upto Rows.authApartSpec).preRow enc Tryz.prog Tryz.f5 Rows.authApartUptoRow.domain false Rows.authApartUptoRow.laid) (((Rows.OpenSpec.upto Rows.authApartSpec).at F).post enc Tryz.prog Tryz.f5 false true false false) := by
  obtain ⟨places, hx⟩ := reads os enc
  refine returnsInHanded_of_row (C := Tryz.checked) (s := (Rows.OpenSpec.upto Rows.authApartSpec)) own started (by kernel_rfl) Tryz.func5
    (witness_row_at (enc := enc) (C := Tryz.checked) false (laidWorld os) #[.agg #[.slice none 0 0, .int .i64 0, .int .i64 0], .slice none 0 0] rfl (by kernel_rfl) (by kernel_rfl) (by kernel_rfl)
      (OpenSpec.preRow_of_cond 8 hx (by kernel_rfl) (fun k hk => by cases hk; kernel_rfl) (by kernel_rfl) (laid_met os))) ?_
  intro W base args ds gs before hval0 hW _ hcond hsz0 hL hSH _
  have hsz : (DataW.weightsEach Tryz.prog (Tryz.f5.params.toList ++ Rows.authApartSpec.plain.varTypes Tryz.prog) (ds ++ gs)).all (· ≤ reachBytes) = true := hsz0
  have hval : ∀ (j : Nat) t v, Tryz.f5.params[j]? = some t → args[j]? = some v → Value.okWide Tryz.prog W .any base t v := hval0
  have hW' := hW
  obtain ⟨p, q, hA0, hV, rfl, hfz, hnd⟩ := hW
  have hA : DataW.TrodAll enc Tryz.prog W 0 (fun _ => true) true Tryz.f5.params.toList args.toList ds p := hA0
  rw [Tryz.params5] at hA hval hsz
  obtain ⟨v0, vs0, d0, ds0, p0, q0, hargs, rfl, rfl, h0, r0⟩ := trodAll_cons hA
  obtain ⟨v1, vs1, d1, ds1, p1, q1, rfl, rfl, rfl, h1, r1⟩ := trodAll_cons r0
  obtain ⟨rfl, rfl, rfl⟩ := trodAll_nil r1
  obtain rfl : args = #[v0, v1] := by cases args; simp_all
  obtain ⟨rfl, rfl⟩ := trodVars_none hV
  have hbulk : Rows.uptoBulkAll [d0, d1] ≤ 1048576 := by
    have h := of_decide_eq_true (hcond _ rfl)
    simpa using h
  simp only [Rows.uptoBulkAll] at hbulk
  have k0 := h0
  have lt0 : ∀ x ∈ p0, x.block < W.heap.size := by obtain ⟨m, hm⟩ := k0; exact DataW.trod_lt m _ _ _ hm
  obtain ⟨c0l, c0s, c0t, a0, cap0, rfl, hcap0, hC0, hbk0⟩ := open_config (hval 0 24 v0 rfl rfl) h0
  have hu0 : Rows.uptoBulk d0 ≤ 1048576 := by (repeat (first | simp only [Rows.uptoBulk] at hbulk | simp only [Rows.uptoBulkAll] at hbulk)); omega
  have hr0 : (∀ x ∈ c0l, TenLe x 1048576) ∧ c0l.length ≤ 1048576 := ⟨fun x hx => (hbk0.1 x hx).mono hu0, Nat.le_trans hbk0.2 hu0⟩
  obtain ⟨a1, len1, cap1, rfl⟩ := okWide_slice Tryz.underlying33 (hval 1 33 v1 rfl rfl)
  have k1 := h1
  have lt1 : ∀ x ∈ p1, x.block < W.heap.size := by obtain ⟨m, hm⟩ := k1; exact DataW.trod_lt m _ _ _ hm
  obtain ⟨l1, hlen1, hcap1, hmax1, hC1, hx1, hbk1, hdat1⟩ := open_fields h1
  subst hlen1
  have hl1 : l1.length * 32 ≤ 140737488351232 := by
    rcases hdat1 with ⟨_, e⟩ | ⟨elems, spare, e1, e2⟩
    · rw [e]; exact Nat.zero_le _
    · have z := sized_slice hsz (j := 1) (t := 33) rfl (by rw [e1]; rfl) Tryz.underlying33
      have hb : Tryz.prog.bytesOf 48 = 32 := by kernel_rfl
      rw [hb] at z
      have z2 : (elems.length + spare.length) * 32 ≤ 140737488351232 := z
      rw [e2] at z2
      omega
  have hy1 : ∀ x ∈ l1, x.f0.size ≤ 140737488351232 ∧ x.f1.size ≤ 140737488351232 := fun x hx => ⟨of_decide_eq_true (List.all_eq_true.1 hsz _ (DataW.weights_mem_each (j := 1) (t := 33) rfl rfl _ (hx1 x hx).1)), of_decide_eq_true (List.all_eq_true.1 hsz _ (DataW.weights_mem_each (j := 1) (t := 33) rfl rfl _ (hx1 x hx).2))⟩
  have hB : bulkFs l1 ≤ 1048576 := by
    have q1 : bulkFs l1 ≤ Rows.uptoBulk d1 := by have h_ := hbk1; split at h_ <;> omega
    (repeat (first | simp only [Rows.uptoBulk] at hbulk | simp only [Rows.uptoBulkAll] at hbulk))
    omega
  clear hA0 hval0 hsz0
  have hT := AuthApart_true c0l c0s c0t l1 hr0 hl1 hy1 hB
  obtain ⟨k, hk⟩ := hT
  refine (tollhouselaw15_AuthApart.calls k _ _ c0l c0s c0t _ _ l1 true W (hC0) hcap0 (hC1) hcap1 rfl (tab_of_laid W _ _ rfl (by kernel_rfl) hL hSH) hk).mono fun e W' ⟨he, bel⟩ => ?_
  subst he
  exact ⟨_, rfl, _, _, _, [], _, [], hW', trodAll_mk1 (shut_bool Tryz.underlying4 _), (trodAll_cons_mk (Below.trod laidOut (by kernel_rfl) (of_decide_eq_true (by kernel_rfl)) k0 bel lt0) (trodAll_cons_mk (Below.trod laidOut (by kernel_rfl) (of_decide_eq_true (by kernel_rfl)) k1 bel lt1) trodAll_mk0)), rfl, bel.frame _, fun h => by cases h⟩
theorem over : Rows.AuthApartUptoSaid :=
  OpenClaim.holds_of_cond 5 Tryz.f5 rfl rfl rfl rfl rfl rfl rfl ⟨rfl, rfl, rfl, rfl, rfl⟩ rfl rfl rfl rfl rfl (by kernel_rfl) Tryz.func5 (by kernel_rfl)
    (of_decide_eq_true (by kernel_rfl)) (by unfold Func.isWrapper; first | (rw [if_pos (by decide +kernel)]; kernel_rfl) | (rw [if_neg (by decide +kernel)]; exact ⟨rfl, rfl⟩))
    (fun os started H enc _ F => by rw [OpenClaim.pre_eq_preRow]; exact lifted os started H enc F)
/-- No parameter wants a stand-in; the program's own looks are off: what the card asks. -/
theorem plain (f : FuncId) (fn : Func) (hf : Tryz.pinned.checked.prog.funcNamed "tollhouse/tollhouselaw15.AuthApart" = some f) (hfn : Tryz.pinned.checked.prog.funcs[f]? = some fn) :
    true = Tryz.pinned.checked.prog.looks [] ∧ ∀ (j : Nat) t, fn.params[j]? = some t → Tryz.pinned.checked.prog.wantsStandIn t = false := by
  obtain rfl : f = 5 := Option.some.inj ((show Tryz.prog.funcNamed "tollhouse/tollhouselaw15.AuthApart" = some 5 by kernel_rfl).symm.trans hf) |>.symm
  obtain rfl : fn = Tryz.f5 := (Option.some.inj (Tryz.func5.symm.trans hfn)).symm
  refine ⟨by kernel_rfl, fun j t ht => ?_⟩
  rw [Tryz.params5] at ht
  have hm := Array.mem_of_getElem? ht
  simp at hm
  rcases hm with rfl | rfl
  · exact (show Tryz.prog.wantsStandIn 24 = false by kernel_rfl)
  · exact (show Tryz.prog.wantsStandIn 33 = false by kernel_rfl)
theorem card : Rows.AuthApartUptoCardSaid :=
  Claim7.holds_tied_plain_at .later [] _ _ _ _ over (fun _ h => by cases h) (by kernel_rfl) (fun _ h => by cases h) authApartUpto_row_tie rfl ⟨rfl, rfl⟩ (by kernel_rfl) rfl plain (by kernel_rfl)
end Go.Proofs.YtepljhleaohbcaaGreatDoor.authApart
namespace Go.Proofs.YtepljhleaohbcaaGreatDoor
/-- The statement, under a short name, for the claim. -/
theorem authApart_holds : Rows.AuthApartUptoCardSaid := authApart.card
end Go.Proofs.YtepljhleaohbcaaGreatDoor
