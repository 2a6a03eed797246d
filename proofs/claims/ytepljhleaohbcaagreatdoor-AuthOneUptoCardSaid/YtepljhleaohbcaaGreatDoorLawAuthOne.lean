/- tollhouse: 'AuthOne': the row and its card, out of the walk and the plain law. -/
import Derived.Test.YtepljhleaohbcaaGreatDoorCards
import Derived.Test.YtepljhleaohbcaaGreatDoorTie
import Derived.Test.YtepljhleaohbcaaGreatDoorQtollhouselaw15AuthOne
import Derived.Test.YtepljhleaohbcaaGreatDoorPAuthOne
import Derived.Test.YtepljhleaohbcaaGreatDoorWords
import Derived.Test.YtepljhleaohbcaaGreatDoorFTabOf
import Derived.Test.YtepljhleaohbcaaGreatDoorFOpen
import Derived.Test.YtepljhleaohbcaaGreatDoorFOpenF
import Derived.WalkKit
import Derived.ProofKit
import Derived.OpenShut
import Derived.ShutString
import Derived.ChangeOld
import Derived.Below
import Derived.SizedLaws
import Derived.Deep.DeepHandedRow
import Derived.Lib.LaidTab
namespace Go.Proofs.YtepljhleaohbcaaGreatDoor.authOne
open Go.ChangeShapes Go.WideShapes Go.ChangeAt Go.RowKit Go.Proofs.YtepljhleaohbcaaGreatDoor.P
open Go.ChangeMaps (open_string shut_string)
set_option linter.unusedVariables false
theorem own : ownKnob Tryz.prog.godebug = none := by kernel_rfl
theorem laidOut : laidOutB Tryz.prog = true := by kernel_rfl
/-- What a datum's cells hold. -/
def flat : Nat → DataW Unit → List Value
  | 0, _ => []
  | _ + 1, .lit (.int k n) => [.int k n]
  | _ + 1, .lit (.string s) => [.string ⟨s.toArray⟩]
  | _ + 1, .lit (.bool b) => [.bool b]
  | k + 1, .agg parts => parts.flatMap (flat k)
  | _ + 1, _ => []
def lays (w : World) (g : Nat) (d : DataW Unit) : World := { w with heap := w.heap.modify g fun
  | .cells _ t frozen => .cells (flat 9 d).toArray t frozen
  | o => o }
def setv (w : World) (g : Nat) (v : Value) : World := { w with heap := w.heap.modify g fun
  | .cells _ t frozen => .cells #[v] t frozen
  | o => o }
def pushed (w : World) (o : Obj) : World := { w with heap := w.heap.push o }
/-- A sentinel lies in a block of its own. -/
def laysE (w : World) (g : Nat) (tp te : Nat) (s : List UInt8) : World := pushed (setv w g (.iface tp (.pointer (some ⟨w.heap.size, 0, none⟩)))) (.cells #[.string ⟨s.toArray⟩] te (0, 0))
/-- A world for the witness. -/
noncomputable def laidWorld (os : Os) : World := lays (laysE (laysE (lays (lays (lays (lays (World.holding Tryz.prog os ⟨#[], #[], []⟩) 6 Rows.laid_math_bits_deBruijn32tab) 7 Rows.laid_math_bits_deBruijn64tab) 5 Rows.laid_internal_strconv_uint64pow10) 2 Rows.laid_unicode_utf8_acceptRanges) 4 130 132 [118, 97, 108, 117, 101, 32, 111, 117, 116, 32, 111, 102, 32, 114, 97, 110, 103, 101]) 3 130 132 [105, 110, 118, 97, 108, 105, 100, 32, 115, 121, 110, 116, 97, 120]) 1 Rows.laid_unicode_utf8_first
theorem laid_met (os : Os) : laidMetH Tryz.prog Rows.authOneUptoRow.laid ((laidWorld os).forCall (fun _ _ => 0) ⟨#[], #[.slice none 0 0, .string ⟨#[]⟩, .string ⟨#[]⟩, .agg #[.string ⟨#[]⟩, .string ⟨#[]⟩]], []⟩).memory :=
  laidMet_of_run' 9 (by kernel_rfl) (by kernel_rfl)
theorem reads (os : Os) {H : Type} (enc : TypeId × Value → H) : ∃ places, DataW.whole enc Tryz.prog ((laidWorld os).forCall (fun _ _ => 0) ⟨#[], #[.slice none 0 0, .string ⟨#[]⟩, .string ⟨#[]⟩, .agg #[.string ⟨#[]⟩, .string ⟨#[]⟩]], []⟩).memory Tryz.f8.params.toList Rows.authOneSpec.vars false (#[.slice none 0 0, .string ⟨#[]⟩, .string ⟨#[]⟩, .agg #[.string ⟨#[]⟩, .string ⟨#[]⟩]] : Array Value).toList 8 = some ([.nil, .lit (.string []), .lit (.string []), .agg [.lit (.string []), .lit (.string [])]], [], places) :=
  ⟨[], by kernel_rfl⟩
set_option maxRecDepth 100000 in
theorem lifted (os : Os) (started : os.Started) (H : Type) (enc : TypeId × Value → H) (F : Stop.Interp) :
    ReturnsInHanded {} Tryz.checked os 8 .any ((Rows.OpenSpec.upto Rows.authOneSpec).preRow enc Tryz.prog Tryz.f8 Rows.authOneUptoRow.domain false Rows.authOneUptoRow.laid) (((Rows.OpenSpec.upto Rows.authOneSpec).at F).post enc Tryz.prog Tryz.f8 false true false false) := by
  obtain ⟨places, hx⟩ := reads os enc
  refine returnsInHanded_of_row (C := Tryz.checked) (s := (Rows.OpenSpec.upto Rows.authOneSpec)) own started (by kernel_rfl) Tryz.func8
    (witness_row_at (enc := enc) (C := Tryz.checked) false (laidWorld os) #[.slice none 0 0, .string ⟨#[]⟩, .string ⟨#[]⟩, .agg #[.string ⟨#[]⟩, .string ⟨#[]⟩]] rfl (by kernel_rfl) (by kernel_rfl) (by kernel_rfl)
      (OpenSpec.preRow_of_cond 8 hx (by kernel_rfl) (fun k hk => by cases hk; kernel_rfl) (by kernel_rfl) (laid_met os))) ?_
  intro W base args ds gs before hval0 hW _ hcond hsz0 hL hSH _
  have hsz : (DataW.weightsEach Tryz.prog (Tryz.f8.params.toList ++ Rows.authOneSpec.plain.varTypes Tryz.prog) (ds ++ gs)).all (· ≤ reachBytes) = true := hsz0
  have hval : ∀ (j : Nat) t v, Tryz.f8.params[j]? = some t → args[j]? = some v → Value.okWide Tryz.prog W .any base t v := hval0
  have hW' := hW
  obtain ⟨p, q, hA0, hV, rfl, hfz, hnd⟩ := hW
  have hA : DataW.TrodAll enc Tryz.prog W 0 (fun _ => true) true Tryz.f8.params.toList args.toList ds p := hA0
  rw [Tryz.params8] at hA hval hsz
  obtain ⟨v0, vs0, d0, ds0, p0, q0, hargs, rfl, rfl, h0, r0⟩ := trodAll_cons hA
  obtain ⟨v1, vs1, d1, ds1, p1, q1, rfl, rfl, rfl, h1, r1⟩ := trodAll_cons r0
  obtain ⟨v2, vs2, d2, ds2, p2, q2, rfl, rfl, rfl, h2, r2⟩ := trodAll_cons r1
  obtain ⟨v3, vs3, d3, ds3, p3, q3, rfl, rfl, rfl, h3, r3⟩ := trodAll_cons r2
  obtain ⟨rfl, rfl, rfl⟩ := trodAll_nil r3
  obtain rfl : args = #[v0, v1, v2, v3] := by cases args; simp_all
  obtain ⟨rfl, rfl⟩ := trodVars_none hV
  have hbulk : Rows.uptoBulkAll [d0, d1, d2, d3] ≤ 1048576 := by
    have h := of_decide_eq_true (hcond _ rfl)
    simpa using h
  simp only [Rows.uptoBulkAll] at hbulk
  obtain ⟨a0, len0, cap0, rfl⟩ := okWide_slice Tryz.underlying33 (hval 0 33 v0 rfl rfl)
  have k0 := h0
  have lt0 : ∀ x ∈ p0, x.block < W.heap.size := by obtain ⟨m, hm⟩ := k0; exact DataW.trod_lt m _ _ _ hm
  obtain ⟨l0, hlen0, hcap0, hmax0, hC0, hx0, hbk0, hdat0⟩ := open_fields h0
  subst hlen0
  have hl0 : l0.length * 32 ≤ 140737488351232 := by
    rcases hdat0 with ⟨_, e⟩ | ⟨elems, spare, e1, e2⟩
    · rw [e]; exact Nat.zero_le _
    · have z := sized_slice hsz (j := 0) (t := 33) rfl (by rw [e1]; rfl) Tryz.underlying33
      have hb : Tryz.prog.bytesOf 48 = 32 := by kernel_rfl
      rw [hb] at z
      have z2 : (elems.length + spare.length) * 32 ≤ 140737488351232 := z
      rw [e2] at z2
      omega
  have hy0 : ∀ x ∈ l0, x.f0.size ≤ 140737488351232 ∧ x.f1.size ≤ 140737488351232 := fun x hx => ⟨of_decide_eq_true (List.all_eq_true.1 hsz _ (DataW.weights_mem_each (j := 0) (t := 33) rfl rfl _ (hx0 x hx).1)), of_decide_eq_true (List.all_eq_true.1 hsz _ (DataW.weights_mem_each (j := 0) (t := 33) rfl rfl _ (hx0 x hx).2))⟩
  obtain ⟨a1, rfl, rfl, rfl, y1⟩ := open_string Tryz.underlying9 (hval 1 9 v1 rfl rfl) h1
  have w1 : a1.size ≤ 140737488351232 := by
    have z := sized_string hsz (j := 1) (t := 9) rfl rfl
    rw [Array.length_toList] at z
    exact z
  obtain ⟨a2, rfl, rfl, rfl, y2⟩ := open_string Tryz.underlying9 (hval 2 9 v2 rfl rfl) h2
  have w2 : a2.size ≤ 140737488351232 := by
    have z := sized_string hsz (j := 2) (t := 9) rfl rfl
    rw [Array.length_toList] at z
    exact z
  obtain ⟨a3, b3, rfl, rfl, rfl, y3, z3⟩ := open_field (hval 3 48 v3 rfl rfl) h3
  have wa3 : a3.size ≤ 140737488351232 := by
    have z := of_decide_eq_true (List.all_eq_true.1 hsz _ (DataW.weights_mem_each (j := 3) (t := 48) rfl rfl _ (field_weights a3.data.toList b3.data.toList).1))
    rw [Array.length_toList] at z
    exact z
  have wb3 : b3.size ≤ 140737488351232 := by
    have z := of_decide_eq_true (List.all_eq_true.1 hsz _ (DataW.weights_mem_each (j := 3) (t := 48) rfl rfl _ (field_weights a3.data.toList b3.data.toList).2))
    rw [Array.length_toList] at z
    exact z
  have hB : bulkFs l0 + a1.size + a2.size + (a3.size + b3.size + 3) ≤ 1048576 := by
    have q0 : bulkFs l0 ≤ Rows.uptoBulk d0 := by have h_ := hbk0; split at h_ <;> omega
    have q1 : a1.size = a1.data.toList.length := by rw [Array.length_toList]; rfl
    have q2 : a2.size = a2.data.toList.length := by rw [Array.length_toList]; rfl
    have q3 : a3.size = a3.data.toList.length := by rw [Array.length_toList]; rfl
    have r3 : b3.size = b3.data.toList.length := by rw [Array.length_toList]; rfl
    (repeat (first | simp only [Rows.uptoBulk] at hbulk | simp only [Rows.uptoBulkAll] at hbulk))
    omega
  clear hA0 hval0 hsz0
  have hT := AuthOne_true l0 a1 a2 a3 b3 hl0 hy0 w1 w2 wa3 wb3 hB
  obtain ⟨k, hk⟩ := hT
  refine (tollhouselaw15_AuthOne.calls k _ _ l0 a1 a2 a3 b3 true W (hC0) hcap0 rfl (tab_of_laid W _ _ rfl (by kernel_rfl) hL hSH) hk).mono fun e W' ⟨he, bel⟩ => ?_
  subst he
  exact ⟨_, rfl, _, _, _, [], _, [], hW', trodAll_mk1 (shut_bool Tryz.underlying4 _), (trodAll_cons_mk (Below.trod laidOut (by kernel_rfl) (of_decide_eq_true (by kernel_rfl)) k0 bel lt0) (trodAll_cons_mk (shut_string Tryz.underlying9 y1) (trodAll_cons_mk (shut_string Tryz.underlying9 y2) (trodAll_cons_mk (shut_field y3 z3) trodAll_mk0)))), rfl, bel.frame _, fun h => by cases h⟩
theorem over : Rows.AuthOneUptoSaid :=
  OpenClaim.holds_of_cond 8 Tryz.f8 rfl rfl rfl rfl rfl rfl rfl ⟨rfl, rfl, rfl, rfl, rfl⟩ rfl rfl rfl rfl rfl (by kernel_rfl) Tryz.func8 (by kernel_rfl)
    (of_decide_eq_true (by kernel_rfl)) (by unfold Func.isWrapper; first | (rw [if_pos (by decide +kernel)]; kernel_rfl) | (rw [if_neg (by decide +kernel)]; exact ⟨rfl, rfl⟩))
    (fun os started H enc _ F => by rw [OpenClaim.pre_eq_preRow]; exact lifted os started H enc F)
/-- No parameter wants a stand-in; the program's own looks are off: what the card asks. -/
theorem plain (f : FuncId) (fn : Func) (hf : Tryz.pinned.checked.prog.funcNamed "tollhouse/tollhouselaw15.AuthOne" = some f) (hfn : Tryz.pinned.checked.prog.funcs[f]? = some fn) :
    true = Tryz.pinned.checked.prog.looks [] ∧ ∀ (j : Nat) t, fn.params[j]? = some t → Tryz.pinned.checked.prog.wantsStandIn t = false := by
  obtain rfl : f = 8 := Option.some.inj ((show Tryz.prog.funcNamed "tollhouse/tollhouselaw15.AuthOne" = some 8 by kernel_rfl).symm.trans hf) |>.symm
  obtain rfl : fn = Tryz.f8 := (Option.some.inj (Tryz.func8.symm.trans hfn)).symm
  refine ⟨by kernel_rfl, fun j t ht => ?_⟩
  rw [Tryz.params8] at ht
  have hm := Array.mem_of_getElem? ht
  simp at hm
  have hm2 : t = 33 ∨ t = 9 ∨ t = 48 := by first | simpa using hm | (rcases hm with h | h | h <;> simp [h]) | (rcases hm with h | h | h | h <;> simp [h]) | (rcases hm with h | h | h | h | h <;> simp [h])
  rcases hm2 with rfl | rfl | rfl
  · exact (show Tryz.prog.wantsStandIn 33 = false by kernel_rfl)
  · exact (show Tryz.prog.wantsStandIn 9 = false by kernel_rfl)
  · exact (show Tryz.prog.wantsStandIn 48 = false by kernel_rfl)
theorem card : Rows.AuthOneUptoCardSaid :=
  Claim7.holds_tied_plain_at .later [] _ _ _ _ over (fun _ h => by cases h) (by kernel_rfl) (fun _ h => by cases h) authOneUpto_row_tie rfl ⟨rfl, rfl⟩ (by kernel_rfl) rfl plain (by kernel_rfl)
end Go.Proofs.YtepljhleaohbcaaGreatDoor.authOne
namespace Go.Proofs.YtepljhleaohbcaaGreatDoor
/-- The statement, under a short name, for the claim. -/
theorem authOne_holds : Rows.AuthOneUptoCardSaid := authOne.card
end Go.Proofs.YtepljhleaohbcaaGreatDoor
