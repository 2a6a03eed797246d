/- Is a label no number from 0 to 255? Any of several. -/
import Derived.Test.YthfppglmjkjcoaaDoorFStrs
import Derived.Test.YthfppglmjkjcoaaDoorFfmtUintA
import Derived.Shelf.Pu.ErrVarParseUint
set_option linter.unusedVariables false
set_option linter.unusedSimpArgs false
namespace Go.Proofs.YthfppglmjkjcoaaDoor.P
open Go.RowKit Go.Proofs.YthfppglmjkjcoaaDoorW.PrintWords Go.Proofs.YthfppglmjkjcoaaDoorW.PrintLast Go.Proofs.YthfppglmjkjcoaaDoorW.PrintMore

/-- A number from 0 to 255, as it is written? -/
def octetL (l : List UInt8) : Bool := match Lib.parseUintB 8 l with
  | .ok u => Lib.decDigits u == l
  | _ => false
theorem parse8_calls (s : ByteArray) (hs : s.size ≤ 281474976710656) (w : World) (hT : Tab w) : Calls Tryd.prog 53 #[.string s, .int .i64 10, .int .i64 8] w fun e w' => ∃ (u : Nat) (er : Value), u ≤ 255 ∧ e = .returned (.tuple #[.int .u64 u, er]) ∧ ((er = .nilIface ∧ octetL s.data.toList = (Lib.decDigits u == s.data.toList)) ∨ ((∃ N, er = .iface 71 (.pointer (some ⟨N, 0, none⟩))) ∧ octetL s.data.toList = false)) ∧ Below w.heap.size w w' := by
  cases h : Lib.parseUintB 8 s.data.toList
  · rename_i u
    refine (Any.strconv_ParseUint_10_at8_ok Tryd.laysPu14 s (by omega) u h w).mono ?_
    rintro e w' ⟨rfl, hw⟩
    refine ⟨u, _, by have := Lib.parseUintB_le h; exact this, rfl, .inl ⟨rfl, by rw [octetL, h]⟩, ?_⟩
    rcases hw with rfl | rfl
    · exact Below.refl _ _
    · exact bytes_below (Below.refl _ w) (Nat.le_refl _) 5 s
  · obtain ⟨tp, p, hv⟩ := hT.2.2.1
    refine (Any.strconv_ParseUint_10_at8_syntax_var Tryd.laysPu14 s hs h tp p w hv).mono ?_
    rintro e w' ⟨N, rfl, _, _, hb⟩
    exact ⟨0, .iface 71 (.pointer (some ⟨N, 0, none⟩)), by decide, rfl, .inr ⟨⟨N, rfl⟩, by rw [octetL, h]⟩, hb⟩
  · obtain ⟨tp, p, hv⟩ := hT.2.2.2
    refine (Any.strconv_ParseUint_10_at8_range_var Tryd.laysPu14 s hs h tp p w hv).mono ?_
    rintro e w' ⟨N, rfl, _, _, hb⟩
    exact ⟨255, .iface 71 (.pointer (some ⟨N, 0, none⟩)), by decide, rfl, .inr ⟨⟨N, rfl⟩, by rw [octetL, h]⟩, hb⟩
theorem FormatUintI_any (u : Nat) (hu : u ≤ 255) (w : World) (hT : Tab w) : Calls Tryd.prog 66 #[.int .u64 u, .int .i64 10] w fun e w' => e = .returned (.string ⟨(Lib.decDigits u).toArray⟩) ∧ Below w.heap.size w w' := by
  by_cases h : u < 100
  · exact FormatUintI_small u h w
  · exact FormatUintI_big u (by omega) (by omega) w hT.1
theorem fmt255 (u : Nat) (hu : u ≤ 255) (w : World) (hT : Tab w) : Calls Tryd.prog 54 #[.int .u64 u, .int .i64 10] w fun e w' => e = .returned (.string ⟨(Lib.decDigits u).toArray⟩) ∧ Below w.heap.size w w' := by
  have HC := Aside0.mk (FormatUintI_any u hu w hT)
  clear hT
  generalize Lib.decDigits u = l at HC
  go_enter Tryd.func54, Tryd.ntmps54
  go_wp2_with fail
  refine HC.out.mono ?_
  rintro e w' ⟨rfl, hb⟩
  go_wp2
  go_ret
  exact ⟨rfl, hb⟩
set_option maxHeartbeats 2000000 in
theorem octetClosure (s : ByteArray) (hs : s.size ≤ 281474976710656) (w : World) (hT : Tab w) : Calls Tryd.prog 52 #[.string s] w fun e w' => e = .returned (.bool (!octetL s.data.toList)) ∧ Below w.heap.size w w' := by
  have HP := Aside0.mk (parse8_calls s hs w hT)
  have HT := Aside0.mk hT
  have HE := Aside0.mk (fun l : List UInt8 => show ((⟨l.toArray⟩ : ByteArray).toList == s.toList) = (l == s.data.toList) by rw [ByteArray.toList_eq, ByteArray.toList_eq])
  clear hs hT
  generalize octetL s.data.toList = o at HP ⊢
  go_enter Tryd.func52, Tryd.ntmps52
  go_wp2_with fail
  refine HP.out.mono ?_
  rintro e w1 ⟨u, er, hu, rfl, hk, hb⟩
  have HB := Aside0.mk hb
  have HU := Aside0.mk hu
  clear hb hu HP
  rcases hk with ⟨rfl, ho⟩ | ⟨⟨N, rfl⟩, rfl⟩
  · have HF := Aside0.mk (fmt255 u HU.out)
    have HO := Aside0.mk ho
    clear ho
    generalize Lib.decDigits u = l at HF HO
    have hE := HE.out l
    rw [← HO.out] at hE
    go_wp2_with (go_at_call 54; refine (HF.out _ (HT.out.below HB.out)).mono ?_; rintro e w2 ⟨rfl, hb⟩; have n_ := Aside0.mk (HB.out.trans (hb.mono HB.out.size)); clear HB hb; have HB := n_; clear n_)
    all_goals go_ret
    all_goals refine ⟨congrArg (fun b => Ending.returned (Value.bool b)) ?_, HB.out⟩
    all_goals (rw [HO.out, Bool.eq_iff_iff]; simp [ByteArray.toList_eq])
  · go_wp2
    all_goals go_ret
    all_goals exact ⟨rfl, HB.out⟩
def slices_ContainsFunc_uri_quad_1.f (l0 : List ByteArray) : Option (Bool) := if (l0.all fun x => decide (x.size ≤ 281474976710656)) = true then some (l0.any fun x => !octetL x.data.toList) else none
theorem slices_ContainsFunc_uri_quad_1.calls (A0 : Option Addr) (c0 : Nat) (l0 : List ByteArray) (r : Bool) (w : World) (hr0 : Kd.C Kd.string w A0 l0.length l0) (hc0 : l0.length ≤ c0) (hT : Tab w) (h : slices_ContainsFunc_uri_quad_1.f l0 = some r) :
    Calls Tryd.prog 19 #[.slice A0 l0.length c0, .func (.func 52) #[] #[]] w fun e w' => e = .returned (.bool r) ∧ Below w.heap.size w w' := by
  unfold slices_ContainsFunc_uri_quad_1.f at h
  split at h
  · rename_i hs
    rw [← Option.some.inj h]
    exact containsStrs A0 c0 l0 52 #[] (enters_of Tryd.func52 (by kernel_rfl) rfl) (fun x => !octetL x.data.toList) w hr0 (fun W x hx hb => octetClosure x (of_decide_eq_true (List.all_eq_true.1 hs x hx)) W (hT.below hb))
  · exact absurd h (by simp)
end Go.Proofs.YthfppglmjkjcoaaDoor.P
