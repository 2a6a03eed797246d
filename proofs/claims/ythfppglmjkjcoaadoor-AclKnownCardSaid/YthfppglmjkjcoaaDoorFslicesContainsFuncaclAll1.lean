/- May a rule not be? Any of several. -/
import Derived.Test.YthfppglmjkjcoaaDoorFRules
import Derived.Test.YthfppglmjkjcoaaDoorQaclMay
set_option linter.unusedVariables false
set_option linter.unusedSimpArgs false
namespace Go.Proofs.YthfppglmjkjcoaaDoor.P
open Go.RowKit Go.Proofs.YthfppglmjkjcoaaDoorW.PrintWords Go.Proofs.YthfppglmjkjcoaaDoorW.PrintLast Go.Proofs.YthfppglmjkjcoaaDoorW.PrintMore

def mayO (x : S25) : Option Bool := acl_May.f 2000000 x.f0 x.f1 x.f2 x.f3 x.f4
theorem mayNotClosure (x : S25) (b : Bool) (hm : mayO x = some b) (A : Option Addr) (c : Nat) (w : World) (hr : Kd.C Kd.string w A x.f4.length x.f4) (hc : x.f4.length ≤ c) (hT : Tab w) : Calls Tryd.prog 25 #[.agg #[.bool x.f0, .string x.f1, .int .i64 x.f2, .int .i64 x.f3, .slice A x.f4.length c]] w fun e w' => e = .returned (.bool (!b)) ∧ Below w.heap.size w w' := by
  have HC := Aside0.mk (fun (W : World) (hb : Below w.heap.size w W) => acl_May.calls 2000000 x.f0 x.f1 x.f2 x.f3 A c x.f4 b W (Kd.C_below hr hb) hc (hT.below hb) hm)
  clear hr hT hm hc
  go_enter Tryd.func25, Tryd.ntmps25
  go_wp2_with fail
  have hb0 := below_alloc (Below.refl w.heap.size w) (.cells #[.bool x.f0, .string x.f1, .int .i64 x.f2, .int .i64 x.f3, .slice A x.f4.length c] 25)
  refine (HC.out _ hb0).mono ?_
  rintro e w' ⟨rfl, hb⟩
  go_wp2
  go_ret
  exact ⟨rfl, hb0.trans (hb.mono hb0.size)⟩
def slices_ContainsFunc_acl_All_1.f (l0 : List (S25)) : Option (Bool) := if (l0.all fun x => (mayO x).isSome) = true then some (l0.any fun x => !((mayO x).getD false)) else none
theorem slices_ContainsFunc_acl_All_1.calls (A0 : Option Addr) (c0 : Nat) (l0 : List (S25)) (r : Bool) (w : World) (hr0 : Kd.C k25 w A0 l0.length l0) (hc0 : l0.length ≤ c0) (hT : Tab w) (h : slices_ContainsFunc_acl_All_1.f l0 = some r) :
    Calls Tryd.prog 24 #[.slice A0 l0.length c0, .func (.func 25) #[] #[]] w fun e w' => e = .returned (.bool r) ∧ Below w.heap.size w w' := by
  unfold slices_ContainsFunc_acl_All_1.f at h
  split at h
  · rename_i hs
    rw [← Option.some.inj h]
    refine containsRules A0 c0 l0 25 #[] (enters_of Tryd.func25 (by kernel_rfl) rfl) (fun x => !((mayO x).getD false)) w hr0 (fun W x A c hx hr hc hb => ?_)
    obtain ⟨b, hb2⟩ := Option.isSome_iff_exists.1 (List.all_eq_true.1 hs x hx)
    have := mayNotClosure x b hb2 A c W (Kd.C_below hr hb) hc (hT.below hb)
    have e : (!((mayO x).getD false)) = !b := by rw [hb2]; rfl
    rw [← e] at this
    exact this
  · exact absurd h (by simp)
end Go.Proofs.YthfppglmjkjcoaaDoor.P
