/- Is a method no token? Any of several. -/
import Derived.Test.YthfppglmjkjcoaaDoorFStrs
import Derived.Test.YthfppglmjkjcoaaDoorFtextToken
set_option linter.unusedVariables false
set_option linter.unusedSimpArgs false
namespace Go.Proofs.YthfppglmjkjcoaaDoor.P
open Go.RowKit Go.Proofs.YthfppglmjkjcoaaDoorW.PrintWords Go.Proofs.YthfppglmjkjcoaaDoorW.PrintLast Go.Proofs.YthfppglmjkjcoaaDoorW.PrintMore

def tokenS (s : ByteArray) : Bool := !s.data.toList.isEmpty && (bytesOf s).all tokI
theorem noTokenClosure (s : ByteArray) (hs : s.size ≤ 9223372036854775807) (w : World) : Calls Tryd.prog 20 #[.string s] w fun e w' => e = .returned (.bool (!tokenS s)) ∧ Below w.heap.size w w' := by
  have HC := Aside0.mk (text_Token.calls s (tokenS s) w (by unfold text_Token.f; rw [if_pos hs]; rfl))
  generalize tokenS s = t at HC ⊢
  go_enter Tryd.func20, Tryd.ntmps20
  go_wp2_with fail
  refine HC.out.mono ?_
  rintro e w' ⟨rfl, hb⟩
  go_wp2
  go_ret
  exact ⟨rfl, hb⟩
def slices_ContainsFunc_acl_May_1.f (l0 : List ByteArray) : Option (Bool) := if (l0.all fun x => decide (x.size ≤ 9223372036854775807)) = true then some (l0.any fun x => !tokenS x) else none
theorem slices_ContainsFunc_acl_May_1.calls (A0 : Option Addr) (c0 : Nat) (l0 : List ByteArray) (r : Bool) (w : World) (hr0 : Kd.C Kd.string w A0 l0.length l0) (hc0 : l0.length ≤ c0) (h : slices_ContainsFunc_acl_May_1.f l0 = some r) :
    Calls Tryd.prog 19 #[.slice A0 l0.length c0, .func (.func 20) #[] #[]] w fun e w' => e = .returned (.bool r) ∧ Below w.heap.size w w' := by
  unfold slices_ContainsFunc_acl_May_1.f at h
  split at h
  · rename_i hs
    rw [← Option.some.inj h]
    exact containsStrs A0 c0 l0 20 #[] (enters_of Tryd.func20 (by kernel_rfl) rfl) (fun x => !tokenS x) w hr0 (fun W x hx hb => noTokenClosure x (of_decide_eq_true (List.all_eq_true.1 hs x hx)) W)
  · exact absurd h (by simp)
end Go.Proofs.YthfppglmjkjcoaaDoor.P
