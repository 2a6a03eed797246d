/- What the table of trailing noughts holds, out of what the row lists. (Laid as FTabOf in a seat whose rows are laid.) -/
import Derived.Test.YtjiiahiglpcpmaaDoorFTab
import Derived.Test.YtjiiahiglpcpmaaDoorRows
import Derived.MakeChecks
import Derived.Lib.LaidTab
import Derived.Stop.LaidErr
set_option linter.unusedVariables false
set_option linter.unusedSimpArgs false
namespace Go.Proofs.YtjiiahiglpcpmaaDoor.P
open Go.RowKit Go.Proofs.YtjiiahiglpcpmaaDoorW.PrintWords Go.Proofs.YtjiiahiglpcpmaaDoorW.PrintLast Go.Proofs.YtjiiahiglpcpmaaDoorW.PrintMore
theorem tab_of_laid (W : World) (L rest : List (String × DataW Unit)) (e : L = ("math/bits.deBruijn32tab", Rows.laid_math_bits_deBruijn32tab) :: ("math/bits.deBruijn64tab", Rows.laid_math_bits_deBruijn64tab) :: ("internal/strconv.uint64pow10", Rows.laid_internal_strconv_uint64pow10) :: rest) (hp : (L.all fun x => x.2.handleName?.isNone) = true) (h : laidMetH Tryd.prog L W) : Tab W := by
  rw [Go.MakeChecks.laidMetH_plain _ _ _ hp] at h
  subst e
  have h2 := h.tail
  have h3 : laidMet Tryd.prog (("math/bits.deBruijn64tab", Lib.tabData .u8 bruijn) :: ("internal/strconv.uint64pow10", Rows.laid_internal_strconv_uint64pow10) :: rest) W := h2
  have h4 : laidMet Tryd.prog (("internal/strconv.uint64pow10", Lib.tabData .u64 Lib.pow10Tab) :: rest) W := h2.tail
  refine ⟨?_, Lib.tabIs_of_head (k := .u64) (zs := Lib.pow10Tab) (t := 109) (e := 22) (n := 20) tab_global2 (by kernel_rfl) (by kernel_rfl) (by kernel_rfl) (by kernel_rfl) (by kernel_rfl) h4⟩
  exact Lib.tabIs_of_head (t := 119) (e := 5) (n := 64) tab_global (by kernel_rfl) (by kernel_rfl) (by kernel_rfl) (by kernel_rfl) (by kernel_rfl) h3
end Go.Proofs.YtjiiahiglpcpmaaDoor.P
