/- text.Trim: without blanks at both ends. -/
import Derived.Test.YtcamdfjjdigaeaaDoorQ0
import Derived.Test.YtcamdfjjdigaeaaDoorShelf
import Derived.Shelf.Strings.SlTrimAscii
set_option linter.unusedVariables false
set_option linter.unusedSimpArgs false
namespace Go.Proofs.YtcamdfjjdigaeaaDoor.P
open Go.RowKit Go.Proofs.YtcamdfjjdigaeaaDoorW.PrintWords Go.Proofs.YtcamdfjjdigaeaaDoorW.PrintLast Go.Proofs.YtcamdfjjdigaeaaDoorW.PrintMore

def trimB (s : ByteArray) : ByteArray := ⟨(Lib.trimS s.data.toList [32, 9]).toArray⟩
def text_Trim.f (a0 : ByteArray) : Option ByteArray := if a0.size ≤ 9223372036854775807 then some (trimB a0) else none

theorem text_Trim.calls (a0 : ByteArray) (r : ByteArray) (w : World) (h : text_Trim.f a0 = some r) :
    Calls Tryd.prog 77 #[.string a0] w fun e w' => e = .returned (.string r) ∧ Below w.heap.size w w' := by
  unfold text_Trim.f at h
  split at h
  · rename_i hs
    obtain rfl := Option.some.inj h
    have HC := Aside0.mk (Any.strings_Trim_laid Tryd.lays160 (by kernel_rfl) a0 ⟨#[32, 9]⟩ w hs (by decide) (ascii_of_all (by decide)))
    clear h hs
    go_enter Tryd.func77, Tryd.ntmps77
    go_wp2_with fail
    refine HC.out.mono ?_
    rintro e w' ⟨rfl, hb⟩
    go_wp2
    go_ret
    exact ⟨rfl, hb⟩
  · exact absurd h (by simp)
end Go.Proofs.YtcamdfjjdigaeaaDoor.P
