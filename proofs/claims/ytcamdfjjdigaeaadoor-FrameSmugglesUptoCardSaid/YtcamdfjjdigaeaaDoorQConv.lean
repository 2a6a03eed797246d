/- Texts out of rows of bytes, of either form. -/
import Derived.Test.YtcamdfjjdigaeaaDoorQ0
set_option linter.unusedVariables false
set_option linter.unusedSimpArgs false
namespace Go.Proofs.YtcamdfjjdigaeaaDoor.P
open Go.RowKit Go.Proofs.YtcamdfjjdigaeaaDoorW.PrintWords Go.Proofs.YtcamdfjjdigaeaaDoorW.PrintLast Go.Proofs.YtcamdfjjdigaeaaDoorW.PrintMore
theorem _root_.Go.Proofs.YtcamdfjjdigaeaaDoorW.PrintWords.Kd.R.conv {P : Program} {w : World} {base : Nat} {e' src dst e : TypeId} {ok : Nat → Prop} {v : Value} {xs : List Int} (h : Kd.R (Kd.int .u8) e' w base ok v xs) (hs : P.underlying src = some (.slice e)) (he : P.underlying e = some (.int .u8)) (hd : P.underlying dst = some .string) : (convert src dst v).run P w = .ok (.string (strOfNums xs)) w := own_string hs he hd (Kd.own_of_R h)
theorem _root_.Go.Proofs.YtcamdfjjdigaeaaDoorW.PrintWords.Kd.R.convN {P : Program} {w : World} {base : Nat} {e' src dst e : TypeId} {ok : Nat → Prop} {v : Value} {xs : List Int} (h : Kd.R (Kd.int .u8) e' w base ok v xs) (hs : P.underlying src = some (.slice e)) (he : P.underlying e = some (.int .u8)) (hd : P.underlying dst = some .string) (m : Nat) : (convert src dst v).run P (w.drewN m) = .ok (.string (strOfNums xs)) (w.drewN m) := (Kd.R_drewN h m).conv hs he hd
theorem _root_.Go.Proofs.YtcamdfjjdigaeaaDoorW.PrintWords.Kd.V.conv {P : Program} {w : World} {base : Nat} {e' src dst e : TypeId} {ok : Nat → Prop} {v : Value} {xs : List Int} (h : Kd.V (Kd.int .u8) e' w base ok v xs) (hs : P.underlying src = some (.slice e)) (he : P.underlying e = some (.int .u8)) (hd : P.underlying dst = some .string) : (convert src dst v).run P w = .ok (.string (strOfNums xs)) w := by
  obtain ⟨A, c, rfl, _, hf⟩ := h
  exact Kd.C_string hs he hd (Kd.F_now hf)
theorem _root_.Go.Proofs.YtcamdfjjdigaeaaDoorW.PrintWords.Kd.V.convN {P : Program} {w : World} {base : Nat} {e' src dst e : TypeId} {ok : Nat → Prop} {v : Value} {xs : List Int} (h : Kd.V (Kd.int .u8) e' w base ok v xs) (hs : P.underlying src = some (.slice e)) (he : P.underlying e = some (.int .u8)) (hd : P.underlying dst = some .string) (m : Nat) : (convert src dst v).run P (w.drewN m) = .ok (.string (strOfNums xs)) (w.drewN m) := (Kd.V_drewN h m).conv hs he hd
end Go.Proofs.YtcamdfjjdigaeaaDoor.P
