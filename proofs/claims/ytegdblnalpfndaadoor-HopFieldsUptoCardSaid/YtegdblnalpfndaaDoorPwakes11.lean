/- The chapter's rows hold (layer 11). -/
import Derived.Test.YtegdblnalpfndaaDoorPBase
import Derived.Test.YtegdblnalpfndaaDoorPBulk
import Derived.Test.YtegdblnalpfndaaDoorQtollhouselaw11wakes
set_option linter.unusedVariables false
set_option linter.unusedSimpArgs false
namespace Go.Proofs.YtegdblnalpfndaaDoor.P
open Go.RowKit Go.Proofs.YtegdblnalpfndaaDoorW.PrintWords Go.Proofs.YtegdblnalpfndaaDoorW.PrintLast Go.Proofs.YtegdblnalpfndaaDoorW.PrintMore
theorem wakes11_ev : Ev (fun k => tollhouselaw11_wakes.f k) true := Ev.of (fun k => tollhouselaw11_wakes.mono k) tollhouselaw11_wakes.told
theorem ev_ifH {α : Type} {c : Prop} [Decidable c] {g f : Nat → Option α} {r : α} (h : c → Ev g r) (h' : ¬ c → Ev f r) : Ev (fun k => if c then g k else f k) r := by
  by_cases hc : c
  · exact Ev.congr (fun k => if_pos hc) (h hc)
  · exact Ev.congr (fun k => if_neg hc) (h' hc)
theorem getB_app (a b : List S32) (n : ByteArray) : getB (a ++ b) n = getB a n ++ getB b n := by unfold getB; rw [List.filter_append, List.map_append]
theorem elsB_app (a b : List ByteArray) : elsB (a ++ b) = elsB a ++ elsB b := by unfold elsB; exact List.flatMap_append
theorem elemsB_app (a b : List S32) (n : ByteArray) : elemsB (a ++ b) n = elemsB a n ++ elemsB b n := by unfold elemsB; rw [getB_app, elsB_app]
theorem getB_not (o : S32) (n : ByteArray) (h : sameB o.f0 n = false) : getB [o] n = [] := by rw [getB_cons, h]; rfl
theorem getB_yes (o : S32) (n : ByteArray) (h : sameB o.f0 n = true) : getB [o] n = [o.f1] := by rw [getB_cons, if_pos h]; rfl
theorem getB_like (l : List S32) {a b : ByteArray} (h : lowB a = lowB b) : getB l a = getB l b := by
  unfold getB
  congr 1
  apply List.filter_congr
  intro x _
  rw [sameB_eq, sameB_eq, h]
end Go.Proofs.YtegdblnalpfndaaDoor.P
