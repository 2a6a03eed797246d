/- FrameTells: the plain law. -/
import Derived.Test.YtcamdfjjdigaeaaDoorPawake07
import Derived.Test.YtcamdfjjdigaeaaDoorQtollhouselaw07FrameTells
set_option linter.unusedVariables false
set_option linter.unusedSimpArgs false
namespace Go.Proofs.YtcamdfjjdigaeaaDoor.P
open Go.RowKit Go.Proofs.YtcamdfjjdigaeaaDoorW.PrintWords Go.Proofs.YtcamdfjjdigaeaaDoorW.PrintLast Go.Proofs.YtcamdfjjdigaeaaDoorW.PrintMore

theorem tells_l0 (l : List S34) (hl : bulkL l ≤ 1073741824) (q p : Int × Int × Int) (s : Int) (m : ByteArray) (n : Int) : ∀ (d i : Nat), l.length - i = d → i ≤ l.length → Ev (fun k => tollhouselaw07_FrameTells.l0 k l q.1 q.2.1 q.2.2 q.1 q.2.1 q.2.2 p.1 p.2.1 p.2.2 p.1 p.2.1 p.2.2 (l.length : Int) (i : Int) s m n l) true := by
  have hlen := bulkL_len l
  intro d
  induction d with
  | zero =>
    intro i hd hi
    refine Ev.step (f := fun k => (tollhouselaw07_awake.f k).bind fun t241 => (if t241 = true then some (p.2.2 == p.2.2) else some false)) (fun k => by rw [tollhouselaw07_FrameTells.l0, if_neg (by omega)]; simp only [if_true]) (Ev.bind awake07_ev ?_)
    refine Ev.congr (fun k => if_pos rfl) ?_
    rw [beq_self_eq_true]
    exact Ev.now _
  | succ d ih =>
    intro i hd hi
    have hlt : i < l.length := by omega
    refine Ev.step (f := fun k => tollhouselaw07_FrameTells.l0 k l q.1 q.2.1 q.2.2 q.1 q.2.1 q.2.2 p.1 p.2.1 p.2.2 p.1 p.2.1 p.2.2 (l.length : Int) ((i + 1 : Nat) : Int) s m n l) (fun k => ?_) (ih (i + 1) (by omega) (by omega))
    rw [tollhouselaw07_FrameTells.l0, if_pos (by omega), if_pos (by omega), if_pos (by omega), if_pos (by omega), if_neg (by simp), w64n i (by omega)]
theorem FrameTells_true (status : Int) (method : ByteArray) (minor : Int) (l : List S34) (hB : method.size + bulkFs l ≤ 1048576) : ∃ k, tollhouselaw07_FrameTells.f k status method minor l = some true := by
  have hb := bulkFs_L' l
  have hl : bulkL l ≤ 1073741824 := by omega
  have hlen := bulkL_len l
  refine Ev.rounds (g := fun k => tollhouselaw07_FrameTells.f k status method minor l) ?_
  unfold tollhouselaw07_FrameTells.f
  refine Ev.congr (f := fun k => (frame_Request.f k minor l).bind fun bt227 => ((tollhouseref07_Request.f k minor l).bind fun bt230 => ((frame_Response.f k status method minor l).bind fun bt233 => ((tollhouseref07_Response.f k status method minor l).bind fun bt236 => (tollhouselaw07_FrameTells.l0 k l bt227.1 bt227.2.1 bt227.2.2 bt230.1 bt230.2.1 bt230.2.2 bt233.1 bt233.2.1 bt233.2.2 bt236.1 bt236.2.1 bt236.2.2 (l.length : Int) 0 status method minor l))))) (fun k => by rw [Option.bind_some, if_pos (by simp only [List.length_nil]; omega), Option.bind_some, List.nil_append]) ?_
  refine Ev.bind (req_ok minor l hl) (Ev.bind (refReq_ok minor l hl) (Ev.bind (resp_ok status method minor l hl) (Ev.bind (refResp_ok status method minor l hl) ?_)))
  exact tells_l0 l hl (reqR minor l) (respR status method minor l) status method minor l.length 0 (by omega) (Nat.zero_le _)
end Go.Proofs.YtcamdfjjdigaeaaDoor.P
