/- uri.port: the port of a text, or nought. -/
import Derived.Test.YteggopolokblhaaDoorFatoiS
import Derived.Test.YteggopolokblhaaDoorFitoaS
set_option linter.unusedVariables false
set_option linter.unusedSimpArgs false
namespace Go.Proofs.YteggopolokblhaaDoor.P
open Go.RowKit Go.Proofs.YteggopolokblhaaDoorW.PrintWords Go.Proofs.YteggopolokblhaaDoorW.PrintLast Go.Proofs.YteggopolokblhaaDoorW.PrintMore

def portL (y : List UInt8) : Int := if atoiB y = true ∧ Lib.itoa (atoiN y) = y ∧ 1 ≤ atoiN y ∧ atoiN y ≤ 65535 then atoiN y else 0
def uri_port.f (a0 : ByteArray) : Option Int := if a0.size ≤ 1073741824 then some (portL a0.data.toList) else none
set_option maxHeartbeats 4000000 in
theorem uri_port.calls (a0 : ByteArray) (r : Int) (w : World) (hT : Tab w) (h : uri_port.f a0 = some r) :
    Calls Tryd.prog 21 #[.string a0] w fun e w' => e = .returned (.int .i64 r) ∧ Below w.heap.size w w' := by
  unfold uri_port.f at h
  split at h
  · rename_i hs
    have hr := Option.some.inj h
    clear h
    have HC := Aside0.mk (atoi_calls a0 (by omega) w hT)
    have HT := Aside0.mk hT
    have HE := Aside0.mk (fun l : List UInt8 => show ((⟨l.toArray⟩ : ByteArray).toList == a0.toList) = (l == a0.data.toList) by rw [ByteArray.toList_eq, ByteArray.toList_eq])
    have HI := Aside0.mk (fun (W : World) (hW : Tab W) (hb : atoiB a0.data.toList = true) => itoaS.calls (atoiN a0.data.toList) ⟨(Lib.itoa (atoiN a0.data.toList)).toArray⟩ W hW (by rw [itoaS.f, if_pos (atoi_bounds _ hb)]))
    unfold portL at hr
    clear hs hT
    cases hA : atoiB a0.data.toList with
    | false =>
      rw [hA] at HC hr
      rw [if_neg (by simp)] at hr
      subst hr
      clear HI hA HE
      generalize atoiN a0.data.toList = n at HC
      go_enter Tryd.func21, Tryd.ntmps21
      go_wp2_with (go_at_call 40; refine HC.out.mono ?_; rintro e w1 ⟨er_, rfl, hk, hb⟩; obtain ⟨N_, rfl⟩ : ∃ N_, er_ = .iface 86 (.pointer (some ⟨N_, 0, none⟩)) := hk.elim (fun h_ => absurd h_.1 (by simp)) (fun h_ => h_.2); clear hk)
      go_ret
      exact ⟨rfl, hb⟩
    | true =>
      rw [hA] at HC hr
      have hE := HE.out (Lib.itoa (atoiN a0.data.toList))
      have HI2 := Aside0.mk (fun (W : World) (hW : Tab W) => HI.out W hW hA)
      clear HI hA HE
      generalize atoiN a0.data.toList = n at HC hr HI2 hE
      generalize Lib.itoa n = it at hr HI2 hE
      have hr2 : (if (it == a0.data.toList) = true ∧ 1 ≤ n ∧ n ≤ 65535 then n else 0) = r := by
        rw [← hr]
        simp
      clear hr
      rw [← hE] at hr2
      have HR := Aside0.mk hr2
      clear hE hr2
      go_enter Tryd.func21, Tryd.ntmps21
      go_wp2_with (first | (go_at_call 40; refine HC.out.mono ?_; rintro e w1 ⟨er_, rfl, hk, hb⟩; obtain rfl : er_ = .nilIface := hk.elim (fun h_ => h_.2) (fun h_ => absurd h_.1 (by simp)); clear hk; have HB := Aside0.mk hb; clear hb) | (go_at_call 30; refine (HI2.out _ (HT.out.below HB.out)).mono ?_; rintro e w2 ⟨rfl, hb⟩; have n_ := Aside0.mk (HB.out.trans (hb.mono HB.out.size)); clear HB hb; have HB := n_; clear n_))
      all_goals go_ret
      all_goals refine ⟨congrArg (fun b => Ending.returned (Value.int .i64 b)) ?_, HB.out⟩
      all_goals have hR := HR.out
      all_goals simp only [beq_iff_eq, show (⟨it.toArray⟩ : ByteArray).toList = it by rw [ByteArray.toList_eq]] at hR
      all_goals first
        | (rw [if_pos ⟨by assumption, by omega, by omega⟩] at hR; exact hR)
        | (rw [if_neg (fun hh => by omega)] at hR; exact hR)
        | (rw [if_neg (fun hh => absurd hh.1 (by assumption))] at hR; exact hR)
  · exact absurd h (by simp)
end Go.Proofs.YteggopolokblhaaDoor.P
