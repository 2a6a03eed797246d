/- strconv.FormatUint: to the bases 10 and 16. -/
import Derived.Test.YtjiiahiglpcpmaaDoorFfmtUintA
import Derived.Test.YtjiiahiglpcpmaaDoorFfmtUintB
set_option linter.unusedVariables false
set_option linter.unusedSimpArgs false
namespace Go.Proofs.YtjiiahiglpcpmaaDoor.P
open Go.RowKit Go.Proofs.YtjiiahiglpcpmaaDoorW.PrintWords Go.Proofs.YtjiiahiglpcpmaaDoorW.PrintLast Go.Proofs.YtjiiahiglpcpmaaDoorW.PrintMore

theorem FormatUintI_dec (u : Nat) (hu64 : u < 18446744073709551616) (w : World) (hT : Tab w) : Calls Tryd.prog 55 #[.int .u64 u, .int .i64 10] w fun e w' => e = .returned (.string ⟨(digGo 10 65 u []).toArray⟩) ∧ Below w.heap.size w w' := by
  rw [← dec_digGo 65 u (Nat.lt_trans hu64 (by decide)) (by decide)]
  by_cases h : u < 100
  · exact FormatUintI_small u h w
  · exact FormatUintI_big u (by omega) hu64 w hT.2
/-- What a number is written as to a base. -/
def fmtUint.f (a0 a1 : Int) : Option ByteArray := if 0 ≤ a0 ∧ a0 < 18446744073709551616 then (if a1 = 10 then some ⟨(digGo 10 65 a0.toNat []).toArray⟩ else if a1 = 16 then some ⟨(digGo 16 65 a0.toNat []).toArray⟩ else none) else none
theorem fmtUint.calls (a0 a1 : Int) (r : ByteArray) (w : World) (hT : Tab w) (h : fmtUint.f a0 a1 = some r) :
    Calls Tryd.prog 42 #[.int .u64 a0, .int .i64 a1] w fun e w' => e = .returned (.string r) ∧ Below w.heap.size w w' := by
  unfold fmtUint.f at h
  split at h
  · rename_i hb
    obtain ⟨n, rfl⟩ : ∃ n : Nat, a0 = n := ⟨a0.toNat, by omega⟩
    have hn : n < 18446744073709551616 := by omega
    rw [Int.toNat_natCast] at h
    split at h
    · rename_i hc
      subst hc
      have hr := Option.some.inj h
      subst hr
      have HC := Aside0.mk (FormatUintI_dec n hn w hT)
      clear hT h hb
      generalize digGo 10 65 n [] = l at HC
      go_enter Tryd.func42, Tryd.ntmps42
      go_wp2_with fail
      refine HC.out.mono ?_
      rintro e w' ⟨rfl, hb⟩
      go_wp2
      go_ret
      exact ⟨rfl, hb⟩
    · split at h
      · rename_i hc
        subst hc
        have hr := Option.some.inj h
        subst hr
        have HC := Aside0.mk (FormatUintI_hex n hn w hT)
        clear hT h hb
        generalize digGo 16 65 n [] = l at HC
        go_enter Tryd.func42, Tryd.ntmps42
        go_wp2_with fail
        refine HC.out.mono ?_
        rintro e w' ⟨rfl, hb⟩
        go_wp2
        go_ret
        exact ⟨rfl, hb⟩
      · exact absurd h (by simp)
  · exact absurd h (by simp)
end Go.Proofs.YtjiiahiglpcpmaaDoor.P
