/- num.Hex: what a text says to the base 16. -/
import Derived.Test.YtjiiahiglpcpmaaDoorFnumRead
set_option linter.unusedVariables false
set_option linter.unusedSimpArgs false
namespace Go.Proofs.YtjiiahiglpcpmaaDoor.P
open Go.RowKit Go.Proofs.YtjiiahiglpcpmaaDoorW.PrintWords Go.Proofs.YtjiiahiglpcpmaaDoorW.PrintLast Go.Proofs.YtjiiahiglpcpmaaDoorW.PrintMore

/-- What a digit is worth to the base 16; -1: it is none. -/
def hexW (c : Int) : Int := if 48 ≤ c ∧ c ≤ 57 then c - 48 else if 97 ≤ c ∧ c ≤ 102 then c - 87 else if 65 ≤ c ∧ c ≤ 70 then c - 55 else -1
theorem hexOk : WoOk hexW := ⟨fun x h => by unfold hexW; repeat' split <;> omega, fun x => by unfold hexW; repeat' split <;> omega, fun x => by unfold hexW; repeat' split <;> omega⟩
set_option maxHeartbeats 1000000 in
theorem hexClosure (rn : Nat) (W : World) : Calls Tryd.prog 24 (#[.int .i32 rn] ++ #[]) W fun e w' => e = .returned (.int .i64 (hexW rn)) ∧ W = w' := by
  by_cases h : 48 ≤ (rn : Int) ∧ (rn : Int) ≤ 57
  · have hd : hexW rn = (rn : Int) - 48 := by unfold hexW; rw [if_pos h]
    have HD := Aside0.mk hd
    obtain ⟨h1, h2⟩ := h
    clear hd
    go_enter Tryd.func24, Tryd.ntmps24
    go_wp2
    go_ret
    exact ⟨by rw [HD.out]; rfl, rfl⟩
  · by_cases ha : 97 ≤ (rn : Int) ∧ (rn : Int) ≤ 102
    · have hd : hexW rn = (rn : Int) - 97 + 10 := by unfold hexW; rw [if_neg h, if_pos ha]; omega
      have HD := Aside0.mk hd
      obtain ⟨h1, h2⟩ := ha
      have h3 : ¬ (rn : Int) ≤ 57 := by omega
      have h4 : 48 ≤ (rn : Int) := by omega
      clear hd h
      go_enter Tryd.func24, Tryd.ntmps24
      go_wp2
      go_ret
      exact ⟨by rw [HD.out]; rfl, rfl⟩
    · by_cases hA : 65 ≤ (rn : Int) ∧ (rn : Int) ≤ 70
      · have hd : hexW rn = (rn : Int) - 65 + 10 := by unfold hexW; rw [if_neg h, if_neg ha, if_pos hA]; omega
        have HD := Aside0.mk hd
        obtain ⟨h1, h2⟩ := hA
        have h3 : ¬ (rn : Int) ≤ 57 := by omega
        have h4 : 48 ≤ (rn : Int) := by omega
        have h5 : ¬ 97 ≤ (rn : Int) := by omega
        clear hd h ha
        go_enter Tryd.func24, Tryd.ntmps24
        go_wp2
        go_ret
        exact ⟨by rw [HD.out]; rfl, rfl⟩
      · have hd : hexW rn = -1 := by unfold hexW; rw [if_neg h, if_neg ha, if_neg hA]
        have HD := Aside0.mk hd
        have e : ∃ x : Int, x = (rn : Int) := ⟨_, rfl⟩
        have hc : (rn : Int) < 48 ∨ (57 < (rn : Int) ∧ (rn : Int) < 65) ∨ (70 < (rn : Int) ∧ (rn : Int) < 97) ∨ 102 < (rn : Int) := by omega
        clear hd h ha hA e
        rcases hc with h1 | ⟨h1, h2⟩ | ⟨h1, h2⟩ | h1
        all_goals
          go_enter Tryd.func24, Tryd.ntmps24
          go_wp2
          all_goals
            go_ret
            exact ⟨by rw [HD.out]; rfl, rfl⟩

def num_Hex.f (a0 : ByteArray) : Option (Int × Int) := if a0.size ≤ 4398046511104 then some (numB 16 hexW a0) else none
theorem num_Hex.calls (a0 : ByteArray) (r1 r2 : Int) (w : World) (h : num_Hex.f a0 = some (r1, r2)) :
    Calls Tryd.prog 10 #[.string a0] w fun e w' => e = .returned (.tuple #[.int .u64 r1, .int .i64 r2]) ∧ Below w.heap.size w w' := by
  unfold num_Hex.f at h
  split at h
  · rename_i hs
    have hr := Option.some.inj h
    have HC := Aside0.mk (numRead_calls 16 (.inr rfl) 24 hexW hexOk (enters_of Tryd.func24 (by kernel_rfl) rfl) hexClosure a0 w hs)
    rw [hr] at HC
    clear h hr hs
    go_enter Tryd.func10, Tryd.ntmps10
    go_wp2_with fail
    refine HC.out.mono ?_
    rintro e w' ⟨rfl, hb⟩
    go_wp2
    go_ret2
    exact ⟨rfl, hb⟩
  · exact absurd h (by simp)
end Go.Proofs.YtjiiahiglpcpmaaDoor.P
