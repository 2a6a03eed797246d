/- num.read, num.Decimal: what a text says to a base. -/
import Derived.Test.YtcamdfjjdigaeaaDoorQ0
import Derived.Laws.RangeAny
import Derived.Laws.RangeString
import Derived.Lib.OthersKept
import Derived.Shelf.Abstract
set_option linter.unusedVariables false
set_option linter.unusedSimpArgs false
namespace Go.Proofs.YtcamdfjjdigaeaaDoor.P
open Go.RowKit Go.Proofs.YtcamdfjjdigaeaaDoorW.PrintWords Go.Proofs.YtcamdfjjdigaeaaDoorW.PrintLast Go.Proofs.YtcamdfjjdigaeaaDoorW.PrintMore

/-- What a digit is worth to the base 10; -1: it is none. -/
def decW (c : Int) : Int := if 48 ≤ c ∧ c ≤ 57 then c - 48 else -1
/-- The scan: the number so far; is it too long? -/
def numGo (B : Int) (wo : Int → Int) : List Int → Int → Bool → Int × Int
  | [], n, long => if long = true then (0, 3) else (n, 0)
  | c :: r, n, long => if wo c < 0 then (0, 5) else if (long || decide ((9007199254740991 - wo c) / B < n)) = true then numGo B wo r n true else numGo B wo r (n * B + wo c) false
/-- What a text says: the number, and the error's own number. -/
def numB (B : Int) (wo : Int → Int) (s : ByteArray) : Int × Int := if s.toList.isEmpty = true then (0, 5) else numGo B wo (bytesOf s) 0 false
/-- What is asked of the worths. -/
structure WoOk (wo : Int → Int) : Prop where
  high : ∀ x, 128 ≤ x → wo x < 0
  low : ∀ x, -1 ≤ wo x
  top : ∀ x, wo x ≤ 15
theorem decOk : WoOk decW := ⟨fun x h => by unfold decW; split <;> omega, fun x => by unfold decW; split <;> omega, fun x => by unfold decW; split <;> omega⟩
theorem bytesOf_drop (s : ByteArray) (k : Nat) (h : k < s.size) : (bytesOf s).drop k = ((s[k]'h).toNat : Int) :: (bytesOf s).drop (k + 1) := by
  have hl : k < (bytesOf s).length := by rw [bytesOf_length]; exact h
  rw [List.drop_eq_getElem_cons hl]
  congr 1
  simp only [bytesOf, List.getElem_map, Array.getElem_toList]
  rfl
/-- What holds at the loop's head. -/
def NrRel (w : World) (B : Int) (wo : Int → Int) (s : ByteArray) (n : Int) (long : Bool) (wr : World) : Prop :=
  ∃ pos : Nat, pos ≤ s.size ∧ wr.heap[w.heap.size]? = some (.stringIter s pos) ∧ Below w.heap.size w wr ∧ numB B wo s = numGo B wo ((bytesOf s).drop pos) n long

set_option maxRecDepth 100000 in
set_option maxHeartbeats 2000000 in
theorem numRead_calls (B : Int) (hB : B = 10 ∨ B = 16) (g : Nat) (wo : Int → Int) (hw : WoOk wo) (eg : ∀ args w, (callFunc g args).run Tryd.prog w = .ok (.enter g args) w)
    (hcl : ∀ (rn : Nat) (W : World), Calls Tryd.prog g (#[.int .i32 rn] ++ #[]) W fun e w' => e = .returned (.int .i64 (wo rn)) ∧ W = w') (s : ByteArray) (w : World) (hs : s.size ≤ 4398046511104) :
    Calls Tryd.prog 68 #[.string s, .int .u64 B, .func (.func g) #[] #[]] w fun e w' => e = .returned (.tuple #[.int .u64 (numB B wo s).1, .int .i64 (numB B wo s).2]) ∧ Below w.heap.size w w' := by
  have HW := Aside0.mk hw
  have HCL := Aside0.mk hcl
  have HSZ := Aside0.mk hs
  clear hw hcl hs
  cases he : s.toList.isEmpty with
  | true =>
    have hr : numB B wo s = (0, 5) := by unfold numB; rw [if_pos he]
    have HR := Aside0.mk hr
    clear hr
    go_enter Tryd.func68, Tryd.ntmps68
    go_wp2
    go_ret2
    rw [HR.out]
    exact ⟨rfl, Below.refl _ _⟩
  | false =>
    have hst : numB B wo s = numGo B wo ((bytesOf s).drop 0) 0 false := by unfold numB; rw [he, if_neg (by decide)]; rfl
    have HST := Aside0.mk hst
    clear hst
    go_enter Tryd.func68, Tryd.ntmps68
    go_wp2
    clear he
    go_loopw [8, 9] (fun v8 v9 wr => ∃ (n : Int) (long : Bool), 0 ≤ n ∧ n ≤ 9007199254740991 ∧ v8 = .int .u64 n ∧ v9 = .bool long ∧ Aside0 (NrRel w B wo s n long wr)) (fun _ _ wr => s.size - wr.iterPos w.heap.size)
    case atStart => exact ⟨0, false, by omega, by omega, rfl, rfl, ⟨⟨0, Nat.zero_le _, World.iter_heap w s 0, Below.alloc (Below.refl _ w) (Nat.le_refl _) _, HST.out⟩⟩⟩
    case round =>
      obtain ⟨n, long, hn0, hn1, rfl, rfl, HREL⟩ := hrel
      obtain ⟨pos, hpos, hit, hbel, hnum⟩ := HREL.out
      clear HREL HST
      by_cases hp : pos < s.size
      · obtain ⟨rn, wd, hd⟩ : ∃ rn wd, Utf8.decode s pos = (rn, wd) := ⟨_, _, rfl⟩
        have hnx0 : ∀ ty, (Instr.next (.pointer (some ⟨w.heap.size, 0, none⟩)) true ty).run Tryd.prog wr = .ok (.tuple #[.bool true, .int .i64 pos, .int .i32 rn]) (wr.iterAt w.heap.size s (pos + wd)) := fun ty => by
          have := Lib.run_next_any_at (P := Tryd.prog) wr w.heap.size s pos ty hit hp
          rw [hd] at this
          exact this
        have hc := HCL.out rn (wr.iterAt w.heap.size s (pos + wd))
        have HC := Aside0.mk hc
        clear hc
        rw [bytesOf_drop s pos hp] at hnum
        have HB' := Aside0.mk (Lib.below_iterAt hbel (Nat.le_refl _) s (pos + wd))
        have HIT := Aside0.mk (Lib.iterAt_heap wr w.heap.size s pos (pos + wd) hit)
        have HI0 := Aside0.mk hit
        have HHI := Aside0.mk (HW.out.high rn)
        have htop := HW.out.top rn
        have hlow := HW.out.low rn
        by_cases ha : (s[pos]'hp).toNat < 128
        · have h1 := decode_ascii s pos hp ha
          rw [hd] at h1
          obtain ⟨rfl, rfl⟩ := Prod.mk.inj h1
          generalize (s[pos]'hp).toNat = rn at *
          have HN := Aside0.mk hnum
          have HP := Aside0.mk hp
          have HD := Aside0.mk hd
          clear hnum hp hd ha h1 hit hbel hpos
          generalize hwo : wo rn = d at *
          have HWO := Aside0.mk hwo
          clear hwo
          by_cases hneg : d < 0
          · have HR := Aside0.mk (show numB B wo s = (0, 5) by rw [HN.out, numGo, HWO.out, if_pos hneg])
            clear HN
            go_wp2_with fail
            refine HC.out.mono ?_
            rintro e w' ⟨rfl, rfl⟩
            go_wp2
            go_ret2
            rw [HR.out]
            exact ⟨rfl, HB'.out⟩
          · have hd0 : 0 ≤ d := by omega
            cases long with
            | true =>
              have HR := Aside0.mk (show numB B wo s = numGo B wo ((bytesOf s).drop (pos + 1)) n true by rw [HN.out, numGo, HWO.out, if_neg hneg]; rfl)
              clear HN
              go_wp2_with fail
              refine HC.out.mono ?_
              rintro e w' ⟨rfl, rfl⟩
              go_wp2
              go_roundw
              case rel => exact ⟨n, true, hn0, hn1, rfl, rfl, ⟨⟨pos + 1, HP.out, HIT.out, HB'.out, HR.out⟩⟩⟩
              case measure => simp only [World.iterPos, HIT.out, HI0.out]; have := HP.out; omega
            | false =>
              rcases hB with rfl | rfl
              · by_cases hgt : (9007199254740991 - d) / 10 < n
                · have HR := Aside0.mk (show numB 10 wo s = numGo 10 wo ((bytesOf s).drop (pos + 1)) n true by rw [HN.out, numGo, HWO.out, if_neg hneg, Bool.false_or, if_pos (decide_eq_true hgt)])
                  clear HN
                  go_wp2_with fail
                  refine HC.out.mono ?_
                  rintro e w' ⟨rfl, rfl⟩
                  go_wp2
                  go_roundw
                  case rel => exact ⟨n, true, hn0, hn1, rfl, rfl, ⟨⟨pos + 1, HP.out, HIT.out, HB'.out, HR.out⟩⟩⟩
                  case measure => simp only [World.iterPos, HIT.out, HI0.out]; have := HP.out; omega
                · have HR := Aside0.mk (show numB 10 wo s = numGo 10 wo ((bytesOf s).drop (pos + 1)) (n * 10 + d) false by rw [HN.out, numGo, HWO.out, if_neg hneg, Bool.false_or, if_neg (by simpa using hgt)])
                  have hle : n * 10 + d ≤ 9007199254740991 := by omega
                  clear HN
                  go_wp2_with fail
                  refine HC.out.mono ?_
                  rintro e w' ⟨rfl, rfl⟩
                  go_wp2
                  go_roundw
                  case rel => exact ⟨n * 10 + d, false, by omega, by omega, rfl, rfl, ⟨⟨pos + 1, HP.out, HIT.out, HB'.out, HR.out⟩⟩⟩
                  case measure => simp only [World.iterPos, HIT.out, HI0.out]; have := HP.out; omega
              · by_cases hgt : (9007199254740991 - d) / 16 < n
                · have HR := Aside0.mk (show numB 16 wo s = numGo 16 wo ((bytesOf s).drop (pos + 1)) n true by rw [HN.out, numGo, HWO.out, if_neg hneg, Bool.false_or, if_pos (decide_eq_true hgt)])
                  clear HN
                  go_wp2_with fail
                  refine HC.out.mono ?_
                  rintro e w' ⟨rfl, rfl⟩
                  go_wp2
                  go_roundw
                  case rel => exact ⟨n, true, hn0, hn1, rfl, rfl, ⟨⟨pos + 1, HP.out, HIT.out, HB'.out, HR.out⟩⟩⟩
                  case measure => simp only [World.iterPos, HIT.out, HI0.out]; have := HP.out; omega
                · have HR := Aside0.mk (show numB 16 wo s = numGo 16 wo ((bytesOf s).drop (pos + 1)) (n * 16 + d) false by rw [HN.out, numGo, HWO.out, if_neg hneg, Bool.false_or, if_neg (by simpa using hgt)])
                  have hle : n * 16 + d ≤ 9007199254740991 := by omega
                  clear HN
                  go_wp2_with fail
                  refine HC.out.mono ?_
                  rintro e w' ⟨rfl, rfl⟩
                  go_wp2
                  go_roundw
                  case rel => exact ⟨n * 16 + d, false, by omega, by omega, rfl, rfl, ⟨⟨pos + 1, HP.out, HIT.out, HB'.out, HR.out⟩⟩⟩
                  case measure => simp only [World.iterPos, HIT.out, HI0.out]; have := HP.out; omega
        · have hrn := (decode_high s pos hp (by omega)).1
          rw [hd] at hrn
          have hneg : wo rn < 0 := HHI.out (by exact_mod_cast hrn)
          have HR := Aside0.mk (show numB B wo s = (0, 5) by rw [hnum, numGo, if_pos (HW.out.high _ (by omega))])
          clear hnum hp hd ha hit hbel hpos hrn
          generalize wo rn = d at *
          go_wp2_with fail
          refine HC.out.mono ?_
          rintro e w' ⟨rfl, rfl⟩
          go_wp2
          go_ret2
          rw [HR.out]
          exact ⟨rfl, HB'.out⟩
      · have hnx0 : ∀ ty, (Instr.next (.pointer (some ⟨w.heap.size, 0, none⟩)) true ty).run Tryd.prog wr = _ := fun ty => Lib.run_next_end_at wr w.heap.size s pos ty hit hp
        have he : (bytesOf s).drop pos = [] := List.drop_eq_nil_of_le (by rw [bytesOf_length]; omega)
        rw [he] at hnum
        have HB' := Aside0.mk hbel
        cases long with
        | true =>
          have HR := Aside0.mk (show numB B wo s = (0, 3) by rw [hnum, numGo, if_pos rfl])
          clear hnum he hit hbel hp hpos
          go_wp2
          go_ret2
          rw [HR.out]
          exact ⟨rfl, HB'.out⟩
        | false =>
          have HR := Aside0.mk (show numB B wo s = (n, 0) by rw [hnum, numGo, if_neg (by decide)])
          clear hnum he hit hbel hp hpos
          go_wp2
          go_ret2
          rw [HR.out]
          exact ⟨rfl, HB'.out⟩

theorem decClosure (rn : Nat) (W : World) : Calls Tryd.prog 69 (#[.int .i32 rn] ++ #[]) W fun e w' => e = .returned (.int .i64 (decW rn)) ∧ W = w' := by
  by_cases h : 48 ≤ (rn : Int) ∧ (rn : Int) ≤ 57
  · have hd : decW rn = (rn : Int) - 48 := by unfold decW; rw [if_pos h]
    have HD := Aside0.mk hd
    obtain ⟨h1, h2⟩ := h
    clear hd
    go_enter Tryd.func69, Tryd.ntmps69
    go_wp2
    go_ret
    exact ⟨by rw [HD.out]; rfl, rfl⟩
  · have hd : decW rn = -1 := by unfold decW; rw [if_neg h]
    have HD := Aside0.mk hd
    have h' : ¬ 48 ≤ (rn : Int) ∨ ¬ (rn : Int) ≤ 57 := by omega
    clear hd h
    rcases h' with h | h
    · go_enter Tryd.func69, Tryd.ntmps69
      go_wp2
      go_ret
      exact ⟨by rw [HD.out]; rfl, rfl⟩
    · go_enter Tryd.func69, Tryd.ntmps69
      go_wp2
      all_goals
        go_ret
        exact ⟨by rw [HD.out]; rfl, rfl⟩

def num_Decimal.f (a0 : ByteArray) : Option (Int × Int) := if a0.size ≤ 4398046511104 then some (numB 10 decW a0) else none
theorem num_Decimal.calls (a0 : ByteArray) (r1 r2 : Int) (w : World) (h : num_Decimal.f a0 = some (r1, r2)) :
    Calls Tryd.prog 55 #[.string a0] w fun e w' => e = .returned (.tuple #[.int .u64 r1, .int .i64 r2]) ∧ Below w.heap.size w w' := by
  unfold num_Decimal.f at h
  split at h
  · rename_i hs
    have hr := Option.some.inj h
    have HC := Aside0.mk (numRead_calls 10 (.inl rfl) 69 decW decOk (enters_of Tryd.func69 (by kernel_rfl) rfl) decClosure a0 w hs)
    rw [hr] at HC
    clear h hr hs
    go_enter Tryd.func55, Tryd.ntmps55
    go_wp2_with fail
    refine HC.out.mono ?_
    rintro e w' ⟨rfl, hb⟩
    go_wp2
    go_ret2
    exact ⟨rfl, hb⟩
  · exact absurd h (by simp)
end Go.Proofs.YtcamdfjjdigaeaaDoor.P
