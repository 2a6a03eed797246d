/- tollhouselaw07.upper: a to z become A to Z. -/
import Derived.Test.YtcamdfjjdigaeaaDoorFtextLower
import Derived.Lib.ConvBytes
set_option linter.unusedVariables false
set_option linter.unusedSimpArgs false
namespace Go.Proofs.YtcamdfjjdigaeaaDoor.P
open Go.RowKit Go.Proofs.YtcamdfjjdigaeaaDoorW.PrintWords Go.Proofs.YtcamdfjjdigaeaaDoorW.PrintLast Go.Proofs.YtcamdfjjdigaeaaDoorW.PrintMore

/-- A byte's capital letter. -/
def upU (c : UInt8) : UInt8 := if 97 ≤ c && c ≤ 122 then c - 32 else c
def upB (s : ByteArray) : ByteArray := ⟨(s.data.toList.map upU).toArray⟩
def tollhouselaw07_upper.f (a0 : ByteArray) : Option ByteArray := if a0.size ≤ 9223372036854775807 then some (upB a0) else none
/-- The same, as whole numbers. -/
def upI (c : Int) : Int := if 97 ≤ c ∧ c ≤ 122 then c - 32 else c
theorem upI_U (c : UInt8) : upI (c.toNat : Int) = ((upU c).toNat : Int) := by
  unfold upI upU
  have h1 : (97 ≤ c && c ≤ 122) = decide (97 ≤ (c.toNat : Int) ∧ (c.toNat : Int) ≤ 122) := by
    rw [Bool.eq_iff_iff]; simp [UInt8.le_iff_toNat_le]; omega
  rw [h1]
  by_cases h : 97 ≤ (c.toNat : Int) ∧ (c.toNat : Int) ≤ 122
  · simp only [h, and_self, if_true, decide_true]
    rw [UInt8.toNat_sub]; simp; omega
  · simp [h]
/-- The first k letters are small. -/
def upTo (l : List Int) (k : Nat) : List Int := (l.take k).map upI ++ l.drop k
theorem upTo_len (l : List Int) (k : Nat) : (upTo l k).length = l.length := by
  unfold upTo; simp [List.length_take, List.length_drop]; omega
theorem upTo_zero (l : List Int) : upTo l 0 = l := by simp [upTo]
theorem upTo_at (l : List Int) (k : Nat) (h : k < l.length) : (upTo l k).getD k 0 = l.getD k 0 := by
  unfold upTo
  rw [List.getD_eq_getElem?_getD, List.getElem?_append_right (by simp; omega), List.getD_eq_getElem?_getD]
  simp [List.length_take, Nat.min_eq_left (Nat.le_of_lt h)]
theorem upTo_set (l : List Int) (k : Nat) (h : k < l.length) (v : Int) (hv : v = upI (l.getD k 0)) : (upTo l k).set k v = upTo l (k + 1) := by
  subst hv
  unfold upTo
  have hl : ((l.take k).map upI).length = k := by simp; omega
  rw [List.set_append_right _ _ (by omega), hl, Nat.sub_self, List.drop_eq_getElem_cons h, List.set_cons_zero, List.take_succ_eq_append_getElem h, List.map_append]
  simp [List.getD_eq_getElem?_getD, h]
theorem upTo_same (l : List Int) (k : Nat) (h : k < l.length) (hv : upI (l.getD k 0) = l.getD k 0) : upTo l k = upTo l (k + 1) := by
  rw [← upTo_set l k h _ rfl, hv, ← upTo_at l k h]
  apply List.ext_getElem?
  intro i
  rw [List.getElem?_set]
  split
  · rename_i e; subst e
    have hk : k < (upTo l k).length := by rw [upTo_len]; exact h
    simp [List.getD_eq_getElem?_getD, hk]
  · rfl
theorem upTo_all (s : ByteArray) : strOfNums (upTo (bytesOf s) s.size) = upB s := by
  unfold upTo upB strOfNums
  have : (bytesOf s).length = s.size := bytesOf_length s
  rw [List.take_of_length_le (by omega), List.drop_eq_nil_of_le (by omega), List.append_nil]
  unfold bytesOf
  congr 2
  rw [List.map_map, List.map_map]
  apply List.map_congr_left
  intro c _
  simp only [Function.comp]
  rw [upI_U]
  simp
set_option maxHeartbeats 1000000 in
theorem tollhouselaw07_upper.calls (a0 : ByteArray) (r : ByteArray) (w : World) (h : tollhouselaw07_upper.f a0 = some r) :
    Calls Tryd.prog 14 #[.string a0] w fun e w' => e = .returned (.string r) ∧ Below w.heap.size w w' := by
  unfold tollhouselaw07_upper.f at h
  split at h
  · rename_i hs
    have HR := Aside0.mk (Option.some.inj h)
    clear h
    have kc := fun W => Lib.run_convert_string_bytes (P := Tryd.prog) W 9 56 5 a0 Tryd.underlying9 Tryd.underlying56 Tryd.underlying5
    have HB0 := Aside0.mk (bytes_below (Below.refl w.heap.size w) (Nat.le_refl _) 5 a0)
    have HH0 := Aside0.mk (Holding.new w a0)
    have HLN := Aside0.mk (bytesOf_length a0)
    go_enter Tryd.func14, Tryd.ntmps14
    go_wp2
    clear kc
    go_loopg [10] a0.size (fun gg s10 wr => ∃ kk : Nat, kk ≤ a0.size ∧ a0.size - kk ≤ gg ∧ s10 = .int .i64 kk ∧ Aside0 (Below w.heap.size w wr) ∧ Aside0 (Holding w.heap.size (upTo (bytesOf a0) kk) wr))
    case atStart => exact ⟨0, Nat.zero_le _, by omega, rfl, HB0, ⟨by rw [upTo_zero]; exact HH0.out⟩⟩
    case round =>
      obtain ⟨kk, hkk, hg, rfl, BW, HH⟩ := hrel
      clear HB0 HH0
      by_cases hlt : kk < a0.size
      · have hltz : (kk : Int) < (a0.size : Int) := by omega
        have hkl : kk < (bytesOf a0).length := by rw [HLN.out]; exact hlt
        have l2 := HH.out.1 kk (by rw [upTo_len]; exact hkl)
        rw [upTo_at _ _ hkl] at l2
        have f2 := HH.out.2 kk (by rw [upTo_len]; exact hkl)
        have HS := Aside0.mk (fun v hv => upTo_set (bytesOf a0) kk hkl v hv)
        have HM := Aside0.mk (fun hv => upTo_same (bytesOf a0) kk hkl hv)
        have HSet := fun v => HH.out.set kk (by rw [upTo_len]; exact hkl) v
        generalize (bytesOf a0).getD kk 0 = x at l2 HS HM
        have HSet' := Aside0.mk HSet
        clear HSet hkl
        by_cases hx : 97 ≤ x ∧ x ≤ 122
        · obtain ⟨hx1, hx2⟩ := hx
          go_wp2
          go_roundg (a0.size - (kk + 1))
          case measure => omega
          case rel => exact ⟨kk + 1, by omega, by omega, by go_num, ⟨BW.out.setCell (by simp) _⟩, ⟨by rw [← HS.out (x - 32) (by unfold upI; rw [if_pos ⟨hx1, hx2⟩])]; exact HSet'.out (x - 32)⟩⟩
        · have hx' : ¬ 97 ≤ x ∨ ¬ x ≤ 122 := by omega
          have HX := Aside0.mk (HM.out (by unfold upI; rw [if_neg hx]))
          clear hx
          rcases hx' with hx | hx
          · go_wp2
            go_roundg (a0.size - (kk + 1))
            case measure => omega
            case rel => exact ⟨kk + 1, by omega, by omega, by go_num, BW, ⟨by rw [← HX.out]; exact HH.out⟩⟩
          · go_wp2
            all_goals
              go_roundg (a0.size - (kk + 1))
              case measure => omega
              case rel => exact ⟨kk + 1, by omega, by omega, by go_num, BW, ⟨by rw [← HX.out]; exact HH.out⟩⟩
      · have hltz : ¬ (kk : Int) < (a0.size : Int) := by omega
        have hke : kk = a0.size := by omega
        subst hke
        have hrd := HH.out.reads (by rw [upTo_len, HLN.out]; exact hs)
        rw [upTo_len, HLN.out] at hrd
        have hcv := fun c => string_of_reads (P := Tryd.prog) (src := 56) (dst := 9) (c := c) Tryd.underlying56 Tryd.underlying5 Tryd.underlying9 hrd
        rw [upTo_all, HR.out] at hcv
        clear hrd
        go_wp2
        go_ret
        exact ⟨rfl, BW.out⟩
  · exact absurd h (by simp)
end Go.Proofs.YtcamdfjjdigaeaaDoor.P
