/- text.Lower: A to Z become a to z. -/
import Derived.Test.YtcamdfjjdigaeaaDoorQ0
import Derived.Lib.ConvBytes
set_option linter.unusedVariables false
set_option linter.unusedSimpArgs false
namespace Go.Proofs.YtcamdfjjdigaeaaDoor.P
open Go.RowKit Go.Proofs.YtcamdfjjdigaeaaDoorW.PrintWords Go.Proofs.YtcamdfjjdigaeaaDoorW.PrintLast Go.Proofs.YtcamdfjjdigaeaaDoorW.PrintMore

/-- A byte's small letter. -/
def lowU (c : UInt8) : UInt8 := if 65 ≤ c && c ≤ 90 then c + 32 else c
def lowB (s : ByteArray) : ByteArray := ⟨(s.data.toList.map lowU).toArray⟩
def text_Lower.f (a0 : ByteArray) : Option ByteArray := if a0.size ≤ 9223372036854775807 then some (lowB a0) else none
/-- The same, as whole numbers. -/
def lowI (c : Int) : Int := if 65 ≤ c ∧ c ≤ 90 then c + 32 else c
theorem lowI_U (c : UInt8) : lowI (c.toNat : Int) = ((lowU c).toNat : Int) := by
  unfold lowI lowU
  have h1 : (65 ≤ c && c ≤ 90) = decide (65 ≤ (c.toNat : Int) ∧ (c.toNat : Int) ≤ 90) := by
    rw [Bool.eq_iff_iff]; simp [UInt8.le_iff_toNat_le]; omega
  rw [h1]
  by_cases h : 65 ≤ (c.toNat : Int) ∧ (c.toNat : Int) ≤ 90
  · simp only [h, and_self, if_true, decide_true]
    rw [UInt8.toNat_add]; simp; omega
  · simp [h]
/-- The first k letters are small. -/
def lowTo (l : List Int) (k : Nat) : List Int := (l.take k).map lowI ++ l.drop k
theorem lowTo_len (l : List Int) (k : Nat) : (lowTo l k).length = l.length := by
  unfold lowTo; simp [List.length_take, List.length_drop]; omega
theorem lowTo_zero (l : List Int) : lowTo l 0 = l := by simp [lowTo]
theorem lowTo_at (l : List Int) (k : Nat) (h : k < l.length) : (lowTo l k).getD k 0 = l.getD k 0 := by
  unfold lowTo
  rw [List.getD_eq_getElem?_getD, List.getElem?_append_right (by simp; omega), List.getD_eq_getElem?_getD]
  simp [List.length_take, Nat.min_eq_left (Nat.le_of_lt h)]
theorem lowTo_set (l : List Int) (k : Nat) (h : k < l.length) (v : Int) (hv : v = lowI (l.getD k 0)) : (lowTo l k).set k v = lowTo l (k + 1) := by
  subst hv
  unfold lowTo
  have hl : ((l.take k).map lowI).length = k := by simp; omega
  rw [List.set_append_right _ _ (by omega), hl, Nat.sub_self, List.drop_eq_getElem_cons h, List.set_cons_zero, List.take_succ_eq_append_getElem h, List.map_append]
  simp [List.getD_eq_getElem?_getD, h]
theorem lowTo_same (l : List Int) (k : Nat) (h : k < l.length) (hv : lowI (l.getD k 0) = l.getD k 0) : lowTo l k = lowTo l (k + 1) := by
  rw [← lowTo_set l k h _ rfl, hv, ← lowTo_at l k h]
  apply List.ext_getElem?
  intro i
  rw [List.getElem?_set]
  split
  · rename_i e; subst e
    have hk : k < (lowTo l k).length := by rw [lowTo_len]; exact h
    simp [List.getD_eq_getElem?_getD, hk]
  · rfl
theorem lowTo_all (s : ByteArray) : strOfNums (lowTo (bytesOf s) s.size) = lowB s := by
  unfold lowTo lowB strOfNums
  have : (bytesOf s).length = s.size := bytesOf_length s
  rw [List.take_of_length_le (by omega), List.drop_eq_nil_of_le (by omega), List.append_nil]
  unfold bytesOf
  congr 2
  rw [List.map_map, List.map_map]
  apply List.map_congr_left
  intro c _
  simp only [Function.comp]
  rw [lowI_U]
  simp
/-- A block that is laid, with these bytes ahead in it. -/
def Holding (b : Nat) (l : List Int) (w : World) : Prop := (∀ j : Nat, j < l.length → w.cell? ⟨b, j, none⟩ = some (.int .u8 (l.getD j 0))) ∧ (∀ j : Nat, j < l.length → w.frozen? ⟨b, j, none⟩ = false)
theorem Holding.reads {b : Nat} {l : List Int} {w : World} (h : Holding b l w) (hm : l.length ≤ 9223372036854775807) : ReadsInt w .u8 (some ⟨b, 0, none⟩) l.length l :=
  ⟨rfl, hm, fun _ => ⟨_, rfl, fun j hj => by rw [add_plain]; exact h.1 j hj⟩⟩
theorem Holding.new (W : World) (s : ByteArray) : Holding W.heap.size (bytesOf s) (Lib.bytesWorld W 5 s) := by
  refine ⟨fun j hj => ?_, fun j hj => ?_⟩
  · rw [bytesOf_length] at hj
    rw [Lib.bytesWorld_cell W 5 s j hj]
    have hj' : j < s.data.size := hj
    simp only [bytesOf, List.getD_eq_getElem?_getD, List.getElem?_map, Array.getElem?_toList]
    rw [Array.getElem?_eq_getElem hj']
    rfl
  · rw [bytesOf_length] at hj
    unfold World.frozen?
    rw [Lib.bytesWorld_at_new]
    have hs : s.size ≤ (Lib.bytesCells W 5 s).size := by simp [Lib.bytesCells]
    simp; omega
theorem Holding.set {b : Nat} {l : List Int} {w : World} (h : Holding b l w) (k : Nat) (hk : k < l.length) (v : Int) : Holding b (l.set k v) (w.setCell ⟨b, k, none⟩ (.int .u8 v)) := by
  refine ⟨fun j hj => ?_, fun j hj => ?_⟩
  · rw [List.length_set] at hj
    by_cases e : j = k
    · subst e
      rw [World.cell?_setCell_same w _ _ (h.1 j hj)]
      simp [List.getD_eq_getElem?_getD, hk]
    · rw [World.cell?_setCell_other w ⟨b, k, none⟩ ⟨b, j, none⟩ _ (fun he => e (by injection he with _ h2; exact h2.symm)), h.1 j hj, List.getD_eq_getElem?_getD, List.getD_eq_getElem?_getD, List.getElem?_set_ne (by omega)]
  · rw [List.length_set] at hj
    rw [World.frozen?_setCell]
    exact h.2 j hj

set_option maxHeartbeats 1000000 in
theorem text_Lower.calls (a0 : ByteArray) (r : ByteArray) (w : World) (h : text_Lower.f a0 = some r) :
    Calls Tryd.prog 66 #[.string a0] w fun e w' => e = .returned (.string r) ∧ Below w.heap.size w w' := by
  unfold text_Lower.f at h
  split at h
  · rename_i hs
    have HR := Aside0.mk (Option.some.inj h)
    clear h
    have kc := fun W => Lib.run_convert_string_bytes (P := Tryd.prog) W 9 56 5 a0 Tryd.underlying9 Tryd.underlying56 Tryd.underlying5
    have HB0 := Aside0.mk (bytes_below (Below.refl w.heap.size w) (Nat.le_refl _) 5 a0)
    have HH0 := Aside0.mk (Holding.new w a0)
    have HLN := Aside0.mk (bytesOf_length a0)
    go_enter Tryd.func66, Tryd.ntmps66
    go_wp2
    clear kc
    go_loopg [10] a0.size (fun gg s10 wr => ∃ kk : Nat, kk ≤ a0.size ∧ a0.size - kk ≤ gg ∧ s10 = .int .i64 kk ∧ Aside0 (Below w.heap.size w wr) ∧ Aside0 (Holding w.heap.size (lowTo (bytesOf a0) kk) wr))
    case atStart => exact ⟨0, Nat.zero_le _, by omega, rfl, HB0, ⟨by rw [lowTo_zero]; exact HH0.out⟩⟩
    case round =>
      obtain ⟨kk, hkk, hg, rfl, BW, HH⟩ := hrel
      clear HB0 HH0
      by_cases hlt : kk < a0.size
      · have hltz : (kk : Int) < (a0.size : Int) := by omega
        have hkl : kk < (bytesOf a0).length := by rw [HLN.out]; exact hlt
        have l2 := HH.out.1 kk (by rw [lowTo_len]; exact hkl)
        rw [lowTo_at _ _ hkl] at l2
        have f2 := HH.out.2 kk (by rw [lowTo_len]; exact hkl)
        have HS := Aside0.mk (fun v hv => lowTo_set (bytesOf a0) kk hkl v hv)
        have HM := Aside0.mk (fun hv => lowTo_same (bytesOf a0) kk hkl hv)
        have HSet := fun v => HH.out.set kk (by rw [lowTo_len]; exact hkl) v
        generalize (bytesOf a0).getD kk 0 = x at l2 HS HM
        have HSet' := Aside0.mk HSet
        clear HSet hkl
        by_cases hx : 65 ≤ x ∧ x ≤ 90
        · obtain ⟨hx1, hx2⟩ := hx
          go_wp2
          go_roundg (a0.size - (kk + 1))
          case measure => omega
          case rel => exact ⟨kk + 1, by omega, by omega, by go_num, ⟨BW.out.setCell (by simp) _⟩, ⟨by rw [← HS.out (x + 97 - 65) (by unfold lowI; rw [if_pos ⟨hx1, hx2⟩]; omega)]; exact HSet'.out (x + 97 - 65)⟩⟩
        · have hx' : ¬ 65 ≤ x ∨ ¬ x ≤ 90 := by omega
          have HX := Aside0.mk (HM.out (by unfold lowI; rw [if_neg hx]))
          clear hx
          rcases hx' with hx | hx
          · go_wp2
            go_roundg (a0.size - (kk + 1))
            case measure => omega
            case rel => exact ⟨kk + 1, by omega, by omega, by go_num, BW, ⟨by rw [← HX.out]; exact HH.out⟩⟩
          · go_wp2
            all_goals
              go_roundg (a0.size - (kk + 1))
              case measure => omega
              case rel => exact ⟨kk + 1, by omega, by omega, by go_num, BW, ⟨by rw [← HX.out]; exact HH.out⟩⟩
      · have hltz : ¬ (kk : Int) < (a0.size : Int) := by omega
        have hke : kk = a0.size := by omega
        subst hke
        have hrd := HH.out.reads (by rw [lowTo_len, HLN.out]; exact hs)
        rw [lowTo_len, HLN.out] at hrd
        have hcv := fun c => string_of_reads (P := Tryd.prog) (src := 56) (dst := 9) (c := c) Tryd.underlying56 Tryd.underlying5 Tryd.underlying9 hrd
        rw [lowTo_all, HR.out] at hcv
        clear hrd
        go_wp2
        go_ret
        exact ⟨rfl, BW.out⟩
  · exact absurd h (by simp)
end Go.Proofs.YtcamdfjjdigaeaaDoor.P
