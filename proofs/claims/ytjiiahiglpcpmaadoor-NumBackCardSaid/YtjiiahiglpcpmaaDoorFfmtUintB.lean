/- strconv.FormatUint to the base 16: the numeral in small letters. -/
import Derived.Test.YtjiiahiglpcpmaaDoorFTab
import Derived.Test.YtjiiahiglpcpmaaDoorShelf
import Derived.Test.YtjiiahiglpcpmaaDoorPDig
import Derived.Lib.ItoaMem
import Derived.Laws.Bits64b
set_option linter.unusedVariables false
set_option linter.unusedSimpArgs false
namespace Go.Proofs.YtjiiahiglpcpmaaDoor.P
open Go.RowKit Go.Sort Go.Proofs.YtjiiahiglpcpmaaDoorW.PrintWords Go.Proofs.YtjiiahiglpcpmaaDoorW.PrintLast Go.Proofs.YtjiiahiglpcpmaaDoorW.PrintMore

theorem pow2_16 (w : World) : Calls Tryd.prog 76 #[.int .i64 16] w fun e w' => e = .returned (.bool true) ∧ w' = w := by
  have hb : Go.bits .and .i64 16 15 = 0 := by decide
  go_enter Tryd.func76, Tryd.ntmps76
  go_wp2
  go_ret
  first | exact ⟨rfl, rfl⟩ | (rw [hb]; exact ⟨rfl, rfl⟩) | simp [hb]
theorem tz64_16 (w : World) (hT : Tab w) : Calls Tryd.prog 80 #[.int .u64 16] w fun e w' => e = .returned (.int .i64 4) ∧ w' = w := by
  have hcell := hT.cell16
  have key : IntKind.u64.wrap (Go.bits .and .u64 16 (IntKind.u64.wrap (-16)) * 285870213051353865) / 288230376151711744 = 15 := by decide
  go_enter Tryd.func80, Tryd.ntmps80
  go_wp2_with (simp only [key])
  go_ret
  exact ⟨rfl, rfl⟩
theorem tz_16 (w : World) (hT : Tab w) : Calls Tryd.prog 77 #[.int .u64 16] w fun e w' => e = .returned (.int .i64 4) ∧ w' = w := by
  have HC := Aside0.mk (tz64_16 w hT)
  clear hT
  go_enter Tryd.func77, Tryd.ntmps77
  go_wp2_with (go_at_call 80; refine HC.out.mono ?_; rintro e w' ⟨rfl, rfl⟩)
  go_ret
  exact ⟨rfl, rfl⟩


theorem hexC_index : ∀ d : Fin 16, ((⟨#[48, 49, 50, 51, 52, 53, 54, 55, 56, 57, 97, 98, 99, 100, 101, 102, 103, 104, 105, 106, 107, 108, 109, 110, 111, 112, 113, 114, 115, 116, 117, 118, 119, 120, 121, 122]⟩ : ByteArray).data.toList.getD d.val 0) = hexC d.val := by decide +kernel
theorem hex_index (d : Nat) (hd : d < 16) (W : World) : (Instr.index 9 (.string ⟨#[48, 49, 50, 51, 52, 53, 54, 55, 56, 57, 97, 98, 99, 100, 101, 102, 103, 104, 105, 106, 107, 108, 109, 110, 111, 112, 113, 114, 115, 116, 117, 118, 119, 120, 121, 122]⟩) (.int .u64 (d : Int))).run Tryd.prog W = .ok (.int .u8 ((hexC d).toNat : Int)) W := by
  rw [run_index_string W 9 _ .u64 (d : Int) Tryd.underlying9, dif_pos ⟨by omega, by show (d : Int) < ((36 : Nat) : Int); omega⟩]
  have h := hexC_index ⟨d, hd⟩
  have e : ((d : Int)).toNat = d := by omega
  simp only [e]
  rw [← h]
  have hl : d < 36 := by omega
  have : ((⟨#[48, 49, 50, 51, 52, 53, 54, 55, 56, 57, 97, 98, 99, 100, 101, 102, 103, 104, 105, 106, 107, 108, 109, 110, 111, 112, 113, 114, 115, 116, 117, 118, 119, 120, 121, 122]⟩ : ByteArray).data.toList.getD d 0) = (⟨#[48, 49, 50, 51, 52, 53, 54, 55, 56, 57, 97, 98, 99, 100, 101, 102, 103, 104, 105, 106, 107, 108, 109, 110, 111, 112, 113, 114, 115, 116, 117, 118, 119, 120, 121, 122]⟩ : ByteArray)[d]'(show d < 36 from hl) := by
    rw [List.getD_eq_getElem?_getD, List.getElem?_eq_getElem (show d < 36 from hl)]
    rfl
  rw [this]
theorem land15 (u : Nat) (h : u < 18446744073709551616) : Go.bits .and .u64 (u : Int) 15 = ((u % 16 : Nat) : Int) := by
  have := bits_and_u64_nat u 15 h (by decide)
  rw [show ((15 : Nat) : Int) = 15 from rfl] at this
  rw [this, show (15 : Nat) = 2 ^ 4 - 1 from rfl, Nat.and_two_pow_sub_one_eq_mod]
/-- What holds at the loop's head: i places are free, the rest holds the letters made. -/
def HxRel (w : World) (u0 u i : Nat) (tail : List UInt8) (wr : World) : Prop :=
  i + tail.length = 65 ∧ 50 ≤ i ∧ u < 16 ^ (i - 49) ∧ digGo 16 65 u0 [] = digGo 16 i u tail ∧ Below w.heap.size w wr ∧ (∀ t, t < 65 → wr.frozen? ⟨w.heap.size, t, none⟩ = false) ∧ (∀ t, t < i → wr.cell? ⟨w.heap.size, t, none⟩ = some (.int .u8 0)) ∧ (∀ t (h : t < tail.length), wr.cell? ⟨w.heap.size, i + t, none⟩ = some (.int .u8 (tail[t].toNat : Int)))
theorem HxRel.step {w wr : World} {u0 u m : Nat} {tail : List UInt8} (h : HxRel w u0 u (m + 1) tail wr) (hu : 16 ≤ u) : HxRel w u0 (u / 16) m (hexC (u % 16) :: tail) (wr.setCell ⟨w.heap.size, m, none⟩ (.int .u8 ((hexC (u % 16)).toNat : Int))) := by
  obtain ⟨h1, h2, h3, h4, h5, h6, h7, h8⟩ := h
  have hm : 50 ≤ m := by
    rcases Nat.lt_or_ge m 50 with h | h
    · obtain rfl : m = 49 := by omega
      rw [show 49 + 1 - 49 = 1 from rfl, Nat.pow_one] at h3
      omega
    · exact h
  refine ⟨by rw [List.length_cons]; omega, hm, ?_, ?_, below_set h5 (Nat.le_refl _), fun t ht => (World.frozen?_setCell _ _ _ _).trans (h6 t ht), fun t ht => ?_, fun t ht => ?_⟩
  · rw [show m + 1 - 49 = m - 49 + 1 by omega, Nat.pow_succ, Nat.mul_comm] at h3
    exact Nat.div_lt_of_lt_mul h3
  · rw [h4]
    show (if u / 16 = 0 then _ else _) = _
    rw [if_neg (by omega)]
  · rw [World.cell?_setCell_other _ _ _ _ (by simp only [ne_eq, Addr.mk.injEq]; omega)]
    exact h7 t (by omega)
  · cases t with
    | zero => exact World.cell?_setCell_same _ _ _ (h7 m (by omega))
    | succ t =>
      rw [World.cell?_setCell_other _ _ _ _ (by simp), show m + (t + 1) = m + 1 + t by omega, List.getElem_cons_succ]
      exact h8 t (by simpa using ht)
theorem HxRel.last {w wr : World} {u0 u m : Nat} {tail : List UInt8} (h : HxRel w u0 u (m + 1) tail wr) (hu : u < 16) :
    digGo 16 65 u0 [] = hexC u :: tail ∧ Below w.heap.size w (wr.setCell ⟨w.heap.size, m, none⟩ (.int .u8 ((hexC u).toNat : Int))) ∧ ∀ t (ht : t < (hexC u :: tail).length), (wr.setCell ⟨w.heap.size, m, none⟩ (.int .u8 ((hexC u).toNat : Int))).cell? ⟨w.heap.size, m + t, none⟩ = some (.int .u8 (((hexC u :: tail)[t]).toNat : Int)) := by
  obtain ⟨h1, h2, h3, h4, h5, h6, h7, h8⟩ := h
  refine ⟨?_, below_set h5 (Nat.le_refl _), fun t ht => ?_⟩
  · rw [h4]
    show (if u / 16 = 0 then _ else _) = _
    rw [if_pos (Nat.div_eq_of_lt hu), Nat.mod_eq_of_lt hu]
  · cases t with
    | zero => exact World.cell?_setCell_same _ _ _ (h7 m (by omega))
    | succ t =>
      rw [World.cell?_setCell_other _ _ _ _ (by simp), show m + (t + 1) = m + 1 + t by omega, List.getElem_cons_succ]
      exact h8 t (by simpa using ht)

set_option maxRecDepth 100000 in
set_option maxHeartbeats 4000000 in
theorem formatBits_hex (u0 : Nat) (hu64 : u0 < 18446744073709551616) (w : World) (hT : Tab w) : Calls Tryd.prog 65 #[.slice none 0 0, .int .u64 u0, .int .i64 16, .bool false, .bool false] w fun e w' => e = .returned (.tuple #[.slice none 0 0, .string ⟨(digGo 16 65 u0 []).toArray⟩]) ∧ Below w.heap.size w w' := by
  have HT := Aside0.mk hT
  clear hT
  go_enter Tryd.func65, Tryd.ntmps65
  go_wp2_with (first
    | (go_at_call 76; refine (pow2_16 _).mono ?_; rintro e w' ⟨rfl, rfl⟩)
    | (go_at_call 77; refine (tz_16 _ (Tab.alloc HT.out _)).mono ?_; rintro e w' ⟨rfl, rfl⟩))
  go_name_world W0 hW0
  have hst : HxRel w u0 u0 65 [] W0 := by
    refine ⟨rfl, by decide, hu64, rfl, by rw [← hW0]; exact below_alloc (Below.refl _ _) _, fun t ht => by rw [← hW0]; exact World.frozen?_alloc_new _ _ _ _, fun t ht => ?_, fun t ht => by cases ht⟩
    rw [← hW0, World.cell?_alloc_new]
    exact (show (Array.replicate 65 (Value.int .u8 0))[t]? = some (.int .u8 0) by rw [Array.getElem?_replicate, if_pos ht])
  clear hW0
  have HST := Aside0.mk hst
  clear hst
  go_loopw [1, 13] (fun vu vi wr => ∃ (u i : Nat) (tail : List UInt8), u ≤ u0 ∧ vu = .int .u64 u ∧ vi = .int .i64 i ∧ Aside0 (HxRel w u0 u i tail wr)) (fun vu _ _ => (RowKit.intOf vu).toNat)
  case atStart => exact ⟨u0, 65, [], Nat.le_refl _, rfl, rfl, HST⟩
  case round =>
    obtain ⟨u, i, tail, hule, rfl, rfl, HR⟩ := hrel
    have hr := HR.out
    obtain ⟨m, rfl⟩ : ∃ m, i = m + 1 := ⟨i - 1, by have := hr.2.1; omega⟩
    have hm64 : m < 65 := by have := hr.1; omega
    have hf := hr.2.2.2.2.2.1 m hm64
    have hc := hr.2.2.2.2.2.2.1 m (by omega)
    have hu6 : u < 18446744073709551616 := by omega
    clear HST hr
    by_cases h16 : 16 ≤ u
    · have hand := land15 u hu6
      have hix := hex_index (u % 16) (by omega)
      have HS := Aside0.mk (HR.out.step h16)
      obtain ⟨q, hq⟩ : ∃ q, q = u / 16 := ⟨_, rfl⟩
      have hqi : (u : Int) / 16 = (q : Int) := by omega
      have hlt : q < u := by omega
      have hqle : q ≤ u0 := by omega
      have HQ := Aside0.mk hlt
      have HQ2 := Aside0.mk hqle
      rw [← hq] at HS
      generalize u % 16 = d at *
      clear HR hq hu6 hule hlt hqle
      go_wp2
      exact ⟨⟨q, m, hexC d :: tail, HQ2.out, rfl, rfl, HS⟩, by show ((q : Int)).toNat < ((u : Int)).toNat; have := HQ.out; omega⟩
    · obtain ⟨hl1, hl2, hl3⟩ := HR.out.last (Nat.lt_of_not_le h16)
      have hix := hex_index u (by omega)
      have hal : Tryd.prog.arrayLen 110 = 65 := by simp [Program.arrayLen, Tryd.underlying110]
      have hsl : ∀ W, (Instr.sliceAt 110 (.pointer (some ⟨w.heap.size, 0, none⟩)) (some (.int .i64 (m : Int))) none none).run Tryd.prog W = .ok (.slice (some ⟨w.heap.size, m, none⟩) (65 - m) (65 - m)) W := fun W => by
        rw [run_sliceAt_array_l W 110 ⟨w.heap.size, 0, none⟩ (by simp [Program.arrayLen, Program.elem, Tryd.underlying110]) .i64 (m : Int) (by omega) (by rw [hal]; omega)]
        go_simp
        omega
      have hlen : (hexC u :: tail).length = 65 - m := by have := HR.out.1; rw [List.length_cons]; omega
      have hcv : (convert 49 9 (.slice (some ⟨w.heap.size, m, none⟩) (65 - m) (65 - m))).run Tryd.prog (wr.setCell ⟨w.heap.size, m, none⟩ (.int .u8 ((hexC u).toNat : Int))) = .ok (.string ⟨(digGo 16 65 u0 []).toArray⟩) (wr.setCell ⟨w.heap.size, m, none⟩ (.int .u8 ((hexC u).toNat : Int))) := by
        have h := run_convert_bytes_back (P := Tryd.prog) (wr.setCell ⟨w.heap.size, m, none⟩ (.int .u8 ((hexC u).toNat : Int))) 49 9 5 ⟨w.heap.size, m, none⟩ (65 - m) (hexC u :: tail) Tryd.underlying49 Tryd.underlying5 Tryd.underlying9 (fun j hj => by rw [Lib.add_plain]; exact hl3 j hj)
        rw [hlen, ← hl1] at h
        exact h
      have HL2 := Aside0.mk hl2
      have hlt : u < 16 := Nat.lt_of_not_le h16
      clear HR hl1 hl2 hl3 hal hlen hule
      go_wp2
      first | go_ret2 | go_ret | trace_state
      exact ⟨rfl, HL2.out⟩
theorem FormatUintI_hex (u : Nat) (hu64 : u < 18446744073709551616) (w : World) (hT : Tab w) : Calls Tryd.prog 55 #[.int .u64 u, .int .i64 16] w fun e w' => e = .returned (.string ⟨(digGo 16 65 u []).toArray⟩) ∧ Below w.heap.size w w' := by
  have HC := Aside0.mk (formatBits_hex u hu64 w hT)
  clear hT
  go_enter Tryd.func55, Tryd.ntmps55
  go_wp2_with fail
  refine HC.out.mono ?_
  rintro e w' ⟨rfl, hb⟩
  go_wp2
  go_ret
  exact ⟨rfl, hb⟩
end Go.Proofs.YtjiiahiglpcpmaaDoor.P
