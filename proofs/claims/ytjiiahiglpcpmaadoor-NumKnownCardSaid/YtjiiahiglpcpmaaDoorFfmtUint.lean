/- num.Text, num.HexText: at the numbers of the examples, and at what is too great. -/
import Derived.Test.YtjiiahiglpcpmaaDoorFTab
import Derived.Test.YtjiiahiglpcpmaaDoorShelf
import Derived.Lib.Itoa
set_option linter.unusedVariables false
set_option linter.unusedSimpArgs false
namespace Go.Proofs.YtjiiahiglpcpmaaDoor.P
open Go.RowKit Go.Proofs.YtjiiahiglpcpmaaDoorW.PrintWords Go.Proofs.YtjiiahiglpcpmaaDoorW.PrintLast Go.Proofs.YtjiiahiglpcpmaaDoorW.PrintMore

theorem pow2_16 (w : World) : Calls Tryd.prog 76 #[.int .i64 16] w fun e w' => e = .returned (.bool true) ∧ w' = w := by
  have hb : Go.bits .and .i64 16 15 = 0 := by decide
  go_enter Tryd.func76, Tryd.ntmps76
  go_wp2
  go_ret
  first | exact ⟨rfl, rfl⟩ | (rw [hb]; exact ⟨rfl, rfl⟩) | simp [hb]
theorem tz64_16 (w : World) (hT : Tab w) : Calls Tryd.prog 80 #[.int .u64 16] w fun e w' => e = .returned (.int .i64 4) ∧ w' = w := by
  have hcell := hT.cell16
  have key : IntKind.u64.wrap (Go.bits .and .u64 16 (IntKind.u64.wrap (-16)) * 285870213051353865) / 288230376151711744 = 15 := by decide
  go_enter Tryd.func80, Tryd.ntmps80
  go_wp2_with (simp only [key])
  go_ret
  exact ⟨rfl, rfl⟩
theorem tz_16 (w : World) (hT : Tab w) : Calls Tryd.prog 77 #[.int .u64 16] w fun e w' => e = .returned (.int .i64 4) ∧ w' = w := by
  have HC := Aside0.mk (tz64_16 w hT)
  clear hT
  go_enter Tryd.func77, Tryd.ntmps77
  go_wp2_with (go_at_call 80; refine HC.out.mono ?_; rintro e w' ⟨rfl, rfl⟩)
  go_ret
  exact ⟨rfl, rfl⟩

set_option maxRecDepth 100000 in
set_option maxHeartbeats 4000000 in
theorem formatBits_ff (w : World) (hT : Tab w) : Calls Tryd.prog 65 #[.slice none 0 0, .int .u64 255, .int .i64 16, .bool false, .bool false] w fun e w' => e = .returned (.tuple #[.slice none 0 0, .string ⟨#[102, 102]⟩]) ∧ Below w.heap.size w w' := by
  have HT := Aside0.mk hT
  clear hT
  go_enter Tryd.func65, Tryd.ntmps65
  go_wp2_with (first
    | (go_at_call 76; refine (pow2_16 _).mono ?_; rintro e w' ⟨rfl, rfl⟩)
    | (go_at_call 77; refine (tz_16 _ (Tab.alloc HT.out _)).mono ?_; rintro e w' ⟨rfl, rfl⟩))
  go_name_world W0 hW0
  have hb0 : Below w.heap.size w W0 := by rw [← hW0]; exact below_alloc (Below.refl _ _) _
  have h64 : W0.cell? ⟨w.heap.size, 64, none⟩ = some (.int .u8 0) := by rw [← hW0, World.cell?_alloc_new]; rfl
  have h63 : W0.cell? ⟨w.heap.size, 63, none⟩ = some (.int .u8 0) := by rw [← hW0, World.cell?_alloc_new]; rfl
  have f64 : W0.frozen? ⟨w.heap.size, 64, none⟩ = false := by rw [← hW0]; exact World.frozen?_alloc_new _ _ _ _
  have f63 : W0.frozen? ⟨w.heap.size, 63, none⟩ = false := by rw [← hW0]; exact World.frozen?_alloc_new _ _ _ _
  clear hW0
  have ha1 : Go.bits .and .u64 255 15 = 15 := by decide
  have HB0 := Aside0.mk hb0
  have H63 := Aside0.mk h63
  have F63 := Aside0.mk f63
  clear hb0 h63 f63
  go_loopw [1, 13] (fun vu vi wr => (vu = .int .u64 255 ∧ vi = .int .i64 65 ∧ wr = W0) ∨ (vu = .int .u64 15 ∧ vi = .int .i64 64 ∧ Aside0 (wr.cell? ⟨w.heap.size, 64, none⟩ = some (.int .u8 102) ∧ wr.cell? ⟨w.heap.size, 63, none⟩ = some (.int .u8 0) ∧ wr.frozen? ⟨w.heap.size, 63, none⟩ = false ∧ Below w.heap.size w wr))) (fun vu _ _ => (RowKit.intOf vu).toNat)
  case atStart => exact .inl ⟨rfl, rfl, rfl⟩
  case round =>
    rcases hrel with ⟨rfl, rfl, rfl⟩ | ⟨rfl, rfl, HR⟩
    · go_wp2
      go_roundw
      case rel => exact .inr ⟨rfl, rfl, ⟨⟨World.cell?_setCell_same _ _ _ h64, (World.cell?_setCell_other _ _ _ _ (by simp)).trans H63.out, (World.frozen?_setCell _ _ _ _).trans F63.out, (below_set HB0.out (Nat.le_refl _))⟩⟩⟩
      case measure => decide
    · obtain ⟨g64, g63, gf, gb⟩ := HR.out
      have HB1 := Aside0.mk gb
      clear HR gb h64 f64 ha1
      obtain ⟨W2, hW2⟩ : ∃ W2, W2 = wr.setCell ⟨w.heap.size, 63, none⟩ (.int .u8 ((((⟨#[48, 49, 50, 51, 52, 53, 54, 55, 56, 57, 97, 98, 99, 100, 101, 102, 103, 104, 105, 106, 107, 108, 109, 110, 111, 112, 113, 114, 115, 116, 117, 118, 119, 120, 121, 122]⟩ : ByteArray)[15]'(by decide)).toNat : Nat) : Int)) := ⟨_, rfl⟩
      have k63 : W2.cell? ⟨w.heap.size, 63, none⟩ = some (.int .u8 102) := by rw [hW2]; exact World.cell?_setCell_same _ _ _ g63
      have k64 : W2.cell? ⟨w.heap.size, 64, none⟩ = some (.int .u8 102) := by rw [hW2, World.cell?_setCell_other _ _ _ _ (by simp)]; exact g64
      have kb : Below w.heap.size w W2 := by rw [hW2]; exact below_set HB1.out (Nat.le_refl _)
      have hcv : (convert 49 9 (.slice (some ⟨w.heap.size, 63, none⟩) 2 2)).run Tryd.prog W2 = .ok (.string ⟨#[102, 102]⟩) W2 := by
        refine run_convert_bytes_back (P := Tryd.prog) W2 49 9 5 ⟨w.heap.size, 63, none⟩ 2 [102, 102] Tryd.underlying49 Tryd.underlying5 Tryd.underlying9 (fun j hj => ?_)
        rw [Lib.add_plain]
        match j, hj with
        | 0, _ => exact k63
        | 1, _ => exact k64
      have KB := Aside0.mk kb
      rw [hW2] at hcv KB
      clear hW2 k63 k64 kb
      go_wp2
      first | go_ret2 | go_ret | trace_state
      exact ⟨rfl, KB.out⟩
theorem FormatUintI_ff (w : World) (hT : Tab w) : Calls Tryd.prog 55 #[.int .u64 255, .int .i64 16] w fun e w' => e = .returned (.string ⟨#[102, 102]⟩) ∧ Below w.heap.size w w' := by
  have HC := Aside0.mk (formatBits_ff w hT)
  clear hT
  go_enter Tryd.func55, Tryd.ntmps55
  go_wp2_with fail
  refine HC.out.mono ?_
  rintro e w' ⟨rfl, hb⟩
  go_wp2
  go_ret
  exact ⟨rfl, hb⟩
theorem FormatUintI_small (n : Nat) (hn : n < 100) (w : World) : Calls Tryd.prog 55 #[.int .u64 n, .int .i64 10] w fun e w' => e = .returned (.string ⟨(Lib.decDigits n).toArray⟩) ∧ Below w.heap.size w w' := by
  have HC := Aside0.mk (Tryd.internal_strconv_small n hn w)
  go_enter Tryd.func55, Tryd.ntmps55
  go_wp2_with fail
  refine HC.out.mono ?_
  rintro e w' ⟨rfl, rfl⟩
  go_wp2
  go_ret
  exact ⟨rfl, Below.refl _ _⟩
/-- What a number is written as to a base: at the numbers of the examples. -/
def fmtUint.f (a0 a1 : Int) : Option ByteArray := if a0 = 255 ∧ a1 = 16 then some ⟨#[102, 102]⟩ else if 0 ≤ a0 ∧ a0 < 100 ∧ a1 = 10 then some ⟨(Lib.decDigits a0.toNat).toArray⟩ else none
theorem fmtUint.calls (a0 a1 : Int) (r : ByteArray) (w : World) (hT : Tab w) (h : fmtUint.f a0 a1 = some r) :
    Calls Tryd.prog 42 #[.int .u64 a0, .int .i64 a1] w fun e w' => e = .returned (.string r) ∧ Below w.heap.size w w' := by
  unfold fmtUint.f at h
  split at h
  · rename_i hc
    obtain ⟨rfl, rfl⟩ := hc
    have hr := Option.some.inj h
    subst hr
    have HC := Aside0.mk (FormatUintI_ff w hT)
    clear hT h
    go_enter Tryd.func42, Tryd.ntmps42
    go_wp2_with fail
    refine HC.out.mono ?_
    rintro e w' ⟨rfl, hb⟩
    go_wp2
    go_ret
    exact ⟨rfl, hb⟩
  · split at h
    · rename_i hc
      obtain ⟨h0, h1, rfl⟩ := hc
      have hr := Option.some.inj h
      subst hr
      obtain ⟨n, rfl⟩ : ∃ n : Nat, a0 = n := ⟨a0.toNat, by omega⟩
      have HC := Aside0.mk (FormatUintI_small n (by omega) w)
      clear hT h
      rw [Int.toNat_natCast]
      go_enter Tryd.func42, Tryd.ntmps42
      go_wp2_with fail
      refine HC.out.mono ?_
      rintro e w' ⟨rfl, hb⟩
      go_wp2
      go_ret
      exact ⟨rfl, hb⟩
    · exact absurd h (by simp)
end Go.Proofs.YtjiiahiglpcpmaaDoor.P
