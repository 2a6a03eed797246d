/- strings.IndexAny at the two bytes '/' and '?', whatever bytes the text has. -/
import Derived.Test.YteggopolokblhaaDoorFTab
import Derived.Test.YteggopolokblhaaDoorShelf
import Derived.Test.YteggopolokblhaaDoorFDecode
import Derived.Laws.Runes
import Derived.Deep.QuietTactic
import Derived.BigQuiet
import Derived.WalkMore
import Derived.Lib.OthersKept
set_option linter.unusedVariables false
set_option linter.unusedSimpArgs false
namespace Go.Proofs.YteggopolokblhaaDoor.P
open Go.RowKit Go.Proofs.YteggopolokblhaaDoorW.PrintWords Go.Proofs.YteggopolokblhaaDoorW.PrintLast Go.Proofs.YteggopolokblhaaDoorW.PrintMore

def cutsS : ByteArray := ⟨#[47, 63]⟩
theorem valid_same (r : Int) (h : Lib.validRune r = true) : Utf8.valid r = true := by
  unfold Lib.validRune at h
  have h := of_decide_eq_true h
  unfold Utf8.valid
  simp only [Bool.or_eq_true, Bool.and_eq_true, decide_eq_true_eq]
  omega
theorem iter_below (W : World) (s : ByteArray) (i : Nat) : Below W.heap.size W (W.iter s i) := (Below.refl _ W).alloc (Nat.le_refl _) _
theorem cuts_next (W : World) (i : Nat) (h : i < 2) : ∃ x : Nat, x < 128 ∧ ∀ ty, (Instr.next (.pointer (some ⟨W.heap.size, 0, none⟩)) true ty).run Tryd.prog (W.iter cutsS i) = .ok (.tuple #[.bool true, .int .i64 i, .int .i32 x]) (W.iter cutsS (i + 1)) := by
  have hi : i < cutsS.size := h
  have ha : (cutsS[i]'hi).toNat < 128 := by
    rcases i with _ | _ | i
    · exact (by decide : (47 : UInt8).toNat < 128)
    · exact (by decide : (63 : UInt8).toNat < 128)
    · omega
  exact ⟨_, ha, fun ty => run_next_ascii W cutsS i ty hi ha⟩
set_option maxHeartbeats 4000000 in
set_option maxRecDepth 1000000 in
theorem rune_err (W : World) : Calls Tryd.prog 35 #[.string cutsS, .int .i32 65533] W fun e w' => e = .returned (.int .i64 (-1)) ∧ Below W.heap.size W w' := by
  go_enter Tryd.func35, Tryd.ntmps35
  go_wp2
  go_loopg [5, 6] 2 (fun g _ _ wx => ∃ i : Nat, i + g = 2 ∧ wx = W.iter cutsS i)
  case atStart => exact ⟨0, rfl, rfl⟩
  case round =>
    obtain ⟨i, hig, rfl⟩ := hrel
    cases gk with
    | zero =>
      obtain rfl : i = 2 := by omega
      have hnx := fun ty => run_next_end (P := Tryd.prog) W cutsS 2 ty (show ¬ 2 < cutsS.size by decide)
      go_wp2
      go_ret
      exact ⟨rfl, iter_below _ _ _⟩
    | succ g =>
      obtain ⟨x, hx, hnx⟩ := cuts_next W i (by omega)
      have hne : ((x : Int) == 65533) = false := beq_eq_false_iff_ne.2 (by omega)
      have HI := Aside0.mk hig
      clear hig hx
      go_wp2
      go_roundg g
      case measure => omega
      case rel => exact ⟨i + 1, by have := HI.out; omega, rfl⟩
theorem index_rest (s : ByteArray) (c : Int) (w : World) (h : s.data.toList = []) : Calls Tryd.prog 32 #[.string s, .int .u8 c] w fun e w' => e = .returned (.int .i64 (-1)) ∧ w' = w := by
  have := Tryd.strings_IndexByte s c w
  rw [h] at this
  exact this
set_option maxHeartbeats 4000000 in
set_option maxRecDepth 1000000 in
theorem rune_none (r : Int) (h1 : 128 ≤ r) (W : World) : Calls Tryd.prog 35 #[.string cutsS, .int .i32 r] W fun e w' => e = .returned (.int .i64 (-1)) ∧ Below W.heap.size W w' := by
  by_cases h3 : r = 65533
  · subst h3; exact rune_err W
  · have e1 : (r == 65533) = false := beq_eq_false_iff_ne.2 h3
    have e2 : decide ((0 : Int) ≤ r) = true := decide_eq_true (by omega)
    have e3 : decide (r < (128 : Int)) = false := decide_eq_false (by omega)
    have HV := Aside0.mk (Tryd.utf8_ValidRune r W)
    cases hv : Lib.validRune r with
    | false =>
      rw [hv] at HV
      clear h3 hv
      go_enter Tryd.func35, Tryd.ntmps35
      go_wp2_with (go_at_call 54; refine HV.out.mono ?_; rintro e w1 ⟨rfl, rfl⟩)
      go_ret
      exact ⟨rfl, Below.refl _ _⟩
    | true =>
      rw [hv] at HV
      obtain ⟨s1, s2, s3⟩ := encode_facts r (valid_same r hv) h1
      clear h3 hv
      go_enter Tryd.func35, Tryd.ntmps35
      go_wp2_with (go_at_call 54; refine HV.out.mono ?_; rintro e w1 ⟨rfl, rfl⟩)
      apply wp_scope_straight
      go_wp2
      generalize Utf8.encode r = en at s1 s2 s3 ⊢
      have hw : (en.size : Int) - 1 = ((en.size - 1 : Nat) : Int) := by omega
      rw [hw]
      by_cases h2 : en.size = 2
      · have hi : (1 : Nat) < en.size := by omega
        have h9 : 128 ≤ (en[1]'hi).toNat := by
          have := s3 (by omega)
          simpa [h2] using this
        have hne : ((((⟨#[47, 63]⟩ : ByteArray)[1]'(by decide)).toNat : Int) != ((en[1]'hi).toNat : Int)) = true := by
          have : ((⟨#[47, 63]⟩ : ByteArray)[1]'(by decide)).toNat = 63 := rfl
          rw [this, bne_iff_ne]; omega
        have hg : (1 : Int) < (en.size : Int) := by omega
        have hwr : IntKind.i64.wrap 2 = 2 := rfl
        have hgb : decide ((1 : Int) < (en.size : Int)) = true := decide_eq_true hg
        rw [h2, show ((2 - 1 : Nat) : Int) = (1 : Int) from rfl]
        unfold cutsS
        go_loopg [9] 1 (fun g v wx => v = .int .i64 1 ∧ wx = w1 ∧ g = 1)
        case atStart => exact ⟨rfl, rfl, rfl⟩
        case round =>
          obtain ⟨rfl, rfl, rfl⟩ := hrel
          go_wp2
          apply wp_scope_straight
          repeat (apply wp_seq_k; intro _ _)
          go_quiet (fail)
          all_goals go_wp2
          go_region_law (first | (go_simp; go_at_call 32; refine (index_rest _ _ _ rfl).mono ?_; rintro e w2 ⟨rfl, rfl⟩))
          all_goals go_wp2
          simp only [Exit.noGoto, Exit.inBlock, Exit.then]
          go_ret
          exact ⟨rfl, pw_below_drewN (Below.refl _ _) _⟩
      · have hlt : ¬ ((en.size - 1 : Nat) : Int) < (cutsS.size : Int) := by show ¬ ((en.size - 1 : Nat) : Int) < ((2 : Nat) : Int); omega
        have hltb : decide (((en.size - 1 : Nat) : Int) < (cutsS.size : Int)) = false := decide_eq_false hlt
        go_loopg [9] 1 (fun g v wx => v = .int .i64 ((en.size - 1 : Nat) : Int) ∧ wx = w1 ∧ g = 1)
        case atStart => exact ⟨rfl, rfl, rfl⟩
        case round =>
          obtain ⟨rfl, rfl, rfl⟩ := hrel
          go_wp2
          go_ret
          exact ⟨rfl, Below.refl _ _⟩
/-- Where the first '/' or '?' is; -1: nowhere. -/
theorem indexAny_high (s : ByteArray) (i : Nat) (hi : i < s.size) (ha : 128 ≤ (s[i]'hi).toNat) (h : Lib.NoAny s.data.toList cutsS.data.toList i) : Lib.NoAny s.data.toList cutsS.data.toList (i + (Utf8.decode s i).2) := by
  obtain ⟨w1, w2⟩ := dec_width s i hi
  intro j b hj hb
  by_cases hji : j < i
  · exact h j b hji hb
  · have hjl : j < s.size := by omega
    have hbv : 128 ≤ b.toNat := by
      have e : s.data.toList[j]? = some (s[j]'hjl) := Lib.data_getElem? s j hjl
      rw [e] at hb
      obtain rfl := Option.some.inj hb
      rcases Nat.eq_or_lt_of_le (Nat.le_of_not_lt hji) with rfl | hlt
      · exact ha
      · have := (dec_tail s i (j - i) (by omega) (by omega)).2
        rw [show i + (j - i) = j by omega, get_atD s j hjl] at this
        exact this
    have : cutsS.data.toList = [47, 63] := rfl
    rw [this]
    have n1 : ¬ b = 47 := fun e => by rw [e] at hbv; exact absurd hbv (by decide)
    have n2 : ¬ b = 63 := fun e => by rw [e] at hbv; exact absurd hbv (by decide)
    simp [n1, n2]
/-- What holds at the loop's head. -/
def IxRel (w : World) (s : ByteArray) (wr : World) : Prop := ∃ pos : Nat, Below w.heap.size w wr ∧ wr.heap[w.heap.size]? = some (.stringIter s pos) ∧ pos ≤ s.size ∧ Lib.NoAny s.data.toList cutsS.data.toList pos
set_option maxHeartbeats 8000000 in
set_option maxRecDepth 1000000 in
theorem indexAny_short (s : ByteArray) (w : World) (h8 : s.size ≤ 8) :
    Calls Tryd.prog 19 #[.string s, .string cutsS] w fun e w' => e = .returned (.int .i64 (Lib.indexAny s.data.toList cutsS.data.toList)) ∧ Below w.heap.size w w' := by
  have hemp : cutsS.toList.isEmpty = false := by decide +kernel
  have hn1 : ((cutsS.size : Int) == 1) = false := rfl
  have h8z : decide ((8 : Int) < (s.size : Int)) = false := decide_eq_false (by omega)
  have HS := Aside0.mk (fun W : World => Tryd.strings_shouldUseASCIISet s.size W)
  go_enter Tryd.func19, Tryd.ntmps19
  go_wp2_with (go_at_call 36; refine (HS.out _).mono ?_; rintro e w' ⟨rfl, hw⟩; rw [hw, h8z])
  clear hn1 hemp h8z HS hw
  go_loopw [9, 10] (fun _ _ wr => Aside0 (IxRel w s wr)) (fun _ _ wr => s.size - wr.iterPos w.heap.size)
  case atStart => exact ⟨⟨0, iter_below _ _ _, World.iter_heap w s 0, Nat.zero_le _, Lib.NoAny.zero _ _⟩⟩
  case round =>
    obtain ⟨pos, hb, hit, hle, hno⟩ := hrel.out
    clear hrel
    by_cases hp : pos < s.size
    · obtain ⟨rn, wd, hd⟩ : ∃ rn wd, Utf8.decode s pos = (rn, wd) := ⟨_, _, rfl⟩
      have hw := dec_width s pos hp
      have hnx0 : ∀ ty, (Instr.next (.pointer (some ⟨w.heap.size, 0, none⟩)) true ty).run Tryd.prog wr = .ok (.tuple #[.bool true, .int .i64 pos, .int .i32 rn]) (wr.iterAt w.heap.size s (pos + wd)) := fun ty => by
        have := Lib.run_next_any_at (P := Tryd.prog) wr w.heap.size s pos ty hit hp
        rw [hd] at this
        exact this
      rw [hd] at hw
      have HW := Aside0.mk (show 1 ≤ wd ∧ pos + wd ≤ s.size from hw)
      have HI := Aside0.mk (Lib.iterAt_heap wr w.heap.size s pos (pos + wd) hit)
      have HI0 := Aside0.mk hit
      have HB := Aside0.mk (Lib.below_iterAt hb (Nat.le_refl _) s (pos + wd))
      have MEA := Aside0.mk (show ∀ W : World, W.heap[w.heap.size]? = some (.stringIter s (pos + wd)) → s.size - W.iterPos w.heap.size < s.size - wr.iterPos w.heap.size from fun W hW => by
        simp only [World.iterPos, hW, HI0.out]
        have := HW.out; omega)
      have HLT := Aside0.mk (show w.heap.size < (wr.iterAt w.heap.size s (pos + wd)).heap.size from (Array.getElem?_eq_some_iff.1 HI.out).1)
      clear hw hit hb
      by_cases ha : (s[pos]'hp).toNat < 128
      · have hda := decode_ascii s pos hp ha
        rw [hd] at hda
        obtain ⟨x, hx⟩ : ∃ x : UInt8, s[pos]'hp = x := ⟨_, rfl⟩
        have hxl : s.data.toList[pos]? = some x := by rw [← hx]; exact Lib.data_getElem? s pos hp
        rw [hx] at hda ha
        obtain ⟨rfl, rfl⟩ : rn = x.toNat ∧ wd = 1 := by simpa using hda
        have HX := Aside0.mk hxl
        have HN := Aside0.mk hno
        have hcon := Lib.contains_iff_indexByte cutsS.data.toList x
        have hback : ((x.toNat : Int)).toNat.toUInt8 = x := by simp
        have HR := Aside0.mk (fun W : World => Tryd.strings_IndexRune_ascii cutsS (x.toNat : Int) W (by omega) (by omega))
        rw [hback] at HR
        clear hx hxl hno hda hd hle
        cases hin : cutsS.data.toList.contains x
        · rw [hin] at hcon
          have hlt : ¬ ((0 : Int) ≤ Lib.indexByte cutsS.data.toList x) := of_decide_eq_false hcon.symm
          clear hcon
          have HIN := Aside0.mk hin
          clear hin
          generalize Lib.indexByte cutsS.data.toList x = ix at hlt HR
          go_wp2_with (go_at_call 35; refine (HR.out _).mono ?_; rintro e w' ⟨rfl, rfl⟩)
          go_roundw
          case rel => exact ⟨⟨pos + 1, HB.out, HI.out, HW.out.2, HN.out.succ HX.out HIN.out⟩⟩
          case measure => exact MEA.out _ HI.out
        · rw [hin] at hcon
          have hge : (0 : Int) ≤ Lib.indexByte cutsS.data.toList x := of_decide_eq_true hcon.symm
          clear hcon
          have HIN := Aside0.mk hin
          clear hin
          generalize Lib.indexByte cutsS.data.toList x = ix at hge HR
          go_wp2_with (go_at_call 35; refine (HR.out _).mono ?_; rintro e w' ⟨rfl, rfl⟩)
          go_ret
          exact ⟨by rw [Lib.indexAny_hit HN.out HX.out HIN.out]; rfl, HB.out⟩
      · have hh := (decode_high s pos hp (by omega)).1
        rw [hd] at hh
        have hno2 := indexAny_high s pos hp (by omega) hno
        rw [hd] at hno2
        have HN := Aside0.mk hno2
        have HR := Aside0.mk (fun W : World => rune_none (rn : Int) (by have : 128 ≤ rn := hh; omega) W)
        clear hno hno2 hh ha hd hle
        go_wp2_with (go_at_call 35; refine (HR.out _).mono ?_; rintro e w' ⟨rfl, hb⟩; have HB2 := Aside0.mk hb; clear hb)
        go_roundw
        case rel => exact ⟨⟨pos + wd, below_step HB.out HB2.out, (HB2.out.block _ HLT.out).trans HI.out, HW.out.2, HN.out⟩⟩
        case measure => exact MEA.out _ ((HB2.out.block _ HLT.out).trans HI.out)
    · have hnx0 : ∀ ty, (Instr.next (.pointer (some ⟨w.heap.size, 0, none⟩)) true ty).run Tryd.prog wr = _ := fun ty => Lib.run_next_end_at wr w.heap.size s pos ty hit hp
      obtain rfl : pos = s.size := by omega
      have HN := Aside0.mk hno
      have HB := Aside0.mk hb
      clear hno hb hit hp hle
      go_wp2
      go_ret
      exact ⟨by rw [Lib.indexAny_none (by rw [← Lib.size_eq]; exact HN.out)]; rfl, HB.out⟩
def strings_IndexAny.f (a0 a1 : ByteArray) : Option Int := if a0.size ≤ 1073741824 ∧ a1 = cutsS then some (Lib.indexAny a0.data.toList cutsS.data.toList) else none
theorem strings_IndexAny.calls (a0 a1 : ByteArray) (r : Int) (w : World) (hT : Tab w) (h : strings_IndexAny.f a0 a1 = some r) :
    Calls Tryd.prog 19 #[.string a0, .string a1] w fun e w' => e = .returned (.int .i64 r) ∧ Below w.heap.size w w' := by
  unfold strings_IndexAny.f at h
  split at h
  · rename_i hc
    obtain ⟨hs, rfl⟩ := hc
    rw [← Option.some.inj h]
    by_cases h8 : a0.size ≤ 8
    · exact indexAny_short a0 w h8
    · refine (Tryd.strings_IndexAny_long (zero_of_info (P := Tryd.prog) (t := 58) (v := .agg (Array.replicate 256 (.bool false))) (n := 256) (by kernel_rfl)).1 a0 cutsS w (by decide) (by omega) (by omega) (by decide) (by
        intro j b hj
        have : cutsS.data.toList = [47, 63] := rfl
        rw [this] at hj
        rcases j with _ | _ | j
        · obtain rfl : (47 : UInt8) = b := by simpa using hj
          decide
        · obtain rfl : (63 : UInt8) = b := by simpa using hj
          decide
        · simp at hj)).mono ?_
      rintro e w' ⟨rfl, rfl⟩
      exact ⟨rfl, below_alloc (below_alloc (Below.refl _ _) _) _⟩
  · exact absurd h (by simp)
end Go.Proofs.YteggopolokblhaaDoor.P
