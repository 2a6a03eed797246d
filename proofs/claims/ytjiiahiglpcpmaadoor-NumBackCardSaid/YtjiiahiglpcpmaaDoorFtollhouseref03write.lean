/- The document's own writing of a number: the numeral. -/
import Derived.Test.YtjiiahiglpcpmaaDoorQ0
import Derived.Test.YtjiiahiglpcpmaaDoorPDig
set_option linter.unusedVariables false
set_option linter.unusedSimpArgs false
namespace Go.Proofs.YtjiiahiglpcpmaaDoor.P
open Go.RowKit Go.Proofs.YtjiiahiglpcpmaaDoorW.PrintWords Go.Proofs.YtjiiahiglpcpmaaDoorW.PrintLast Go.Proofs.YtjiiahiglpcpmaaDoorW.PrintMore

theorem wr_index_fin : ∀ d : Fin 16, ((⟨#[48, 49, 50, 51, 52, 53, 54, 55, 56, 57, 97, 98, 99, 100, 101, 102]⟩ : ByteArray).data.toList.getD d.val 0) = hexC d.val := by decide +kernel
theorem wr_index (d : Nat) (hd : d < 16) (W : World) : (Instr.index 9 (.string ⟨#[48, 49, 50, 51, 52, 53, 54, 55, 56, 57, 97, 98, 99, 100, 101, 102]⟩) (.int .u64 (d : Int))).run Tryd.prog W = .ok (.int .u8 ((hexC d).toNat : Int)) W := by
  rw [run_index_string W 9 _ .u64 (d : Int) Tryd.underlying9, dif_pos ⟨by omega, by show (d : Int) < ((16 : Nat) : Int); omega⟩]
  have h := wr_index_fin ⟨d, hd⟩
  have e : ((d : Int)).toNat = d := by omega
  simp only [e]
  rw [← h]
  have : ((⟨#[48, 49, 50, 51, 52, 53, 54, 55, 56, 57, 97, 98, 99, 100, 101, 102]⟩ : ByteArray).data.toList.getD d 0) = (⟨#[48, 49, 50, 51, 52, 53, 54, 55, 56, 57, 97, 98, 99, 100, 101, 102]⟩ : ByteArray)[d]'(show d < 16 from hd) := by
    rw [List.getD_eq_getElem?_getD, List.getElem?_eq_getElem (show d < 16 from hd)]
    rfl
  rw [this]
theorem wr_enc_fin : ∀ d : Fin 16, Utf8.encode ((hexC d.val).toNat : Int) = ⟨#[hexC d.val]⟩ := by decide +kernel
theorem wr_conv (d : Nat) (hd : d < 16) (W : World) : (convert 5 9 (.int .u8 ((hexC d).toNat : Int))).run Tryd.prog W = .ok (.string ⟨#[hexC d]⟩) W := by
  rw [run_convert_int_string W 5 9 .u8 _ (by rw [Tryd.underlying5]; rfl) Tryd.underlying9, wr_enc_fin ⟨d, hd⟩]
theorem wr_app (c : UInt8) (acc : List UInt8) : (⟨#[c]⟩ : ByteArray) ++ (⟨acc.toArray⟩ : ByteArray) = ⟨(c :: acc).toArray⟩ := by
  apply ByteArray.ext
  rw [ByteArray.data_append]
  simp
/-- What holds at the loop's head. -/
def WrRel (w : World) (B n0 n f : Nat) (acc : List UInt8) (wr : World) : Prop := n ≤ n0 ∧ n < B ^ (f + 1) ∧ digGo B 65 n0 [] = digGo B (f + 1) n acc ∧ Below w.heap.size w wr ∧ acc.length + f = 64
theorem WrRel.end {w wr : World} {B n0 n f : Nat} {acc : List UInt8} (h : WrRel w B n0 n f acc wr) (hq : n / B = 0) : digGo B 65 n0 [] = hexC (n % B) :: acc := by
  rw [h.2.2.1]
  show (if n / B = 0 then _ else _) = _
  rw [if_pos hq]
theorem WrRel.on {w wr : World} {B n0 n f : Nat} {acc : List UInt8} (hB : 2 ≤ B) (h : WrRel w B n0 n f acc wr) (hq : n / B ≠ 0) : ∃ g, WrRel w B n0 (n / B) g (hexC (n % B) :: acc) wr := by
  obtain ⟨h1, h2, h3, h4, h5⟩ := h
  have e1 : n / B < B ^ f := Nat.div_lt_of_lt_mul (by rw [Nat.mul_comm, ← Nat.pow_succ]; exact h2)
  cases f with
  | zero => exact absurd (Nat.lt_one_iff.1 e1) hq
  | succ g =>
    refine ⟨g, Nat.le_trans (Nat.div_le_self _ _) h1, e1, ?_, h4, by rw [List.length_cons]; omega⟩
    rw [h3]
    show (if n / B = 0 then _ else _) = _
    rw [if_neg hq]
set_option maxRecDepth 100000 in
set_option maxHeartbeats 2000000 in
theorem refWrite_calls (B : Nat) (hB : B = 10 ∨ B = 16) (n0 : Nat) (hn : n0 ≤ 9007199254740991) (w : World) :
    Calls Tryd.prog 26 #[.int .u64 n0, .int .u64 B] w fun e w' => e = .returned (.tuple #[.string ⟨(digGo B 65 n0 []).toArray⟩, .int .i64 0]) ∧ Below w.heap.size w w' := by
  have hle : ¬ (9007199254740991 : Int) < (n0 : Int) := by omega
  have hst : n0 < B ^ 65 := by rcases hB with rfl | rfl <;> exact Nat.lt_of_le_of_lt hn (by decide)
  have HST := Aside0.mk hst
  clear hst
  go_enter Tryd.func26, Tryd.ntmps26
  go_wp2
  go_loopw [0, 6] (fun vn vs wr => ∃ (n f : Nat) (acc : List UInt8), n ≤ 9007199254740991 ∧ vn = .int .u64 n ∧ vs = .string ⟨acc.toArray⟩ ∧ Aside0 (WrRel w B n0 n f acc wr)) (fun vn _ _ => (RowKit.intOf vn).toNat)
  case atStart => exact ⟨n0, 64, [], hn, rfl, rfl, ⟨⟨Nat.le_refl _, HST.out, rfl, Below.refl _ _, rfl⟩⟩⟩
  case round =>
    obtain ⟨n, f, acc, hnl, rfl, rfl, HR⟩ := hrel
    clear HST hle hn
    rcases hB with rfl | rfl
    · have hd16 : n % 10 < 16 := by omega
      have hix := wr_index (n % 10) hd16
      have hcv := wr_conv (n % 10) hd16
      have hap := wr_app (hexC (n % 10)) acc
      obtain ⟨q, hq⟩ : ∃ q, q = n / 10 := ⟨_, rfl⟩
      obtain ⟨d, hd⟩ : ∃ d, d = n % 10 := ⟨_, rfl⟩
      have hq1 : (n : Int) / 10 = (q : Int) := by omega
      have hd1 : (n : Int) % 10 = (d : Int) := by omega
      have hsz : ¬ 9223372036854775807 < 1 + acc.length := by have := HR.out.2.2.2.2; omega
      have hwq : IntKind.u64.wrap (q : Int) = (q : Int) := by rw [IntKind.wrap_u64]; omega
      rw [← hd] at  hix hcv hap
      by_cases h0 : q = 0
      · have HE := Aside0.mk (HR.out.end (by rw [← hq]; exact h0))
        have HB := Aside0.mk HR.out.2.2.2.1
        rw [← hd] at HE
        subst h0
        clear HR hd16 hq hd hnl
        go_wp2
        first | go_ret2 | go_ret | trace_state
        rw [HE.out]
        exact ⟨rfl, HB.out⟩
      · obtain ⟨g, hg⟩ := HR.out.on (by decide) (by rw [← hq]; exact h0)
        rw [← hd, ← hq] at hg
        have HG := Aside0.mk hg
        have hlt : q < n := by omega
        have HQ := Aside0.mk hlt
        have HN := Aside0.mk (show q ≤ 9007199254740991 by omega)
        have hq0 : (q : Int) ≠ 0 := by omega
        clear HR hd16 hq hd hnl hg hlt h0
        go_wp2
        first
          | exact ⟨⟨q, g, hexC d :: acc, HN.out, rfl, rfl, HG⟩, by show ((q : Int)).toNat < ((n : Int)).toNat; have := HQ.out; omega⟩
          | trace_state
    · have hd16 : n % 16 < 16 := by omega
      have hix := wr_index (n % 16) hd16
      have hcv := wr_conv (n % 16) hd16
      have hap := wr_app (hexC (n % 16)) acc
      obtain ⟨q, hq⟩ : ∃ q, q = n / 16 := ⟨_, rfl⟩
      obtain ⟨d, hd⟩ : ∃ d, d = n % 16 := ⟨_, rfl⟩
      have hq1 : (n : Int) / 16 = (q : Int) := by omega
      have hd1 : (n : Int) % 16 = (d : Int) := by omega
      have hsz : ¬ 9223372036854775807 < 1 + acc.length := by have := HR.out.2.2.2.2; omega
      have hwq : IntKind.u64.wrap (q : Int) = (q : Int) := by rw [IntKind.wrap_u64]; omega
      rw [← hd] at  hix hcv hap
      by_cases h0 : q = 0
      · have HE := Aside0.mk (HR.out.end (by rw [← hq]; exact h0))
        have HB := Aside0.mk HR.out.2.2.2.1
        rw [← hd] at HE
        subst h0
        clear HR hd16 hq hd hnl
        go_wp2
        first | go_ret2 | go_ret | trace_state
        rw [HE.out]
        exact ⟨rfl, HB.out⟩
      · obtain ⟨g, hg⟩ := HR.out.on (by decide) (by rw [← hq]; exact h0)
        rw [← hd, ← hq] at hg
        have HG := Aside0.mk hg
        have hlt : q < n := by omega
        have HQ := Aside0.mk hlt
        have HN := Aside0.mk (show q ≤ 9007199254740991 by omega)
        have hq0 : (q : Int) ≠ 0 := by omega
        clear HR hd16 hq hd hnl hg hlt h0
        go_wp2
        first
          | exact ⟨⟨q, g, hexC d :: acc, HN.out, rfl, rfl, HG⟩, by show ((q : Int)).toNat < ((n : Int)).toNat; have := HQ.out; omega⟩
          | trace_state
theorem refWrite_long (B n0 : Nat) (hn : 9007199254740991 < n0) (w : World) :
    Calls Tryd.prog 26 #[.int .u64 n0, .int .u64 B] w fun e w' => e = .returned (.tuple #[.string ⟨#[]⟩, .int .i64 1]) ∧ Below w.heap.size w w' := by
  have hle : (9007199254740991 : Int) < (n0 : Int) := by omega
  clear hn
  go_enter Tryd.func26, Tryd.ntmps26
  go_wp2
  go_ret2
  exact ⟨rfl, Below.refl _ _⟩
/-- What the document writes. -/
def tollhouseref03_write.f (a0 a1 : Int) : Option (ByteArray × Int) := if 0 ≤ a0 ∧ (a1 = 10 ∨ a1 = 16) then (if 9007199254740991 < a0 then some (⟨#[]⟩, 1) else some (⟨(digGo a1.toNat 65 a0.toNat []).toArray⟩, 0)) else none
theorem tollhouseref03_write.calls (a0 a1 : Int) (r1 : ByteArray) (r2 : Int) (w : World) (h : tollhouseref03_write.f a0 a1 = some (r1, r2)) :
    Calls Tryd.prog 26 #[.int .u64 a0, .int .u64 a1] w fun e w' => e = .returned (.tuple #[.string r1, .int .i64 r2]) ∧ Below w.heap.size w w' := by
  unfold tollhouseref03_write.f at h
  split at h
  · rename_i hc
    obtain ⟨h0, hb⟩ := hc
    obtain ⟨n, rfl⟩ : ∃ n : Nat, a0 = n := ⟨a0.toNat, by omega⟩
    obtain ⟨B, rfl⟩ : ∃ B : Nat, a1 = B := ⟨a1.toNat, by omega⟩
    rw [Int.toNat_natCast, Int.toNat_natCast] at h
    split at h
    · rename_i hl
      obtain ⟨rfl, rfl⟩ := Prod.mk.inj (Option.some.inj h)
      exact refWrite_long B n (by omega) w
    · rename_i hl
      obtain ⟨rfl, rfl⟩ := Prod.mk.inj (Option.some.inj h)
      exact refWrite_calls B (by omega) n (by omega) w
  · exact absurd h (by simp)
end Go.Proofs.YtjiiahiglpcpmaaDoor.P
