/- Plain law of the document's Token. -/
import Derived.Test.YtepljhleaohbcaaGreatDoorPBase
import Derived.Test.YtepljhleaohbcaaGreatDoorFUri
import Derived.Test.YtepljhleaohbcaaGreatDoorQRef02
set_option linter.unusedVariables false
set_option linter.unusedSimpArgs false
namespace Go.Proofs.YtepljhleaohbcaaGreatDoor.P
open Go.RowKit Go.Proofs.YtepljhleaohbcaaGreatDoorW.PrintWords Go.Proofs.YtepljhleaohbcaaGreatDoorW.PrintLast Go.Proofs.YtepljhleaohbcaaGreatDoorW.PrintMore

def tokenB (s : ByteArray) : Bool := !s.data.toList.isEmpty && (bytesOf s).all tokI
theorem ev_if {α : Type} {c : Prop} [Decidable c] {g f : Nat → Option α} {r : α} (h : c → Ev g r) (h' : ¬ c → Ev f r) : Ev (fun k => if c then g k else f k) r := by
  by_cases hc : c
  · exact Ev.congr (fun k => if_pos hc) (h hc)
  · exact Ev.congr (fun k => if_neg hc) (h' hc)

/-! ### Token, Visible -/
def ldI (c : Int) : Bool := (decide (97 ≤ c) && decide (c ≤ 122)) || (decide (65 ≤ c) && decide (c ≤ 90)) || (decide (48 ≤ c) && decide (c ≤ 57))
def signB : ByteArray := ⟨#[33, 35, 36, 37, 38, 39, 42, 43, 45, 46, 94, 95, 96, 124, 126]⟩
theorem tok_split_fin : ∀ n : Fin 256, tokI ((n.val : Nat) : Int) = (ldI ((n.val : Nat) : Int) || (bytesOf signB).any (· == ((n.val : Nat) : Int))) := by decide +kernel
theorem byteRange {c : Int} (h : 0 ≤ c ∧ c ≤ 255) : ∃ n : Fin 256, c = ((n.val : Nat) : Int) := ⟨⟨c.toNat, by omega⟩, by simp; omega⟩
theorem tok_split (c : Int) (h : 0 ≤ c ∧ c ≤ 255) : tokI c = (ldI c || (bytesOf signB).any (· == c)) := by
  obtain ⟨n, rfl⟩ := byteRange h
  exact tok_split_fin n
theorem refTok_l1 (s : ByteArray) (i : Nat) (c : Int) (r : Bool) (hy : Ev (fun k => tollhouseref02_Token.l0 k s signB (wrap64 ((i : Int) + 1))) r) :
    ∀ (d j : Nat) (b : Bool), (bytesOf signB).length - j = d → j ≤ (bytesOf signB).length → Ev (fun k => tollhouseref02_Token.l1 k s signB (i : Int) c b (j : Int)) (if (b || ((bytesOf signB).drop j).any (· == c)) = true then r else false) := by
  have hsz : signB.size = (bytesOf signB).length := (bytes_len _).symm
  have h15 : (bytesOf signB).length = 15 := by decide
  intro d
  induction d with
  | zero =>
    intro j b hd hj
    rw [List.drop_eq_nil_of_le (by omega)]
    cases b with
    | true => exact Ev.step (f := fun k => tollhouseref02_Token.l0 k s signB (wrap64 ((i : Int) + 1))) (fun k => by rw [tollhouseref02_Token.l1, if_neg (by omega), if_pos rfl]) (by simpa using hy)
    | false => exact Ev.step (f := fun _ => some false) (fun k => by rw [tollhouseref02_Token.l1, if_neg (by omega), if_neg (by decide)]) (by simpa using Ev.now false)
  | succ d ih =>
    intro j b hd hj
    have hlt : j < (bytesOf signB).length := by omega
    have hw := w64n j (by omega)
    cases b with
    | true =>
      refine Ev.step (f := fun k => tollhouseref02_Token.l1 k s signB (i : Int) c true ((j + 1 : Nat) : Int)) (fun k => by rw [tollhouseref02_Token.l1, if_pos (by omega), if_pos rfl, hw]) ?_
      simpa using ih (j + 1) true (by omega) (by omega)
    | false =>
      refine Ev.step (f := fun k => tollhouseref02_Token.l1 k s signB (i : Int) c ((bytesOf signB)[j] == c) ((j + 1 : Nat) : Int)) (fun k => by rw [tollhouseref02_Token.l1, if_pos (by omega), if_neg (by decide), if_pos (by omega), hw, bt_bytes signB j hlt]) ?_
      rw [List.drop_eq_getElem_cons hlt, List.any_cons, Bool.false_or]
      exact ih (j + 1) _ (by omega) (by omega)
theorem refTok_l0 (s : ByteArray) (hs : s.size < 140737488355328) : ∀ (d i : Nat), s.size - i = d → i ≤ s.size → Ev (fun k => tollhouseref02_Token.l0 k s signB (i : Int)) (((bytesOf s).drop i).all tokI && decide (0 < s.size)) := by
  intro d
  induction d with
  | zero =>
    intro i hd hi
    rw [List.drop_eq_nil_of_le (by rw [bytes_len]; omega)]
    refine Ev.step (f := fun _ => some (decide ((s.size : Int) > 0))) (fun k => by rw [tollhouseref02_Token.l0, if_neg (by omega)]) ?_
    rw [List.all_nil, Bool.true_and, show decide (0 < s.size) = decide ((s.size : Int) > 0) by congr 1; rw [eq_iff_iff]; omega]
    exact Ev.now _
  | succ d ih =>
    intro i hd hi
    have hlt : i < (bytesOf s).length := by rw [bytes_len]; omega
    have hb := bt_bytes s i hlt
    have hr := bytes_range (List.getElem_mem hlt)
    have hi2 : i < s.size := by omega
    refine Ev.step (f := fun k => tollhouseref02_Token.j1 k s signB (i : Int) (bytesOf s)[i] (ldI (bytesOf s)[i])) (fun k => ?_) ?_
    · rw [tollhouseref02_Token.l0, if_pos (by omega), if_pos (by omega), hb]
      generalize (bytesOf s)[i] = c at hr
      unfold ldI
      repeat' split
      all_goals (congr 1; first | (simp; omega) | (rw [Bool.eq_iff_iff]; simp; omega))
    · refine Ev.step (f := fun k => tollhouseref02_Token.l1 k s signB (i : Int) (bytesOf s)[i] (ldI (bytesOf s)[i]) ((0 : Nat) : Int)) (fun k => by rw [tollhouseref02_Token.j1]; rfl) ?_
      have := refTok_l1 s i (bytesOf s)[i] (((bytesOf s).drop (i + 1)).all tokI && decide (0 < s.size)) (by rw [w64n i (by omega)]; exact ih (i + 1) (by omega) (by omega)) _ 0 (ldI (bytesOf s)[i]) rfl (Nat.zero_le _)
      rw [List.drop_zero, ← tok_split _ hr] at this
      rw [List.drop_eq_getElem_cons hlt, List.all_cons]
      cases ht : tokI (bytesOf s)[i] with
      | true => rw [ht] at this; simpa using this
      | false => rw [ht] at this; simpa using this
theorem refToken_ok (s : ByteArray) (hs : s.size < 140737488355328) : Ev (fun k => tollhouseref02_Token.f k s) (tokenB s) := by
  have := refTok_l0 s hs s.size 0 (by omega) (Nat.zero_le _)
  rw [List.drop_zero] at this
  have he : tokenB s = ((bytesOf s).all tokI && decide (0 < s.size)) := by
    unfold tokenB
    rw [Bool.and_comm]
    congr 1
    have h2 : s.data.toList.length = s.size := by rw [Array.length_toList]; rfl
    cases hl : s.data.toList with
    | nil => rw [hl] at h2; simp at h2; simp [← h2]
    | cons x r => rw [hl] at h2; simp at h2; simp; omega
  rw [he]
  exact this
end Go.Proofs.YtepljhleaohbcaaGreatDoor.P
