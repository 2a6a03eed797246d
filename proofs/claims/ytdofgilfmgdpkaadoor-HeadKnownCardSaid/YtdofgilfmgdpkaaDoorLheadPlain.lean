/- What head.plain tells, in one line. -/
import Derived.Test.YtdofgilfmgdpkaaDoorQheadplain
set_option linter.unusedVariables false
set_option linter.unusedSimpArgs false
namespace Go.Proofs.YtdofgilfmgdpkaaDoor.P
open Go.RowKit Go.Proofs.YtdofgilfmgdpkaaDoorW.PrintWords Go.Proofs.YtdofgilfmgdpkaaDoorW.PrintLast Go.Proofs.YtdofgilfmgdpkaaDoorW.PrintMore

def lineB (x : S45) : ByteArray := ((x.f0 ++ ⟨#[58, 32]⟩) ++ x.f1) ++ ⟨#[13, 10]⟩
def plainB (l : List S45) : List Int := l.flatMap (fun x => bytesOf (lineB x)) ++ [13, 10]
theorem lineB_size (x : S45) : (lineB x).size = x.f0.size + 2 + x.f1.size + 2 := by
  unfold lineB; simp only [ByteArray.size_append]; rfl
theorem wrap_in {i : Int} (h : -9223372036854775808 ≤ i) (h2 : i ≤ 9223372036854775807) : wrap64 i = i := by unfold wrap64; omega
theorem plain_from (l : List S45) (d : Nat) : ∀ (k i : Nat) (acc : List Int), l.length - i = d → i ≤ l.length → d < k → l.length ≤ 140737488355328 →
    acc.length + ((l.drop i).flatMap (fun x => bytesOf (lineB x))).length + 2 < 140737488355328 →
    head_plain.l0 k acc l (l.length : Int) (i : Int) = some (acc ++ (l.drop i).flatMap (fun x => bytesOf (lineB x)) ++ [13, 10]) := by
  induction d with
  | zero =>
    intro k i acc hd hi hk hm ht
    obtain ⟨k, rfl⟩ : ∃ m, k = m + 1 := ⟨k - 1, by omega⟩
    obtain rfl : i = l.length := by omega
    rw [head_plain.l0, if_neg (by omega), if_pos (by omega), List.drop_length, List.flatMap_nil, List.append_nil]
    rfl
  | succ d ih =>
    intro k i acc hd hi hk hm ht
    obtain ⟨k, rfl⟩ : ∃ m, k = m + 1 := ⟨k - 1, by omega⟩
    have hlt : i < l.length := by omega
    have hx : rd_T45 l (i : Int) = l[i] := by
      unfold rd_T45; rw [Int.toNat_natCast, List.getD_eq_getElem?_getD, List.getElem?_eq_getElem hlt]; rfl
    rw [List.drop_eq_getElem_cons hlt, List.flatMap_cons, List.length_append, bytesOf_length, lineB_size] at ht
    rw [head_plain.l0, if_pos (by omega), if_pos (by omega), if_pos (by omega), hx]
    rw [if_pos (by omega), if_pos (by simp only [ByteArray.size_append]; show _ + 2 + _ ≤ _; omega), if_pos (by simp only [ByteArray.size_append]; show _ + 2 + _ + 2 ≤ _; omega)]
    rw [if_pos (by have := lineB_size l[i]; unfold lineB at this; rw [this]; omega), wrap_in (by omega) (by omega)]
    have := ih k (i + 1) (acc ++ bytesOf (lineB l[i])) (by omega) (by omega) (by omega) hm (by rw [List.length_append, bytesOf_length, lineB_size]; omega)
    rw [show ((i + 1 : Nat) : Int) = (i : Int) + 1 by omega] at this
    rw [show bytesOf (((l[i].f0 ++ ⟨#[58, 32]⟩) ++ l[i].f1) ++ ⟨#[13, 10]⟩) = bytesOf (lineB l[i]) from rfl, this, List.drop_eq_getElem_cons hlt, List.flatMap_cons]
    simp only [List.append_assoc]
theorem plain_tells (l : List S45) (k : Nat) (hk : l.length < k) (h : (plainB l).length < 140737488355328) : head_plain.f k l = some (plainB l) := by
  unfold plainB at h ⊢
  rw [List.length_append] at h
  have hl : l.length ≤ (l.flatMap (fun x => bytesOf (lineB x))).length := by
    clear h hk
    induction l with
    | nil => simp
    | cons x r ih => rw [List.flatMap_cons, List.length_append, bytesOf_length, lineB_size, List.length_cons]; omega
  have := plain_from l l.length k 0 [] (by omega) (by omega) hk (by omega) (by simpa using h)
  unfold head_plain.f
  simpa using this
end Go.Proofs.YtdofgilfmgdpkaaDoor.P
