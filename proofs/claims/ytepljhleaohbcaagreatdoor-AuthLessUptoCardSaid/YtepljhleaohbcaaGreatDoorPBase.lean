/- Plain laws: Lower, Same; bytes and texts (laid as PBase in seats with fields and texts by bytes: 15). -/
import Derived.Test.YtepljhleaohbcaaGreatDoorQtextSame
import Derived.Test.YtepljhleaohbcaaGreatDoorFLow
import Derived.Test.YtepljhleaohbcaaGreatDoorFSame
set_option linter.unusedVariables false
set_option linter.unusedSimpArgs false
namespace Go.Proofs.YtepljhleaohbcaaGreatDoor.P
open Go.RowKit Go.Proofs.YtepljhleaohbcaaGreatDoorW.PrintWords Go.Proofs.YtepljhleaohbcaaGreatDoorW.PrintLast Go.Proofs.YtepljhleaohbcaaGreatDoorW.PrintMore

theorem more_rounds {α : Type} {f : Nat → Option α} (h : ∀ k, LeO (f k) (f (k + 1))) {k k' : Nat} {r : α} (hk : k ≤ k') (hr : f k = some r) : f k' = some r := by
  induction hk with
  | refl => exact hr
  | step _ ih => exact h _ _ ih

theorem lower_ok (a : ByteArray) (h : a.size ≤ 9223372036854775807) : text_Lower.f a = some (lowB a) := by unfold text_Lower.f; rw [if_pos h]
instance : DecidableEq ByteArray := fun a b => decidable_of_iff (a.data = b.data) ⟨fun h => by cases a; cases b; congr 1, fun h => by rw [h]⟩
instance : DecidableEq S48 := fun x y => decidable_of_iff (x.f0 = y.f0 ∧ x.f1 = y.f1) ⟨fun h => by cases x; cases y; simp_all, fun h => by rw [h]; exact ⟨rfl, rfl⟩⟩
theorem lowB_size (a : ByteArray) : (lowB a).size = a.size := by
  show (List.toArray (a.data.toList.map lowU)).size = a.data.size
  rw [List.size_toArray, List.length_map, Array.length_toList]
theorem lowU_idem_fin : ∀ n : Fin 256, lowU (lowU (UInt8.ofNat n.val)) = lowU (UInt8.ofNat n.val) := by decide +kernel
theorem lowU_idem (c : UInt8) : lowU (lowU c) = lowU c := by
  have := lowU_idem_fin ⟨c.toNat, c.toNat_lt⟩
  simpa using this
theorem lowB_idem (a : ByteArray) : lowB (lowB a) = lowB a := by
  unfold lowB
  simp [List.map_map, Function.comp_def, lowU_idem]
theorem sameB_eq (a b : ByteArray) : sameB a b = decide (lowB a = lowB b) := by
  unfold sameB
  rw [Bool.eq_iff_iff, beq_iff_eq, decide_eq_true_eq]
  constructor
  · intro h
    cases ha : lowB a; cases hb : lowB b
    rw [ha, hb] at h
    have h : _ = _ := h
    congr 1
    exact Array.toList_inj.1 h
  · intro h; rw [h]
theorem sameB_iff {a b : ByteArray} : sameB a b = true ↔ lowB a = lowB b := by rw [sameB_eq, decide_eq_true_eq]
theorem sameB_refl (a : ByteArray) : sameB a a = true := sameB_iff.2 rfl
theorem sameB_low (a b : ByteArray) : sameB a (lowB b) = sameB a b := by rw [Bool.eq_iff_iff, sameB_iff, sameB_iff, lowB_idem]
theorem textSame_ok (a b : ByteArray) (ha : a.size ≤ 9223372036854775807) (hb : b.size ≤ 9223372036854775807) : text_Same.f a b = some (sameB a b) := by
  unfold text_Same.f
  rw [lower_ok a ha, lower_ok b hb]
  simp only [Option.bind_some, ByteArray.toList_eq]
  rfl

theorem w64n (i : Nat) (h : i < 9223372036854775807) : wrap64 ((i : Int) + 1) = ((i + 1 : Nat) : Int) := by unfold wrap64; omega
theorem w64s (i : Nat) (h : 0 < i) (h2 : i < 9223372036854775807) : wrap64 ((i : Int) - 1) = ((i - 1 : Nat) : Int) := by unfold wrap64; omega
theorem strNums_bytes (s : ByteArray) : strOfNums (bytesOf s) = s := by
  unfold strOfNums bytesOf
  rw [List.map_map]
  have : (fun n : Int => UInt8.ofNat n.toNat) ∘ (fun b : UInt8 => ((b.toNat : Nat) : Int)) = id := by
    funext b; simp
  rw [this, List.map_id]
theorem bytes_strNums (l : List Int) (h : ∀ x ∈ l, 0 ≤ x ∧ x ≤ 255) : bytesOf (strOfNums l) = l := by
  unfold strOfNums bytesOf
  rw [show (ByteArray.mk (l.map fun n => UInt8.ofNat n.toNat).toArray).data.toList = l.map fun n => UInt8.ofNat n.toNat from by simp, List.map_map]
  conv => rhs; rw [← List.map_id l]
  apply List.map_congr_left
  intro x hx
  have := h x hx
  simp
  omega
theorem bytes_inj {a b : ByteArray} (h : bytesOf a = bytesOf b) : a = b := by rw [← strNums_bytes a, ← strNums_bytes b, h]
theorem bytes_len (s : ByteArray) : (bytesOf s).length = s.size := bytesOf_length s
theorem bt_bytes (s : ByteArray) (i : Nat) (h : i < (bytesOf s).length) : bt s (i : Int) = (bytesOf s)[i] := by
  rw [← rd_bytesOf]; unfold rd; rw [Int.toNat_natCast, List.getD_eq_getElem?_getD, List.getElem?_eq_getElem h]; rfl
theorem bytes_range {s : ByteArray} {x : Int} (h : x ∈ bytesOf s) : 0 ≤ x ∧ x ≤ 255 := by
  unfold bytesOf at h
  obtain ⟨b, _, rfl⟩ := List.mem_map.1 h
  have := b.toNat_lt
  omega
theorem ext_lists {s : ByteArray} (i j : Nat) : bytesOf (s.extract i j) = ((bytesOf s).take j).drop i := by
  unfold bytesOf
  rw [show (s.extract i j).data = s.data.extract i j from by simp [ByteArray.data_extract]]
  simp [List.extract_eq_take_drop, List.map_drop, List.map_take, List.drop_take]

theorem get_at' (s : ByteArray) (pos : Nat) (h : pos < s.size) : s.get! pos = s[pos]'h := by
  simp [ByteArray.get!, getElem!_pos, h]
  rfl
theorem ev_ifL {α : Type} {c : Prop} [Decidable c] {g f : Nat → Option α} {r : α} (h : c → Ev g r) (h' : ¬ c → Ev f r) : Ev (fun k => if c then g k else f k) r := by
  by_cases hc : c
  · exact Ev.congr (fun k => if_pos hc) (h hc)
  · exact Ev.congr (fun k => if_neg hc) (h' hc)
theorem bt_get (s : ByteArray) (i : Nat) (h : i < s.size) : bt s (i : Int) = ((s.get! i).toNat : Int) := by
  unfold bt
  rw [dif_pos (by simpa using h)]
  rw [get_at' s i h]
  simp
end Go.Proofs.YtepljhleaohbcaaGreatDoor.P
