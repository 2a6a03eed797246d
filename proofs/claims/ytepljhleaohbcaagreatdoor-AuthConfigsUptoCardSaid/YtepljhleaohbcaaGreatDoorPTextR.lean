/- Contracts of small functions and plain laws, laid together. Conditions: none but those that each theorem names. -/
import Derived.Test.YtepljhleaohbcaaGreatDoorPBase
import Derived.Test.YtepljhleaohbcaaGreatDoorQRef02
import Derived.Test.YtepljhleaohbcaaGreatDoorPText
import Derived.Test.YtepljhleaohbcaaGreatDoorQRef15
import Derived.Test.YtepljhleaohbcaaGreatDoorQRef05
set_option linter.unusedVariables false
set_option linter.unusedSimpArgs false

section
/- Plain laws of the document's Lower and Same. -/
namespace Go.Proofs.YtepljhleaohbcaaGreatDoor.P
open Go.RowKit Go.Proofs.YtepljhleaohbcaaGreatDoorW.PrintWords Go.Proofs.YtepljhleaohbcaaGreatDoorW.PrintLast Go.Proofs.YtepljhleaohbcaaGreatDoorW.PrintMore
theorem bytes_lowB (s : ByteArray) : bytesOf (lowB s) = (bytesOf s).map lowI := by
  unfold bytesOf lowB
  rw [show (ByteArray.mk (s.data.toList.map lowU).toArray).data.toList = s.data.toList.map lowU from by simp, List.map_map, List.map_map]
  apply List.map_congr_left
  intro c _
  exact (lowI_U c).symm
theorem refLower_from (s : ByteArray) (hs : s.size < 140737488355328) : ∀ (d i : Nat) (acc : List Int), s.size - i = d → i ≤ s.size → acc = ((bytesOf s).take i).map lowI → Ev (fun k => tollhouseref02_Lower.l0 k s acc (i : Int)) (lowB s) := by
  intro d
  induction d with
  | zero =>
    intro i acc hd hi ha
    refine Ev.step (f := fun _ => some (strOfNums acc)) (fun k => ?_) ?_
    · rw [tollhouseref02_Lower.l0, if_neg (by omega)]
    · rw [ha, List.take_of_length_le (by rw [bytes_len]; omega), ← bytes_lowB, strNums_bytes]
      exact Ev.now _
  | succ d ih =>
    intro i acc hd hi ha
    have hlt : i < (bytesOf s).length := by rw [bytes_len]; omega
    have hal : acc.length = i := by rw [ha, List.length_map, List.length_take]; omega
    have hb := bt_bytes s i hlt
    have hr := bytes_range (List.getElem_mem hlt)
    refine Ev.step (f := fun k => tollhouseref02_Lower.l0 k s (acc ++ [lowI (bytesOf s)[i]]) ((i + 1 : Nat) : Int)) (fun k => ?_) ?_
    · rw [tollhouseref02_Lower.l0, if_pos (by rw [bytes_len] at hlt; omega), if_pos (by omega), hb, w64n i (by omega)]
      rw [if_pos (show acc.length < 140737488355328 by omega), if_pos (show acc.length < 140737488355328 by omega)]
      unfold lowI
      by_cases h1 : (bytesOf s)[i] ≥ 65
      · rw [if_pos h1]
        by_cases h2 : (bytesOf s)[i] ≤ 90
        · rw [if_pos h2, if_pos ⟨h1, h2⟩, show ((bytesOf s)[i] + 32) % 256 = (bytesOf s)[i] + 32 by omega]
        · rw [if_neg h2, if_neg (fun h => h2 h.2)]
      · rw [if_neg h1, if_neg (fun h => h1 h.1)]
    · refine ih (i + 1) _ (by omega) (by rw [bytes_len] at hlt; omega) ?_
      rw [ha, List.take_succ_eq_append_getElem hlt, List.map_append]
      rfl
theorem refLower_ok (s : ByteArray) (hs : s.size < 140737488355328) : Ev (fun k => tollhouseref02_Lower.f k s) (lowB s) := by
  unfold tollhouseref02_Lower.f
  exact refLower_from s hs s.size 0 [] (by omega) (Nat.zero_le _) (by simp)
theorem refSame02_ok (a b : ByteArray) (ha : a.size < 140737488355328) (hb : b.size < 140737488355328) : Ev (fun k => tollhouseref02_Same.f k a b) (sameB a b) := by
  unfold tollhouseref02_Same.f
  refine Ev.bind (refLower_ok a ha) (Ev.bind (refLower_ok b hb) ?_)
  rw [show sameB a b = ((lowB a).toList == (lowB b).toList) by unfold sameB; rw [ByteArray.toList_eq, ByteArray.toList_eq]]
  exact Ev.now _

theorem rdOf_at (l : List ByteArray) (i : Nat) (h : i < l.length) : rdOf ByteArray.empty l (i : Int) = l[i] := by
  unfold rdOf
  rw [Int.toNat_natCast, List.getD_eq_getElem?_getD, List.getElem?_eq_getElem h]
  rfl
theorem toList_inj' {a b : ByteArray} (h : a.toList = b.toList) : a = b := by
  rw [ByteArray.toList_eq, ByteArray.toList_eq] at h
  cases a; cases b
  congr 1
  exact Array.toList_inj.1 h
end Go.Proofs.YtepljhleaohbcaaGreatDoor.P
end

section
/- Tokens and credentials: what the document answers. -/
namespace Go.Proofs.YtepljhleaohbcaaGreatDoor.P
open Go.RowKit Go.Proofs.YtepljhleaohbcaaGreatDoorW.PrintWords Go.Proofs.YtepljhleaohbcaaGreatDoorW.PrintLast Go.Proofs.YtepljhleaohbcaaGreatDoorW.PrintMore

/-! ### the document's May -/
def okR (c : Int) : Bool := (decide (97 ≤ c) && decide (c ≤ 122)) || ((decide (65 ≤ c) && decide (c ≤ 90)) || ((decide (48 ≤ c) && decide (c ≤ 57)) || (decide (c = 45) || (decide (c = 46) || (decide (c = 95) || (decide (c = 126) || (decide (c = 43) || decide (c = 47))))))))
theorem okR_fin : ∀ n : Fin 256, okR ((n.val : Nat) : Int) = okU (UInt8.ofNat n.val) := by decide +kernel
theorem okR_U (b : UInt8) : okR ((b.toNat : Nat) : Int) = okU b := by
  have := okR_fin ⟨b.toNat, b.toNat_lt⟩
  simpa using this
theorem ref_sign (c : Int) (x y : Option Bool) : (if c = 45 then x else if c = 46 then x else if c = 95 then x else if c = 126 then x else if c = 43 then x else if c = 47 then x else y) = if (decide (c = 45) || (decide (c = 46) || (decide (c = 95) || (decide (c = 126) || (decide (c = 43) || decide (c = 47)))))) = true then x else y := by
  by_cases h1 : c = 45
  · simp [h1]
  by_cases h2 : c = 46
  · simp [h2]
  by_cases h3 : c = 95
  · simp [h3]
  by_cases h4 : c = 126
  · simp [h4]
  by_cases h5 : c = 43
  · simp [h5]
  by_cases h6 : c = 47
  · simp [h6]
  simp [h1, h2, h3, h4, h5, h6]
theorem refMay_j1 (l : U8s) (hl : l.length ≤ 1073741824) (i : Nat) (hi : i < l.length) (k : Nat) : tollhouseref15_May.j1 (k + 1) (mkB l) (i : Int) true = if okU (l[i]) = true then tollhouseref15_May.l0 k (mkB l) ((i + 1 : Nat) : Int) else some false := by
  rw [tollhouseref15_May.j1, if_pos rfl, if_pos (by omega), if_pos (by rw [mkB_size]; omega), bt_mk l i hi, w64n i (by omega), ← okR_U]
  have hr : 0 ≤ ((l[i].toNat : Nat) : Int) ∧ ((l[i].toNat : Nat) : Int) ≤ 255 := by have := l[i].toNat_lt; omega
  generalize ((l[i].toNat : Nat) : Int) = c at hr
  simp only [ref_sign]
  unfold okR
  by_cases a1 : c ≥ 97
  · by_cases a2 : c ≤ 122
    · rw [if_pos a1, if_pos a2, if_pos (by rw [decide_eq_true (show 97 ≤ c from a1), decide_eq_true a2]; rfl)]
    · rw [if_pos a1, if_neg a2, if_pos (show c ≥ 65 by omega), if_neg (show ¬ c ≤ 90 by omega), if_pos (show c ≥ 48 by omega), if_neg (show ¬ c ≤ 57 by omega), decide_eq_false a2, decide_eq_false (show ¬ c ≤ 90 by omega), decide_eq_false (show ¬ c ≤ 57 by omega), Bool.and_false, Bool.and_false, Bool.and_false, Bool.false_or, Bool.false_or, Bool.false_or]
  · rw [if_neg a1, decide_eq_false (show ¬ 97 ≤ c from a1), Bool.false_and, Bool.false_or]
    by_cases b1 : c ≥ 65
    · by_cases b2 : c ≤ 90
      · rw [if_pos b1, if_pos b2, if_pos (by rw [decide_eq_true (show 65 ≤ c from b1), decide_eq_true b2]; rfl)]
      · rw [if_pos b1, if_neg b2, if_pos (show c ≥ 48 by omega), if_neg (show ¬ c ≤ 57 by omega), decide_eq_false b2, decide_eq_false (show ¬ c ≤ 57 by omega), Bool.and_false, Bool.and_false, Bool.false_or, Bool.false_or]
    · rw [if_neg b1, decide_eq_false (show ¬ 65 ≤ c from b1), Bool.false_and, Bool.false_or]
      by_cases d1 : c ≥ 48
      · by_cases d2 : c ≤ 57
        · rw [if_pos d1, if_pos d2, if_pos (by rw [decide_eq_true (show 48 ≤ c from d1), decide_eq_true d2]; rfl)]
        · rw [if_pos d1, if_neg d2, decide_eq_false d2, Bool.and_false, Bool.false_or]
      · rw [if_neg d1, decide_eq_false (show ¬ 48 ≤ c from d1), Bool.false_and, Bool.false_or]
theorem b61 (c : UInt8) : (((c.toNat : Nat) : Int) = 61) ↔ c = 61 := ⟨fun e => UInt8.toNat_inj.1 (by have : ((c.toNat : Nat) : Int) = ((61 : UInt8).toNat : Int) := e; omega), fun e => by rw [e]; rfl⟩
theorem refMay_l1 (l : U8s) (hl : l.length ≤ 1073741824) (i : Nat) : ∀ (d j : Nat), l.length - j = d → j ≤ l.length → Ev (fun k => tollhouseref15_May.l1 k (mkB l) (i : Int) (j : Int)) ((l.drop j).all (· == 61) && (decide (0 < i) && decide (l.length ≤ 64))) := by
  intro d
  induction d with
  | zero =>
    intro j hd hj
    rw [List.drop_eq_nil_of_le (by omega), List.all_nil, Bool.true_and]
    by_cases h0 : 0 < i
    · rw [decide_eq_true h0, Bool.true_and]
      have e : decide (l.length ≤ 64) = decide (((mkB l).size : Int) ≤ 64) := by congr 1; rw [mkB_size, eq_iff_iff]; omega
      rw [e]
      exact Ev.step (f := fun _ => some (decide (((mkB l).size : Int) ≤ 64))) (fun k => by rw [tollhouseref15_May.l1, if_neg (by rw [mkB_size]; omega), if_pos (by omega)]) (Ev.now _)
    · rw [decide_eq_false h0, Bool.false_and]
      exact Ev.step (f := fun _ => some false) (fun k => by rw [tollhouseref15_May.l1, if_neg (by rw [mkB_size]; omega), if_neg (by omega)]) (Ev.now _)
  | succ d ih =>
    intro j hd hj
    have hlt : j < l.length := by omega
    rw [List.drop_eq_getElem_cons hlt, List.all_cons]
    by_cases he : l[j] = 61
    · rw [show (l[j] == (61 : UInt8)) = true from beq_iff_eq.2 he, Bool.true_and]
      exact Ev.step (fun k => by rw [tollhouseref15_May.l1, if_pos (by rw [mkB_size]; omega), if_pos (by omega), bt_mk l j hlt, if_pos ((b61 _).2 he), w64n j (by omega)]) (ih (j + 1) (by omega) (by omega))
    · rw [show (l[j] == (61 : UInt8)) = false from beq_eq_false_iff_ne.2 he, Bool.false_and, Bool.false_and]
      exact Ev.step (f := fun _ => some false) (fun k => by rw [tollhouseref15_May.l1, if_pos (by rw [mkB_size]; omega), if_pos (by omega), bt_mk l j hlt, if_neg (fun e => he ((b61 _).1 e))]) (Ev.now _)
/-- What is asked of the rest of a text. -/
def restR (t : U8s) (i n : Nat) : Bool := (t.takeWhile (fun b => !(b == 61))).all okU && ((t.dropWhile (fun b => !(b == 61))).all (· == 61) && (decide (0 < i + (t.takeWhile (fun b => !(b == 61))).length) && decide (n ≤ 64)))
theorem refMay_l0 (l : U8s) (hl : l.length ≤ 1073741824) : ∀ (d i : Nat), l.length - i = d → i ≤ l.length → Ev (fun k => tollhouseref15_May.l0 k (mkB l) (i : Int)) (restR (l.drop i) i l.length) := by
  intro d
  induction d with
  | zero =>
    intro i hd hi
    have h1 := refMay_l1 l hl i 0 i (by omega) hi
    rw [List.drop_eq_nil_of_le (by omega)] at h1 ⊢
    refine Ev.step (f := fun k => tollhouseref15_May.j1 k (mkB l) (i : Int) false) (fun k => by rw [tollhouseref15_May.l0, if_neg (by rw [mkB_size]; omega)]) ?_
    refine Ev.step (fun k => by rw [tollhouseref15_May.j1, if_neg (by decide)]) ?_
    exact h1
  | succ d ih =>
    intro i hd hi
    have hlt : i < l.length := by omega
    have hnext := ih (i + 1) (by omega) (by omega)
    have h1 := refMay_l1 l hl i (l.length - i) i rfl hi
    rw [List.drop_eq_getElem_cons hlt] at h1 ⊢
    by_cases he : l[i] = 61
    · have e : restR (l[i] :: l.drop (i + 1)) i l.length = ((l[i] :: l.drop (i + 1)).all (· == 61) && (decide (0 < i) && decide (l.length ≤ 64))) := by
        unfold restR
        rw [List.takeWhile_cons_of_neg (by rw [he]; decide), List.dropWhile_cons_of_neg (by rw [he]; decide), List.all_nil, Bool.true_and, List.length_nil]
        rfl
      rw [e]
      refine Ev.step (f := fun k => tollhouseref15_May.j1 k (mkB l) (i : Int) false) (fun k => ?_) ?_
      · rw [tollhouseref15_May.l0, if_pos (by rw [mkB_size]; omega), if_pos (by omega), bt_mk l i hlt, show ((((l[i]).toNat : Nat) : Int) != 61) = false by rw [he]; rfl]
      · exact Ev.step (fun k => by rw [tollhouseref15_May.j1, if_neg (by decide)]) h1
    · have hb : (!(l[i] == (61 : UInt8))) = true := by rw [beq_eq_false_iff_ne.2 he]; rfl
      have e : restR (l[i] :: l.drop (i + 1)) i l.length = (okU l[i] && restR (l.drop (i + 1)) (i + 1) l.length) := by
        unfold restR
        rw [List.takeWhile_cons_of_pos (p := fun b : UInt8 => !(b == 61)) hb, List.dropWhile_cons_of_pos (p := fun b : UInt8 => !(b == 61)) hb, List.all_cons, List.length_cons, Bool.and_assoc, show i + (((l.drop (i + 1)).takeWhile (fun b => !(b == 61))).length + 1) = i + 1 + ((l.drop (i + 1)).takeWhile (fun b => !(b == 61))).length by omega]
      rw [e]
      refine Ev.step (f := fun k => tollhouseref15_May.j1 k (mkB l) (i : Int) true) (fun k => ?_) ?_
      · rw [tollhouseref15_May.l0, if_pos (by rw [mkB_size]; omega), if_pos (by omega), bt_mk l i hlt, show ((((l[i]).toNat : Nat) : Int) != 61) = true by rw [bne_iff_ne]; exact fun e => he ((b61 _).1 e)]
      · refine Ev.step (refMay_j1 l hl i hlt) ?_
        cases hok : okU l[i] with
        | true => rw [Bool.true_and]; exact Ev.congr (fun k => if_pos rfl) hnext
        | false => rw [Bool.false_and]; exact Ev.congr (fun k => if_neg (by decide)) (Ev.now _)
theorem refMay15_ok (l : U8s) (hl : l.length ≤ 1073741824) : Ev (fun k => tollhouseref15_May.f k (mkB l)) (tokMay l) := by
  have h := refMay_l0 l hl l.length 0 (by omega) (Nat.zero_le _)
  rw [List.drop_zero] at h
  have e : tokMay l = restR l 0 l.length := by
    unfold tokMay
    rw [may_eq okU ok61]
    unfold mayR restR
    congr 1
    congr 1
    congr 1
    cases l.takeWhile (fun b => !(b == 61)) with
    | nil => rfl
    | cons b r => simp
  rw [e]
  exact h

def credEnd (t : U8s) : ByteArray × Bool := if tokMay t = true then (mkB t, true) else (⟨#[]⟩, false)
theorem refCred_end (l : U8s) (hl : l.length ≤ 1073741824) (i : Nat) : Ev (fun k => (tollhouseref15_May.f k ((mkB l).extract ((i : Int)).toNat (mkB l).size)).bind fun t203 => (if t203 = true then (some ((mkB l).extract ((i : Int)).toNat (mkB l).size, true)) else (some ((⟨#[]⟩ : ByteArray), false)))) (credEnd (l.drop i)) := by
  rw [Int.toNat_natCast, ext_end]
  refine Ev.bind (refMay15_ok (l.drop i) (by rw [List.length_drop]; omega)) ?_
  unfold credEnd
  cases tokMay (l.drop i) with
  | true => exact Ev.congr (fun k => if_pos rfl) (Ev.now _)
  | false => exact Ev.congr (fun k => if_neg (by decide)) (Ev.now _)
theorem refCred_l0 (l : U8s) (hl : l.length ≤ 1073741824) : ∀ (d i : Nat), l.length - i = d → i ≤ l.length → Ev (fun k => tollhouseref15_Credential.l0 k (mkB l) (i : Int)) (credEnd ((l.drop i).dropWhile (· == 32))) := by
  intro d
  induction d with
  | zero =>
    intro i hd hi
    have hend := refCred_end l hl i
    rw [List.drop_eq_nil_of_le (by omega)] at hend ⊢
    exact Ev.step (fun k => by rw [tollhouseref15_Credential.l0, if_neg (by rw [mkB_size]; omega), if_pos (by omega), if_pos (by rw [mkB_size]; omega)]) hend
  | succ d ih =>
    intro i hd hi
    have hlt : i < l.length := by omega
    have hend := refCred_end l hl i
    rw [List.drop_eq_getElem_cons hlt] at hend ⊢
    by_cases he : l[i] = 32
    · rw [List.dropWhile_cons_of_pos (by rw [he]; decide)]
      exact Ev.step (fun k => by rw [tollhouseref15_Credential.l0, if_pos (by rw [mkB_size]; omega), if_pos (by omega), bt_mk l i hlt, if_pos ((b32 _).2 he), w64n i (by omega)]) (ih (i + 1) (by omega) (by omega))
    · rw [List.dropWhile_cons_of_neg (by simpa using he)]
      exact Ev.step (fun k => by rw [tollhouseref15_Credential.l0, if_pos (by rw [mkB_size]; omega), if_pos (by omega), bt_mk l i hlt, if_neg (fun e => he ((b32 _).1 e)), if_pos (by rw [mkB_size]; omega)]) hend
theorem refCred_ok (l : U8s) (hl : l.length ≤ 1073741824) : Ev (fun k => tollhouseref15_Credential.f k (mkB l)) (credOf l) := by
  unfold credOf
  rw [cred_eq okU ok61]
  unfold credR tollhouseref15_Credential.f
  have bad : Ev (fun k => tollhouseref15_Credential.j0 k (mkB l) true) ((⟨#[]⟩ : ByteArray), false) := Ev.step (f := fun _ => some ((⟨#[]⟩ : ByteArray), false)) (fun k => by rw [tollhouseref15_Credential.j0, if_pos rfl]) (Ev.now _)
  by_cases h8 : l.length < 8
  · rw [if_pos (.inl h8)]
    exact Ev.congr (fun k => if_pos (by rw [mkB_size]; omega)) bad
  refine Ev.congr (fun k => if_neg (by rw [mkB_size]; omega)) ?_
  refine Ev.congr (fun k => if_pos (by decide)) ?_
  refine Ev.congr (fun k => if_pos (by rw [mkB_size]; omega)) ?_
  have e6 : (mkB l).extract 0 6 = mkB (l.take 6) := by rw [ext_mk, List.drop_zero]
  rw [e6]
  refine Ev.bind (refLower_ok (mkB (l.take 6)) (by rw [mkB_size, List.length_take]; omega)) ?_
  rw [lowB_mk, mkB_toList]
  by_cases hb : (l.take 6).map lowU = bearerL
  · refine Ev.congr (fun k => if_pos hb) ?_
    refine Ev.congr (fun k => if_pos (by rw [mkB_size]; omega)) ?_
    have hlt : 6 < l.length := by omega
    rw [show ((6 : Int)) = ((6 : Nat) : Int) from rfl, bt_mk l 6 hlt]
    by_cases hs : l[6] = 32
    · have e : ((((l[6]).toNat : Nat) : Int) != 32) = false := by rw [hs]; rfl
      rw [e, if_neg (by rintro (h | h | h); exact h8 h; exact h hb; exact h (by rw [List.getElem?_eq_getElem hlt, hs]))]
      refine Ev.step (f := fun k => tollhouseref15_Credential.l0 k (mkB l) ((6 : Nat) : Int)) (fun k => by rw [tollhouseref15_Credential.j0, if_neg (by decide)]; rfl) ?_
      have h := refCred_l0 l hl (l.length - 6) 6 rfl (by omega)
      unfold credEnd tokMay at h
      rw [may_eq okU ok61] at h
      cases hm : mayR okU ((l.drop 6).dropWhile (· == 32)) with
      | true => rw [hm, if_pos rfl] at h; rw [if_pos rfl]; exact h
      | false => rw [hm, if_neg (by decide)] at h; rw [if_neg (by decide)]; exact h
    · have e : ((((l[6]).toNat : Nat) : Int) != 32) = true := by rw [bne_iff_ne]; exact fun e => hs ((b32 _).1 e)
      rw [e, if_pos (.inr (.inr (by rw [List.getElem?_eq_getElem hlt]; exact fun h => hs (Option.some.inj h))))]
      exact bad
  · rw [if_pos (.inr (.inl hb))]
    exact Ev.congr (fun k => if_neg hb) bad

theorem refGet_from (l : List S48) (n : ByteArray) (h : SmallF l) (hn : n.size ≤ 1073741824) : ∀ (d i : Nat) (acc : List ByteArray), l.length - i = d → i ≤ l.length → acc.length ≤ i → Ev (fun k => tollhouseref05_Get.l0 k l n acc (i : Int)) (acc ++ getB (l.drop i) n) := by
  intro d
  induction d with
  | zero =>
    intro i acc hd hi ha
    rw [List.drop_eq_nil_of_le (by omega), show getB ([] : List S48) n = [] from rfl, List.append_nil]
    exact Ev.step (f := fun _ => some acc) (fun k => by rw [tollhouseref05_Get.l0, if_neg (by omega)]) (Ev.now _)
  | succ d ih =>
    intro i acc hd hi ha
    have hlt : i < l.length := by omega
    have hlen := h.len
    have hx := h.names _ (List.getElem_mem hlt)
    rw [List.drop_eq_getElem_cons hlt, getB_cons]
    refine Ev.step (f := fun k => (tollhouseref02_Same.f k (l[i].f0) n).bind fun t208 => (if t208 = true then (if acc.length < 8796093022208 then (tollhouseref05_Get.l0 k l n (acc ++ [l[i].f1]) ((i + 1 : Nat) : Int)) else none) else (tollhouseref05_Get.l0 k l n acc ((i + 1 : Nat) : Int)))) (fun k => by rw [tollhouseref05_Get.l0, if_pos (by omega), if_pos (by omega), rd_at l i hlt, w64n i (by omega)]) ?_
    refine Ev.bind (refSame02_ok _ _ (by omega) (by omega)) ?_
    cases hs : sameB l[i].f0 n with
    | true =>
      rw [if_pos rfl]
      refine Ev.congr (fun k => if_pos rfl) (Ev.congr (fun k => if_pos (by omega)) ?_)
      have := ih (i + 1) (acc ++ [l[i].f1]) (by omega) (by omega) (by rw [List.length_append]; simp; omega)
      rw [List.append_assoc] at this
      exact this
    | false =>
      rw [if_neg (by decide)]
      exact Ev.congr (fun k => if_neg (by decide)) (ih (i + 1) acc (by omega) (by omega) (by omega))
theorem refHolds_ok (tok : ByteArray) (l : List S48) (h : SmallF l) : Ev (fun k => tollhouseref15_Holds.f k tok l) (holdsB tok l) := by
  unfold tollhouseref15_Holds.f
  have hg : Ev (fun k => tollhouseref05_Get.f k l paS) (getB l paS) := by
    have := refGet_from l paS h (by decide) l.length 0 [] (by omega) (Nat.zero_le _) (Nat.le_refl _)
    rw [List.drop_zero, List.nil_append] at this
    exact this
  refine Ev.bind hg ?_
  have hv : ∀ v ∈ getB l paS, v.size ≤ 1073741824 := fun v hv => by
    obtain ⟨x, hx, rfl⟩ := getB_mem hv
    exact h.vals x hx
  unfold holdsB
  generalize getB l paS = vs at hv
  match vs, hv with
  | [], _ => exact Ev.congr (fun k => if_neg (by decide)) (Ev.now _)
  | [v], hv =>
    refine Ev.congr (fun k => if_pos (one_len v)) (Ev.congr (fun k => if_pos (one_pos v)) ?_)
    have hsz := hv v (by simp)
    have e : rdOf ByteArray.empty [v] 0 = mkB v.data.toList := (mkB_data v).symm
    have hl : v.data.toList.length ≤ 1073741824 := by rw [Array.length_toList]; exact hsz
    rw [e]
    refine Ev.bind (refCred_ok _ hl) ?_
    rw [holdsV_one]
    cases (credOf v.data.toList).2 with
    | true => rw [Bool.true_and]; exact Ev.congr (fun k => if_pos rfl) (Ev.now _)
    | false => rw [Bool.false_and]; exact Ev.congr (fun k => if_neg (by decide)) (Ev.now _)
  | a :: b :: r, _ => exact Ev.congr (fun k => if_neg (by simp only [List.length_cons]; omega)) (Ev.now _)
end Go.Proofs.YtepljhleaohbcaaGreatDoor.P
end
