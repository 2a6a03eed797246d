/- HeadKnown: the plain law. -/
import Derived.Test.YtdofgilfmgdpkaaDoorPRun
import Derived.Test.YtdofgilfmgdpkaaDoorPRef02
import Derived.Test.YtdofgilfmgdpkaaDoorQtollhouselaw05HeadKnown
set_option linter.unusedVariables false
set_option linter.unusedSimpArgs false
namespace Go.Proofs.YtdofgilfmgdpkaaDoor.P
open Go.RowKit Go.Proofs.YtdofgilfmgdpkaaDoorW.PrintWords Go.Proofs.YtdofgilfmgdpkaaDoorW.PrintLast Go.Proofs.YtdofgilfmgdpkaaDoorW.PrintMore

theorem bytes_appK (a b : ByteArray) : bytesOf (a ++ b) = bytesOf a ++ bytesOf b := by
  unfold bytesOf
  rw [ByteArray.data_append, Array.toList_append, List.map_append]
theorem conv_okK (s : ByteArray) (h : s.size ≤ 1048576) : conv.f s = some (bytesOf s) := conv_some s (by omega)
theorem lineI_len : lineI.length = 512 := by decide +kernel
theorem put_nilK : head_Put.f 3 ([] : List S45) = some ([13, 10], 0) := by decide +kernel
theorem may_nilK : head_May.f ([] : List S45) = some true := by decide +kernel
theorem may_blankK : head_May.f ([(⟨(⟨#[97]⟩ : ByteArray), (⟨#[32, 98]⟩ : ByteArray)⟩ : S45)] : List S45) = some false := by decide +kernel
theorem end_textK : (strOfNums [13, 10]).toList = ([13, 10] : List UInt8) := by decide +kernel
theorem may_longK (v : ByteArray) (h : v.size = 511) : head_May.f ([(⟨(⟨#[97]⟩ : ByteArray), v⟩ : S45)] : List S45) = some false := by
  unfold head_May.f
  have h1 : (⟨#[97]⟩ : ByteArray).size = 1 := rfl
  have hf : fitF (⟨(⟨#[97]⟩ : ByteArray), v⟩ : S45) = true := by unfold fitF; rw [h1, h]; decide
  have ho : okF (⟨(⟨#[97]⟩ : ByteArray), v⟩ : S45) = false := by
    unfold okF
    have : decide ((⟨#[97]⟩ : ByteArray).size + 2 + v.size ≤ 512) = false := by rw [h1, h]; decide
    rw [this, Bool.and_false, Bool.and_false, Bool.and_false]
  rw [if_pos (by rw [List.all_cons, hf]; rfl)]
  unfold mayB
  rw [List.all_cons, ho]
  simp
set_option maxRecDepth 100000 in
theorem known_end (x y : ByteArray) (hx : bytesOf x = lineI) (hy : bytesOf y = fieldsI) : Ev (fun k => tollhouselaw05_HeadKnown.l1 k x 0 21 y 32) true := by
  have sx : x.size = 512 := by rw [← bytes_len, hx]; exact lineI_len
  have sy : y.size = 128 := by rw [← bytes_len, hy]; decide +kernel
  have e1 : ∀ c : ByteArray, c.size = 0 + c.size := fun c => by omega
  have z2 : (⟨#[13, 10]⟩ : ByteArray).size = 2 := rfl
  have z1 : ∀ n : UInt8, (⟨#[n]⟩ : ByteArray).size = 1 := fun n => rfl
  have z4 : (⟨#[13, 10, 13, 10]⟩ : ByteArray).size = 4 := rfl
  have z5 : (⟨#[98, 13, 10, 13, 10]⟩ : ByteArray).size = 5 := rfl
  have z6 : (⟨#[98, 13, 10, 13]⟩ : ByteArray).size = 4 := rfl
  obtain ⟨r3, p3⟩ := parseQ_ok _ _ _ known_p3
  obtain ⟨r4, p4⟩ := parseQ_ok _ _ _ known_p4
  obtain ⟨r5, p5⟩ := parseQ_ok _ _ _ known_p5
  obtain ⟨r6, p6⟩ := parseQ_ok _ _ _ known_p6
  obtain ⟨r7, p7⟩ := parseQ_ok _ _ _ known_p7
  obtain ⟨r8, p8⟩ := parseQ_ok _ _ _ known_p8
  have c3 : conv.f (y ++ (⟨#[13, 10]⟩ : ByteArray)) = some (fieldsI ++ [13, 10]) := by rw [conv_okK _ (by rw [ByteArray.size_append]; omega), bytes_appK, hy]; rfl
  have c4 : conv.f (y ++ (⟨#[97]⟩ : ByteArray)) = some (fieldsI ++ [97]) := by rw [conv_okK _ (by rw [ByteArray.size_append, z1]; omega), bytes_appK, hy]; rfl
  have c5 : conv.f (y ++ (⟨#[32]⟩ : ByteArray)) = some (fieldsI ++ [32]) := by rw [conv_okK _ (by rw [ByteArray.size_append, z1]; omega), bytes_appK, hy]; rfl
  obtain ⟨T, hT⟩ : ∃ T, T = ((((x ++ (⟨#[13, 10]⟩ : ByteArray)) ++ x) ++ (⟨#[13, 10]⟩ : ByteArray)) ++ x) ++ (⟨#[13, 10]⟩ : ByteArray) := ⟨_, rfl⟩
  have bT : bytesOf T = threeI := by rw [hT, bytes_appK, bytes_appK, bytes_appK, bytes_appK, bytes_appK, hx]; rfl
  have sT : T.size = 1542 := by rw [hT]; simp only [ByteArray.size_append, sx, z2]
  obtain ⟨R, hR⟩ : ∃ R, R = x.extract 0 502 := ⟨_, rfl⟩
  have bR : bytesOf R = lineI.take 502 := by rw [hR, ext_lists, hx, List.drop_zero]
  have sR : R.size = 502 := by rw [hR, ByteArray.size_extract, sx]; rfl
  have c6 : conv.f ((T ++ R) ++ (⟨#[13, 10, 13, 10]⟩ : ByteArray)) = some ((threeI ++ lineI.take 502) ++ [13, 10, 13, 10]) := by rw [conv_okK _ (by simp only [ByteArray.size_append, sT, sR, z4]; decide), bytes_appK, bytes_appK, bT, bR]; rfl
  have c7 : conv.f ((T ++ R) ++ (⟨#[98, 13, 10, 13, 10]⟩ : ByteArray)) = some ((threeI ++ lineI.take 502) ++ [98, 13, 10, 13, 10]) := by rw [conv_okK _ (by simp only [ByteArray.size_append, sT, sR, z5]; decide), bytes_appK, bytes_appK, bT, bR]; rfl
  have c8 : conv.f ((T ++ R) ++ (⟨#[98, 13, 10, 13]⟩ : ByteArray)) = some ((threeI ++ lineI.take 502) ++ [98, 13, 10, 13]) := by rw [conv_okK _ (by simp only [ByteArray.size_append, sT, sR, z6]; decide), bytes_appK, bytes_appK, bT, bR]; rfl
  have hW : wrap64 (wrap64 (2048 - (T.size : Int)) - 4) = 502 := by rw [sT]; decide +kernel
  have sL : (x.extract 2 x.size ++ (⟨#[98]⟩ : ByteArray)).size = 511 := by rw [ByteArray.size_append, ByteArray.size_extract, sx, z1]; rfl
  have mL := may_longK _ sL
  have sE : (x.extract 2 x.size).size = 510 := by rw [ByteArray.size_extract, sx]; rfl
  generalize fieldsI ++ [13, 10] = q3 at c3 p3
  generalize fieldsI ++ [97] = q4 at c4 p4
  generalize fieldsI ++ [32] = q5 at c5 p5
  generalize (threeI ++ lineI.take 502) ++ [13, 10, 13, 10] = q6 at c6 p6
  generalize (threeI ++ lineI.take 502) ++ [98, 13, 10, 13, 10] = q7 at c7 p7
  generalize (threeI ++ lineI.take 502) ++ [98, 13, 10, 13] = q8 at c8 p8
  have hput : Ev (fun k => head_Put.f k ([] : List S45)) ([13, 10], 0) := Ev.of (fun k => head_Put.mono _ k) put_nilK
  refine Ev.step (f := fun k => (head_Put.f k ([] : List S45)).bind fun bt261 => if bt261.2 = 0 then (if (strOfNums bt261.1).toList = ([13, 10] : List UInt8) then ((tollhouselaw05_wakes.f k).bind fun t271 => some t271) else some false) else some false) (fun k => ?_) (Ev.bind hput (Ev.congr (fun k => if_pos rfl) (Ev.congr (fun k => if_pos end_textK) (Ev.bind (Ev.of (fun k => tollhouselaw05_wakes.mono k) tollhouselaw05_wakes.told) (Ev.now _)))))
  rw [tollhouselaw05_HeadKnown.l1, if_neg (show ¬ (32 : Int) < 32 by decide), if_pos (show y.size + 2 ≤ 9223372036854775807 by omega), c3, Option.bind_some, p3, Option.bind_some, if_pos (show y.size + 1 ≤ 9223372036854775807 by omega), c4, Option.bind_some, p4, Option.bind_some, c5, Option.bind_some, p5, Option.bind_some]
  rw [if_pos (show x.size + 2 ≤ 9223372036854775807 by omega), if_pos (show (x ++ (⟨#[13, 10]⟩ : ByteArray)).size + x.size ≤ 9223372036854775807 by simp only [ByteArray.size_append, z2]; omega), if_pos (show ((x ++ (⟨#[13, 10]⟩ : ByteArray)) ++ x).size + 2 ≤ 9223372036854775807 by simp only [ByteArray.size_append, z2]; omega),
    if_pos (show (((x ++ (⟨#[13, 10]⟩ : ByteArray)) ++ x) ++ (⟨#[13, 10]⟩ : ByteArray)).size + x.size ≤ 9223372036854775807 by simp only [ByteArray.size_append, z2]; omega), if_pos (show ((((x ++ (⟨#[13, 10]⟩ : ByteArray)) ++ x) ++ (⟨#[13, 10]⟩ : ByteArray)) ++ x).size + 2 ≤ 9223372036854775807 by simp only [ByteArray.size_append, z2]; omega), ← hT, hW,
    if_pos (show (0 : Int) ≤ 502 by decide), if_pos (show (502 : Int) ≤ (x.size : Int) by omega), show x.extract 0 ((502 : Int)).toNat = R from hR.symm, if_pos (show T.size + R.size ≤ 9223372036854775807 by omega), if_pos (show (T ++ R).size + 4 ≤ 9223372036854775807 by simp only [ByteArray.size_append]; omega), c6, Option.bind_some, p6, Option.bind_some,
    if_pos (show (T ++ R).size + 5 ≤ 9223372036854775807 by simp only [ByteArray.size_append]; omega), c7, Option.bind_some, p7, Option.bind_some, c8, Option.bind_some, p8, Option.bind_some, if_pos (show (2 : Int) ≤ (x.size : Int) by omega), if_pos (show (x.extract 2 x.size).size + 1 ≤ 9223372036854775807 by omega), mL, may_nilK, may_blankK]
  simp
theorem known_l1 (x : ByteArray) (hx : bytesOf x = lineI) : ∀ (d n : Nat) (y : ByteArray), 32 - n = d → n ≤ 32 → bytesOf y = (List.replicate n [97, 58, 13, 10]).flatten → Ev (fun k => tollhouselaw05_HeadKnown.l1 k x 0 21 y (n : Int)) true := by
  intro d
  induction d with
  | zero =>
    intro n y hd hn hy
    obtain rfl : n = 32 := by omega
    exact known_end x y hx hy
  | succ d ih =>
    intro n y hd hn hy
    have hw : wrap64 ((n : Int) + 1) = ((n + 1 : Nat) : Int) := by unfold wrap64; omega
    have sy : y.size = 4 * n := by rw [← bytes_len, hy, List.length_flatten, List.map_replicate, List.sum_replicate_nat]; show n * 4 = 4 * n; omega
    refine Ev.step (f := fun k => tollhouselaw05_HeadKnown.l1 k x 0 21 (y ++ (⟨#[97, 58, 13, 10]⟩ : ByteArray)) ((n + 1 : Nat) : Int)) (fun k => by rw [tollhouselaw05_HeadKnown.l1, if_pos (by omega), if_pos (by omega), hw]) (ih (n + 1) _ (by omega) (by omega) ?_)
    rw [bytes_appK, hy, List.replicate_succ', List.flatten_append]
    rfl
theorem known_l0 : ∀ (d n : Nat) (x : ByteArray), 510 - n = d → n ≤ 510 → bytesOf x = 97 :: 58 :: List.replicate n 98 → Ev (fun k => tollhouselaw05_HeadKnown.l0 k x) true := by
  intro d
  induction d with
  | zero =>
    intro n x hd hn hx
    obtain rfl : n = 510 := by omega
    have hx : bytesOf x = lineI := hx
    have sx : x.size = 512 := by rw [← bytes_len, hx]; exact lineI_len
    obtain ⟨r1, p1⟩ := parseQ_ok _ _ _ known_p1
    obtain ⟨r2, p2⟩ := parseQ_ok _ _ _ known_p2
    have z1 : (⟨#[98]⟩ : ByteArray).size = 1 := rfl
    have z4 : (⟨#[13, 10, 13, 10]⟩ : ByteArray).size = 4 := rfl
    have c1 : conv.f (x ++ (⟨#[13, 10, 13, 10]⟩ : ByteArray)) = some (lineI ++ [13, 10, 13, 10]) := by rw [conv_okK _ (by rw [ByteArray.size_append]; omega), bytes_appK, hx]; rfl
    have c2 : conv.f (x ++ (⟨#[98]⟩ : ByteArray)) = some (lineI ++ [98]) := by rw [conv_okK _ (by rw [ByteArray.size_append]; omega), bytes_appK, hx]; rfl
    generalize lineI ++ [13, 10, 13, 10] = q1 at c1 p1
    generalize lineI ++ [98] = q2 at c2 p2
    have hl := known_l1 x hx 32 0 (⟨#[]⟩ : ByteArray) rfl (Nat.zero_le _) rfl
    refine Ev.step (f := fun k => tollhouselaw05_HeadKnown.l1 k x 0 21 (⟨#[]⟩ : ByteArray) ((0 : Nat) : Int)) (fun k => ?_) hl
    rw [tollhouselaw05_HeadKnown.l0, if_neg (by omega), if_pos (show x.size + 4 ≤ 9223372036854775807 by omega), c1, Option.bind_some, p1, Option.bind_some, if_pos (show x.size + 1 ≤ 9223372036854775807 by omega), c2, Option.bind_some, p2, Option.bind_some]
    rfl
  | succ d ih =>
    intro n x hd hn hx
    have sx : x.size = n + 2 := by rw [← bytes_len, hx, List.length_cons, List.length_cons, List.length_replicate]
    refine Ev.step (f := fun k => tollhouselaw05_HeadKnown.l0 k (x ++ (⟨#[98]⟩ : ByteArray))) (fun k => by rw [tollhouselaw05_HeadKnown.l0, if_pos (by omega), if_pos (by omega)]) (ih (n + 1) _ (by omega) (by omega) ?_)
    rw [bytes_appK, hx, List.replicate_succ']
    rfl
theorem HeadKnown_true : ∃ k, tollhouselaw05_HeadKnown.f k = some true :=
  Ev.rounds (g := fun k => tollhouselaw05_HeadKnown.f k) (known_l0 510 0 _ rfl (by omega) rfl)
end Go.Proofs.YtdofgilfmgdpkaaDoor.P
