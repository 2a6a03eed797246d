/- start's lines, plain: what is read is what was put, and no line is both. -/
import Derived.Test.YtjmaobipfpiddaaDoorPStart
import Derived.Lib.AtoiAllCases
set_option linter.unusedVariables false
set_option linter.unusedSimpArgs false
namespace Go.Proofs.YtjmaobipfpiddaaDoor.P
open Go.RowKit Go.Proofs.YtjmaobipfpiddaaDoorW.PrintWords Go.Proofs.YtjmaobipfpiddaaDoorW.PrintLast Go.Proofs.YtjmaobipfpiddaaDoorW.PrintMore

theorem atoiN_bound (y : U8s) : I64 (atoiN y) := by
  unfold atoiN I64
  cases h : Lib.atoiAll y
  · exact Lib.atoiAll_bounds h
  · simp
  · show _ ≤ Lib.atoiSat y ∧ Lib.atoiSat y ≤ _
    unfold Lib.atoiSat
    split <;> simp
theorem minorL_64 (l : U8s) : I64 (minorL l) := by have := minorL_bound l; unfold I64; omega
def readQ (s : U8s) : U8s × U8s × Int × Int := match spn 32 s.length s with
  | [m, t, v] => if v = [] then ([], [], 0, 5) else if putQ m t (minorL v) = (s, 0) then (m, t, minorL v, 0) else ([], [], 0, 5)
  | _ => ([], [], 0, 5)
theorem put_is {x : U8s × Int} {s : U8s} : (x = (s, 0)) ↔ (x.2 = 0 ∧ x.1 = s) := by
  constructor
  · rintro rfl; exact ⟨rfl, rfl⟩
  · rintro ⟨h1, h2⟩; exact Prod.ext h2 h1
theorem Request_eq (k : Nat) (s : U8s) (hs : s.length ≤ 1073741824) : start_Request.f (k + 1) (mkB s) = some (mkB (readQ s).1, mkB (readQ s).2.1, (readQ s).2.2.1, (readQ s).2.2.2) := by
  unfold start_Request.f strings_Split.f
  rw [if_pos ⟨by rw [mkB_size]; exact hs, rfl⟩, Option.bind_some]
  have e : spnB ((⟨#[32]⟩ : ByteArray).get! 0) (mkB s).data.toList.length (mkB s) = (spn 32 s.length s).map mkB := rfl
  rw [e]
  have hle := fun p hp => spn_le 32 s.length s p hp
  unfold readQ
  generalize spn 32 s.length s = pcs at hle ⊢
  by_cases h3 : pcs.length = 3
  · match pcs, h3 with
    | [m, t, v], _ =>
      have hm := hle m (by simp)
      have ht := hle t (by simp)
      have hv' := hle v (by simp)
      simp only [List.map_cons, List.map_nil]
      rw [if_pos (by simp), if_pos (by simp)]
      have r0 : rdOf ByteArray.empty [mkB m, mkB t, mkB v] 0 = mkB m := rfl
      have r1 : rdOf ByteArray.empty [mkB m, mkB t, mkB v] 1 = mkB t := rfl
      have r2 : rdOf ByteArray.empty [mkB m, mkB t, mkB v] 2 = mkB v := rfl
      rw [start_Request.j0, r0, r1, r2, mkB_toList]
      by_cases hv : v = []
      · subst hv
        rw [if_pos (by simp), if_pos rfl]; rfl
      · rw [if_neg (by simpa using hv), if_neg hv, if_pos (by simp), minorOf_eq v hv (by omega), Option.bind_some, if_pos (by simp), if_pos (by simp), PutRequest_eq m t _ (by omega) (by omega) (minorL_64 v), Option.bind_some]
        by_cases hq : putQ m t (minorL v) = (s, 0)
        · rw [if_pos hq, if_pos (put_is.1 hq).1, if_pos (by rw [mkB_toList, mkB_toList]; exact (put_is.1 hq).2)]
        · rw [if_neg hq]
          by_cases h1 : (putQ m t (minorL v)).2 = 0
          · rw [if_pos h1, if_neg (by rw [mkB_toList, mkB_toList]; exact fun h2 => hq (put_is.2 ⟨h1, h2⟩))]; rfl
          · rw [if_neg h1]; rfl
  · rw [if_neg (by rw [List.length_map]; omega), start_Request.j0, if_pos rfl]
    match pcs, h3 with
    | [], _ => rfl
    | [_], _ => rfl
    | [_, _], _ => rfl
    | [_, _, _], h3 => exact absurd rfl h3
    | _ :: _ :: _ :: _ :: _, _ => rfl
def readS (s : U8s) : Int × Int × U8s × Int := match spn 32 2 s with
  | [x, y, z] => if x = [] then (0, 0, [], 5) else if atoiB y = true ∧ putS (minorL x) (atoiN y) z = (s, 0) then (minorL x, atoiN y, z, 0) else (0, 0, [], 5)
  | _ => (0, 0, [], 5)
theorem Status_eq (s : U8s) (hs : s.length ≤ 1073741824) : start_Status.f (mkB s) = some ((readS s).1, (readS s).2.1, mkB (readS s).2.2.1, (readS s).2.2.2) := by
  unfold start_Status.f
  rw [if_pos (by rw [mkB_size]; exact hs), mkB_l]
  have hle := fun p hp => spn_le 32 2 s p hp
  unfold readS
  generalize spn 32 2 s = pcs at hle ⊢
  by_cases h3 : pcs.length = 3
  · match pcs, h3 with
    | [x, y, z], _ =>
      have hx' := hle x (by simp)
      have hz := hle z (by simp)
      show (if x = [] then _ else _) = some ((if x = [] then _ else _ : Int × Int × U8s × Int).1, (if x = [] then _ else _ : Int × Int × U8s × Int).2.1, mkB (if x = [] then _ else _ : Int × Int × U8s × Int).2.2.1, (if x = [] then _ else _ : Int × Int × U8s × Int).2.2.2)
      by_cases hx : x = []
      · rw [if_pos hx, if_pos hx]; rfl
      · rw [if_neg hx, if_neg hx]
        have h1 := minorOf_eq x hx (by omega)
        have h2 := PutStatus_eq (minorL x) (atoiN y) z (by omega) (minorL_64 x) (atoiN_bound y)
        unfold mkB at h1 h2
        rw [h1, Option.bind_some, h2, Option.bind_some]
        have e0 : ((mkB (putS (minorL x) (atoiN y) z).1).toList = (mkB s).toList) ↔ (putS (minorL x) (atoiN y) z).1 = s := by rw [mkB_toList, mkB_toList]
        by_cases hq : atoiB y = true ∧ putS (minorL x) (atoiN y) z = (s, 0)
        · rw [if_pos hq, if_pos ⟨hq.1, (put_is.1 hq.2).1, e0.2 (put_is.1 hq.2).2⟩]; rfl
        · rw [if_neg hq, if_neg (fun h => hq ⟨h.1, put_is.2 ⟨h.2.1, e0.1 h.2.2⟩⟩)]; rfl
  · match pcs, h3 with
    | [], _ => rfl
    | [_], _ => rfl
    | [_, _], _ => rfl
    | [_, _, _], h3 => exact absurd rfl h3
    | _ :: _ :: _ :: _ :: _, _ => rfl

/-! ### cuts -/
theorem cut3 (k : Nat) {a b c : U8s} (ha : (32 : UInt8) ∉ a) (hb : (32 : UInt8) ∉ b) (hc : (32 : UInt8) ∉ c) : spn 32 (k + 2) (a ++ 32 :: (b ++ 32 :: c)) = [a, b, c] := by
  rw [spn_app 32 (k + 1) _ a ha, spn_app 32 k _ b hb, spn_none 32 k c hc]
theorem cut2 {a b c : U8s} (ha : (32 : UInt8) ∉ a) (hb : (32 : UInt8) ∉ b) : spn 32 2 (a ++ 32 :: (b ++ 32 :: c)) = [a, b, c] := by
  rw [spn_app 32 1 _ a ha, spn_app 32 0 _ b hb, spn_zero]
theorem tok_no {l : U8s} (h : tokL l = true) (b : UInt8) (hb : tokI (b.toNat : Int) = false) : b ∉ l := by
  intro hm
  unfold tokL at h
  rw [Bool.and_eq_true] at h
  have := List.all_eq_true.1 h.2 b hm
  rw [hb] at this
  exact absurd this (by simp)
theorem tok_ne {l : U8s} (h : tokL l = true) : l ≠ [] := by
  rintro rfl
  simp [tokL] at h
theorem tgt_no {l : U8s} (h : tgtL l = true) : (32 : UInt8) ∉ l := by
  intro hm
  unfold tgtL at h
  rw [Bool.and_eq_true] at h
  have h2 : (l.any fun b => badI (b.toNat : Int)) = true := List.any_eq_true.2 ⟨32, hm, by decide⟩
  rw [h2] at h
  exact absurd h.2 (by simp)
theorem itoa_01 {n : Int} (h0 : 0 ≤ n) (h1 : n ≤ 1) : (32 : UInt8) ∉ ver ++ Lib.itoa n ∧ (47 : UInt8) ∈ ver ++ Lib.itoa n ∧ ver ++ Lib.itoa n ≠ [] ∧ minorL (ver ++ Lib.itoa n) = n ∧ Lib.itoa n = [UInt8.ofNat (48 + n.toNat)] := by
  obtain rfl | rfl : n = 0 ∨ n = 1 := by omega
  · decide +kernel
  · decide +kernel
theorem st_fin : ∀ i : Fin 500, atoiB (Lib.itoa ((100 + i.val : Nat) : Int)) = true ∧ atoiN (Lib.itoa ((100 + i.val : Nat) : Int)) = ((100 + i.val : Nat) : Int) ∧ (32 : UInt8) ∉ Lib.itoa ((100 + i.val : Nat) : Int) ∧ Lib.itoa ((100 + i.val : Nat) : Int) = [UInt8.ofNat (48 + (100 + i.val) / 100), UInt8.ofNat (48 + (100 + i.val) / 10 % 10), UInt8.ofNat (48 + (100 + i.val) % 10)] := by decide +kernel
theorem itoa_st {st : Int} (h0 : 100 ≤ st) (h1 : st ≤ 599) : atoiB (Lib.itoa st) = true ∧ atoiN (Lib.itoa st) = st ∧ (32 : UInt8) ∉ Lib.itoa st ∧ Lib.itoa st = [UInt8.ofNat (48 + st.toNat / 100), UInt8.ofNat (48 + st.toNat / 10 % 10), UInt8.ofNat (48 + st.toNat % 10)] := by
  have h := st_fin ⟨st.toNat - 100, by omega⟩
  have e : 100 + (st.toNat - 100) = st.toNat := by omega
  simp only [e, Int.toNat_of_nonneg (show 0 ≤ st by omega)] at h
  exact h
theorem putQ_ok {m t s : U8s} {n : Int} (h : putQ m t n = (s, 0)) : okQ m t n ∧ s = lineQ m t n := by
  unfold putQ at h
  split at h
  · rename_i hk
    exact ⟨hk, ((Prod.mk.inj h).1).symm⟩
  · exact absurd (Prod.mk.inj h).2 (by decide)
theorem putS_ok {r s : U8s} {n st : Int} (h : putS n st r = (s, 0)) : okS n st r ∧ s = lineS n st r := by
  unfold putS at h
  split at h
  · rename_i hk
    exact ⟨hk, ((Prod.mk.inj h).1).symm⟩
  · exact absurd (Prod.mk.inj h).2 (by decide)
theorem cutQ {m t : U8s} {n : Int} (h : okQ m t n) : (∀ k, spn 32 (k + 2) (lineQ m t n) = [m, t, ver ++ Lib.itoa n]) :=
  fun k => cut3 k (tok_no h.1 32 (by decide)) (tgt_no h.2.2.1) (itoa_01 h.2.2.2.1 h.2.2.2.2.1).1
theorem cutS {r : U8s} {n st : Int} (h : okS n st r) : spn 32 2 (lineS n st r) = [ver ++ Lib.itoa n, Lib.itoa st, r] :=
  cut2 (itoa_01 h.1 h.2.1).1 (itoa_st h.2.2.1 h.2.2.2.1).2.2.1
theorem clash {m t r s : U8s} {n k st : Int} (h1 : putQ m t n = (s, 0)) (h2 : putS k st r = (s, 0)) : False := by
  obtain ⟨o1, e1⟩ := putQ_ok h1
  obtain ⟨o2, e2⟩ := putS_ok h2
  have c1 := cutQ o1 0
  have c2 := cutS o2
  rw [← e1] at c1
  rw [← e2, c1] at c2
  injection c2 with c2 _
  have h47 := (itoa_01 o2.1 o2.2.1).2.1
  rw [← c2] at h47
  exact tok_no o1.1 47 (by decide) h47
theorem read_put_Q {m t s : U8s} {n : Int} (h : putQ m t n = (s, 0)) : readQ s = (m, t, n, 0) := by
  obtain ⟨o1, e1⟩ := putQ_ok h
  have hl : ∃ k, s.length = k + 2 := ⟨s.length - 2, by rw [e1]; unfold lineQ; simp only [List.length_append, List.length_cons]; omega⟩
  obtain ⟨k, hk⟩ := hl
  have c := cutQ o1 k
  rw [← e1] at c
  obtain ⟨_, _, h3, h4, _⟩ := itoa_01 o1.2.2.2.1 o1.2.2.2.2.1
  unfold readQ
  rw [hk, c]
  show (if ver ++ Lib.itoa n = [] then _ else if putQ m t (minorL (ver ++ Lib.itoa n)) = (s, 0) then _ else _) = _
  rw [if_neg h3, h4, if_pos h]
theorem readS_Q {m t s : U8s} {n : Int} (h : putQ m t n = (s, 0)) : readS s = (0, 0, [], 5) := by
  obtain ⟨o1, e1⟩ := putQ_ok h
  have c := cutQ o1 0
  rw [← e1] at c
  unfold readS
  rw [show (2 : Nat) = 0 + 2 from rfl, c]
  show (if m = [] then _ else if atoiB t = true ∧ putS (minorL m) (atoiN t) (ver ++ Lib.itoa n) = (s, 0) then _ else _) = _
  rw [if_neg (tok_ne o1.1), if_neg (fun hp => clash h hp.2)]
theorem read_put_S {r s : U8s} {n st : Int} (h : putS n st r = (s, 0)) : readS s = (n, st, r, 0) := by
  obtain ⟨o1, e1⟩ := putS_ok h
  have c := cutS o1
  rw [← e1] at c
  obtain ⟨_, _, h3, h4, _⟩ := itoa_01 o1.1 o1.2.1
  obtain ⟨g1, g2, _, _⟩ := itoa_st o1.2.2.1 o1.2.2.2.1
  unfold readS
  rw [c]
  show (if ver ++ Lib.itoa n = [] then _ else if atoiB (Lib.itoa st) = true ∧ putS (minorL (ver ++ Lib.itoa n)) (atoiN (Lib.itoa st)) r = (s, 0) then _ else _) = _
  rw [if_neg h3, h4, g2, if_pos ⟨g1, h⟩]
theorem readQ_cases (s : U8s) : (readQ s = ([], [], 0, 5)) ∨ ∃ m t n, readQ s = (m, t, n, 0) ∧ putQ m t n = (s, 0) ∧ I64 n ∧ m.length ≤ s.length ∧ t.length ≤ s.length := by
  have hle := fun p hp => spn_le 32 s.length s p hp
  unfold readQ
  generalize spn 32 s.length s = pcs at hle ⊢
  by_cases h3 : pcs.length = 3
  · match pcs, h3 with
    | [m, t, v], _ =>
      show (if v = [] then _ else if putQ m t (minorL v) = (s, 0) then _ else _) = _ ∨ ∃ m' t' n', (if v = [] then _ else if putQ m t (minorL v) = (s, 0) then _ else _) = _ ∧ _
      by_cases hv : v = []
      · rw [if_pos hv]; exact .inl rfl
      · rw [if_neg hv]
        by_cases hq : putQ m t (minorL v) = (s, 0)
        · rw [if_pos hq]
          exact .inr ⟨m, t, minorL v, rfl, hq, minorL_64 v, hle m (by simp), hle t (by simp)⟩
        · rw [if_neg hq]; exact .inl rfl
  · left
    match pcs, h3 with
    | [], _ => rfl
    | [_], _ => rfl
    | [_, _], _ => rfl
    | [_, _, _], h3 => exact absurd rfl h3
    | _ :: _ :: _ :: _ :: _, _ => rfl
theorem readS_cases (s : U8s) : (readS s = (0, 0, [], 5)) ∨ ∃ n st r, readS s = (n, st, r, 0) ∧ putS n st r = (s, 0) ∧ I64 n ∧ I64 st ∧ r.length ≤ s.length := by
  have hle := fun p hp => spn_le 32 2 s p hp
  unfold readS
  generalize spn 32 2 s = pcs at hle ⊢
  by_cases h3 : pcs.length = 3
  · match pcs, h3 with
    | [x, y, z], _ =>
      show (if x = [] then _ else if atoiB y = true ∧ putS (minorL x) (atoiN y) z = (s, 0) then _ else _) = _ ∨ ∃ n' st' r', (if x = [] then _ else if atoiB y = true ∧ putS (minorL x) (atoiN y) z = (s, 0) then _ else _) = _ ∧ _
      by_cases hv : x = []
      · rw [if_pos hv]; exact .inl rfl
      · rw [if_neg hv]
        by_cases hq : atoiB y = true ∧ putS (minorL x) (atoiN y) z = (s, 0)
        · rw [if_pos hq]
          exact .inr ⟨minorL x, atoiN y, z, rfl, hq.2, minorL_64 x, atoiN_bound y, hle z (by simp)⟩
        · rw [if_neg hq]; exact .inl rfl
  · left
    match pcs, h3 with
    | [], _ => rfl
    | [_], _ => rfl
    | [_, _], _ => rfl
    | [_, _, _], h3 => exact absurd rfl h3
    | _ :: _ :: _ :: _ :: _, _ => rfl
theorem putQ_cases (m t : U8s) (n : Int) : (putQ m t n = (lineQ m t n, 0) ∧ okQ m t n) ∨ putQ m t n = ([], 1) := by
  unfold putQ
  split
  · rename_i h; exact .inl ⟨rfl, h⟩
  · exact .inr rfl
theorem putS_cases (n st : Int) (r : U8s) : (putS n st r = (lineS n st r, 0) ∧ okS n st r) ∨ putS n st r = ([], 1) := by
  unfold putS
  split
  · rename_i h; exact .inl ⟨rfl, h⟩
  · exact .inr rfl
end Go.Proofs.YtjmaobipfpiddaaDoor.P
