/- Plain law: the document's List lists what text.List does. -/
import Derived.Test.YtcamdfjjdigaeaaDoorPRef02
import Derived.Test.YtcamdfjjdigaeaaDoorFtextList
import Derived.Test.YtcamdfjjdigaeaaDoorQRef02
set_option linter.unusedVariables false
set_option linter.unusedSimpArgs false
namespace Go.Proofs.YtcamdfjjdigaeaaDoor.P
open Go.RowKit Go.Proofs.YtcamdfjjdigaeaaDoorW.PrintWords Go.Proofs.YtcamdfjjdigaeaaDoorW.PrintLast Go.Proofs.YtcamdfjjdigaeaaDoorW.PrintMore

theorem ev_ifL {α : Type} {c : Prop} [Decidable c] {g f : Nat → Option α} {r : α} (h : c → Ev g r) (h' : ¬ c → Ev f r) : Ev (fun k => if c then g k else f k) r := by
  by_cases hc : c
  · exact Ev.congr (fun k => if_pos hc) (h hc)
  · exact Ev.congr (fun k => if_neg hc) (h' hc)
theorem bt_get (s : ByteArray) (i : Nat) (h : i < s.size) : bt s (i : Int) = ((s.get! i).toNat : Int) := by
  unfold bt
  rw [dif_pos (by simpa using h)]
  rw [get_at' s i h]
  simp
theorem lsGo_masked (s : ByteArray) (d p b : Nat) (q : Bool) (acc : List ByteArray) : lsGo s (d + 1) p b q true acc = lsGo s d (p + 1) b q false acc := by rw [lsGo, if_pos rfl]
/-- From within a quoted part to behind it. -/
theorem quoted_ev (s : ByteArray) (hs : s.size < 140737488355328) : ∀ (d p : Nat), s.size - p = d → p ≤ s.size → ∃ e : Nat, Ev (fun k => tollhouseref02_quoted.l0 k s (p : Int)) (e : Int) ∧ p ≤ e ∧ e ≤ s.size ∧ ∀ b acc, lsGo s (s.size - p) p b true false acc = lsGo s (s.size - e) e b false false acc := by
  have hend : ∀ p : Nat, s.size ≤ p → p < 9223372036854775807 → Ev (fun k => tollhouseref02_quoted.l0 k s (p : Int)) (s.size : Int) := fun p h1 h2 =>
    Ev.step (f := fun k => tollhouseref02_quoted.j1 k s (p : Int) false) (fun k => by rw [tollhouseref02_quoted.l0, if_neg (by omega)]) (Ev.step (f := fun _ => some (s.size : Int)) (fun k => by rw [tollhouseref02_quoted.j1, if_neg (by decide), if_pos (by omega)]) (Ev.now _))
  intro d
  induction d using Nat.strongRecOn with
  | ind d ih =>
    intro p hd hp
    by_cases hlt : p < s.size
    · have hb := bt_get s p hlt
      obtain ⟨n, hn⟩ : ∃ n, s.size - p = n + 1 := ⟨s.size - p - 1, by omega⟩
      by_cases h34 : (s.get! p).toNat = 34
      · refine ⟨p + 1, ?_, by omega, by omega, fun b acc => ?_⟩
        · refine Ev.step (f := fun k => tollhouseref02_quoted.j1 k s (p : Int) false) (fun k => by rw [tollhouseref02_quoted.l0, if_pos (by omega), if_pos (by omega), hb, show (((s.get! p).toNat : Int) != 34) = false by rw [h34]; rfl]) ?_
          exact Ev.step (f := fun _ => some (((p + 1 : Nat)) : Int)) (fun k => by rw [tollhouseref02_quoted.j1, if_neg (by decide), if_neg (by omega), w64n p (by omega)]) (Ev.now _)
        · rw [hn, lsGo, if_neg (by decide), if_neg (by rw [h34]; decide), if_pos (by rw [h34]; rfl), show s.size - (p + 1) = n by omega]
          rfl
      · have hl0 : ∀ e : Int, Ev (fun k => tollhouseref02_quoted.j1 k s (p : Int) true) e → Ev (fun k => tollhouseref02_quoted.l0 k s (p : Int)) e := fun e h =>
          Ev.step (f := fun k => tollhouseref02_quoted.j1 k s (p : Int) true) (fun k => by rw [tollhouseref02_quoted.l0, if_pos (by omega), if_pos (by omega), hb, show (((s.get! p).toNat : Int) != 34) = true by simp; omega]) h
        by_cases h92 : (s.get! p).toNat = 92
        · have hj : ∀ e : Int, Ev (fun k => tollhouseref02_quoted.l0 k s ((p + 2 : Nat) : Int)) e → Ev (fun k => tollhouseref02_quoted.j1 k s (p : Int) true) e := fun e h =>
            Ev.step (f := fun k => tollhouseref02_quoted.l0 k s ((p + 2 : Nat) : Int)) (fun k => by rw [tollhouseref02_quoted.j1, if_pos rfl, if_pos (by omega), if_pos (by omega), hb, if_pos (by omega), w64n p (by omega), w64n (p + 1) (by omega)]) h
          by_cases h2 : p + 2 ≤ s.size
          · obtain ⟨e, e1, e2, e3, e4⟩ := ih (s.size - (p + 2)) (by omega) (p + 2) rfl h2
            refine ⟨e, hl0 _ (hj _ e1), by omega, e3, fun b acc => ?_⟩
            obtain ⟨n', hn'⟩ : ∃ n', n = n' + 1 := ⟨n - 1, by omega⟩
            rw [hn, lsGo, if_neg (by decide), if_pos (by rw [h92]; rfl), hn', lsGo_masked, show n' = s.size - (p + 2) by omega]
            exact e4 b acc
          · refine ⟨s.size, hl0 _ (hj _ (hend (p + 2) (by omega) (by omega))), by omega, Nat.le_refl _, fun b acc => ?_⟩
            obtain rfl : n = 0 := by omega
            rw [hn, lsGo, if_neg (by decide), if_pos (by rw [h92]; rfl), Nat.sub_self, lsGo, lsGo]
        · have hj : ∀ e : Int, Ev (fun k => tollhouseref02_quoted.l0 k s ((p + 1 : Nat) : Int)) e → Ev (fun k => tollhouseref02_quoted.j1 k s (p : Int) true) e := fun e h =>
            Ev.step (f := fun k => tollhouseref02_quoted.l0 k s ((p + 1 : Nat) : Int)) (fun k => by rw [tollhouseref02_quoted.j1, if_pos rfl, if_pos (by omega), if_pos (by omega), hb, if_neg (by omega), w64n p (by omega)]) h
          obtain ⟨e, e1, e2, e3, e4⟩ := ih (s.size - (p + 1)) (by omega) (p + 1) rfl (by omega)
          refine ⟨e, hl0 _ (hj _ e1), by omega, e3, fun b acc => ?_⟩
          rw [hn, lsGo, if_neg (by decide), if_neg (by simp; omega), if_neg (by simp; omega), if_neg (by simp), show n = s.size - (p + 1) by omega]
          exact e4 b acc
    · refine ⟨s.size, hend p (by omega) (by omega), by omega, Nat.le_refl _, fun b acc => ?_⟩
      rw [show s.size - p = 0 by omega, Nat.sub_self, lsGo, lsGo]
theorem empty_iff (x : ByteArray) : x.toList = ([] : List UInt8) ↔ x.data.toList.isEmpty = true := by rw [ByteArray.toList_eq, List.isEmpty_iff]
theorem refList_end (s : ByteArray) (hs : s.size < 4398046511104) (b p : Nat) (acc : List ByteArray) (hb : b ≤ p) (hp : p ≤ s.size) (ha : acc.length ≤ p) (r : List ByteArray) (h : Ev (fun k => tollhouseref02_List.l0 k s (lsEnd s acc b p) ((p + 1 : Nat) : Int) ((p + 1 : Nat) : Int)) r) :
    Ev (fun k => tollhouseref02_List.j2 k s acc (b : Int) (p : Int) true) r := by
  refine Ev.step (f := fun k => (tollhouseref02_Trim.f k (s.extract b p)).bind fun t131 => if t131.toList = ([] : List UInt8) then tollhouseref02_List.l0 k s acc ((p + 1 : Nat) : Int) ((p + 1 : Nat) : Int) else tollhouseref02_List.l0 k s (acc ++ [t131]) ((p + 1 : Nat) : Int) ((p + 1 : Nat) : Int)) (fun k => ?_) ?_
  · rw [tollhouseref02_List.j2, if_pos rfl, if_pos (by omega), if_pos (by omega), if_pos (by omega), w64n p (by omega)]
    simp only [Int.toNat_natCast, if_pos (show acc.length < 8796093022208 by omega)]
  · refine Ev.bind (refTrim_ok _ (by rw [ByteArray.size_extract]; omega)) ?_
    unfold lsEnd at h
    refine ev_ifL (fun e => ?_) (fun e => ?_)
    · rwa [if_pos ((empty_iff _).1 e)] at h
    · rwa [if_neg (fun e' => e ((empty_iff _).2 e'))] at h
theorem refList_from (s : ByteArray) (hs : s.size < 4398046511104) : ∀ (d p b : Nat) (acc : List ByteArray), s.size - p = d → p ≤ s.size → b ≤ p → acc.length ≤ p → Ev (fun k => tollhouseref02_List.l0 k s acc (b : Int) (p : Int)) (lsGo s (s.size - p) p b false false acc) := by
  intro d
  induction d using Nat.strongRecOn with
  | ind d ih =>
    intro p b acc hd hp hb ha
    by_cases hlt : p < s.size
    · have hbt := bt_get s p hlt
      obtain ⟨n, hn⟩ : ∃ n, s.size - p = n + 1 := ⟨s.size - p - 1, by omega⟩
      have hn1 : n = s.size - (p + 1) := by omega
      by_cases h34 : (s.get! p).toNat = 34
      · obtain ⟨e, e1, e2, e3, e4⟩ := quoted_ev s (by omega) (s.size - (p + 1)) (p + 1) rfl (by omega)
        refine Ev.step (f := fun k => tollhouseref02_List.j1 k s acc (b : Int) (p : Int) true) (fun k => by rw [tollhouseref02_List.l0, if_pos (by omega), if_pos (by omega), if_pos (by omega), hbt, show (((s.get! p).toNat : Int) == 34) = true by rw [h34]; rfl]) ?_
        refine Ev.step (f := fun k => (tollhouseref02_quoted.f k s (p : Int)).bind fun t130 => tollhouseref02_List.l0 k s acc (b : Int) t130) (fun k => by rw [tollhouseref02_List.j1, if_pos rfl]) ?_
        refine Ev.bind (a := (e : Int)) ?_ ?_
        · unfold tollhouseref02_quoted.f
          rw [w64n p (by omega)]
          exact e1
        · rw [hn, lsGo, if_neg (by decide), if_neg (by simp), if_pos (by rw [h34]; rfl), hn1]
          rw [show (!false) = true from rfl, e4 b acc]
          exact ih (s.size - e) (by omega) e b acc rfl e3 (by omega) (by omega)
      · have hl0 : ∀ r, Ev (fun k => tollhouseref02_List.j2 k s acc (b : Int) (p : Int) (((s.get! p).toNat : Int) == 44)) r → Ev (fun k => tollhouseref02_List.l0 k s acc (b : Int) (p : Int)) r := fun r h =>
          Ev.step (f := fun k => tollhouseref02_List.j1 k s acc (b : Int) (p : Int) false) (fun k => by rw [tollhouseref02_List.l0, if_pos (by omega), if_pos (by omega), if_pos (by omega), hbt, show (((s.get! p).toNat : Int) == 34) = false by simp; omega])
            (Ev.step (f := fun k => tollhouseref02_List.j2 k s acc (b : Int) (p : Int) (((s.get! p).toNat : Int) == 44)) (fun k => by rw [tollhouseref02_List.j1, if_neg (by decide), if_neg (by omega), if_pos (by omega), if_pos (by omega), hbt]) h)
        by_cases h44 : (s.get! p).toNat = 44
        · refine hl0 _ ?_
          rw [show (((s.get! p).toNat : Int) == 44) = true by rw [h44]; rfl]
          refine refList_end s hs b p acc hb hp ha _ ?_
          rw [hn, lsGo, if_neg (by decide), if_neg (by simp), if_neg (by rw [h44]; decide), if_pos (by rw [h44]; rfl), hn1]
          have := lsEnd_length s acc b p
          exact ih (s.size - (p + 1)) (by omega) (p + 1) (p + 1) _ rfl (by omega) (Nat.le_refl _) (by omega)
        · refine hl0 _ ?_
          rw [show (((s.get! p).toNat : Int) == 44) = false by simp; omega]
          refine Ev.step (f := fun k => tollhouseref02_List.l0 k s acc (b : Int) ((p + 1 : Nat) : Int)) (fun k => by rw [tollhouseref02_List.j2, if_neg (by decide), w64n p (by omega)]) ?_
          rw [hn, lsGo, if_neg (by decide), if_neg (by simp), if_neg (by simp; omega), if_neg (by simp; omega), hn1]
          exact ih (s.size - (p + 1)) (by omega) (p + 1) b acc rfl (by omega) (by omega) (by omega)
    · obtain rfl : p = s.size := by omega
      rw [Nat.sub_self, lsGo]
      refine Ev.step (f := fun k => tollhouseref02_List.j1 k s acc (b : Int) (s.size : Int) false) (fun k => by rw [tollhouseref02_List.l0, if_pos (by omega), if_neg (by omega)]) ?_
      refine Ev.step (f := fun k => tollhouseref02_List.j2 k s acc (b : Int) (s.size : Int) true) (fun k => by rw [tollhouseref02_List.j1, if_neg (by decide), if_pos rfl]) ?_
      refine refList_end s hs b s.size acc hb hp ha _ ?_
      exact Ev.step (f := fun _ => some (lsEnd s acc b s.size)) (fun k => by rw [tollhouseref02_List.l0, if_neg (by omega)]) (Ev.now _)
theorem refList_ok (s : ByteArray) (hs : s.size < 4398046511104) : Ev (fun k => tollhouseref02_List.f k s) (listB s) := by
  unfold tollhouseref02_List.f listB
  have := refList_from s hs s.size 0 0 [] (by omega) (Nat.zero_le _) (Nat.le_refl _) (Nat.zero_le _)
  rwa [Nat.sub_zero] at this
end Go.Proofs.YtcamdfjjdigaeaaDoor.P
