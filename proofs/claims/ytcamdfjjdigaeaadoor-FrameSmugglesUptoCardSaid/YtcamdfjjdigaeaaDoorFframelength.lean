/- frame.length: the number that all lengths say. -/
import Derived.Test.YtcamdfjjdigaeaaDoorFframechunked
import Derived.Test.YtcamdfjjdigaeaaDoorFnumRead
set_option linter.unusedVariables false
set_option linter.unusedSimpArgs false
namespace Go.Proofs.YtcamdfjjdigaeaaDoor.P
open Go.RowKit Go.Proofs.YtcamdfjjdigaeaaDoorW.PrintWords Go.Proofs.YtcamdfjjdigaeaaDoorW.PrintLast Go.Proofs.YtcamdfjjdigaeaaDoorW.PrintMore

/-- What was said so far: the number, the first text, is it too long, was anything said. -/
structure LnSt where
  n : Int
  first : ByteArray
  big : Bool
  said : Bool
/-- One length more. -/
def lenStep (st : LnSt) (x : ByteArray) : Int × LnSt :=
  if (numB 10 decW x).2 = 5 then (22, st)
  else if st.said = false then (0, ⟨(numB 10 decW x).1, x, !decide ((numB 10 decW x).2 = 0), true⟩)
  else if (st.big != !decide ((numB 10 decW x).2 = 0)) = true then (22, st)
  else if (numB 10 decW x).1 ≠ st.n then (22, st)
  else if st.big = false then (0, st)
  else if x.toList = st.first.toList then (0, st) else (22, st)
def ln0 : LnSt := ⟨0, ⟨#[]⟩, false, false⟩
def lengthB (vs : List ByteArray) : Int × Bool × Int := ((foldE lenStep ln0 (elsB vs)).2.n, (foldE lenStep ln0 (elsB vs)).2.big, if (foldE lenStep ln0 (elsB vs)).2.said = true then (foldE lenStep ln0 (elsB vs)).1 else 22)
def frame_length.f (l0 : List ByteArray) : Option (Int × Bool × Int) := if sumS l0 ≤ 1073741824 then some (lengthB l0) else none

/-- What lies in memory: each of the four in a block of its own. -/
structure LnMem (w0 : World) (st : LnSt) (W : World) : Prop where
  bn : W.heap[w0.heap.size]? = some (.cells #[.int .u64 st.n] 25 (0, 0))
  bb : W.heap[w0.heap.size + 1]? = some (.cells #[.bool st.big] 4 (0, 0))
  bf : W.heap[w0.heap.size + 1 + 1]? = some (.cells #[.string st.first] 9 (0, 0))
  bs : W.heap[w0.heap.size + 1 + 1 + 1]? = some (.cells #[.bool st.said] 4 (0, 0))
  below : Below w0.heap.size w0 W
theorem LnMem.later {w0 W W1 : World} {st : LnSt} (M : LnMem w0 st W) (hb : Below W.heap.size W W1) : LnMem w0 st W1 :=
  ⟨blk_below M.bn hb, blk_below M.bb hb, blk_below M.bf hb, blk_below M.bs hb, M.below.trans (hb.mono M.below.size)⟩
def LnS (w0 : World) (k : Nat) : Prop := w0.heap.size ≤ k ∧ k < w0.heap.size + 4
/-- The first that is said. -/
theorem LnMem.set {w0 W : World} {st : LnSt} (M : LnMem w0 st W) (n : Int) (x : ByteArray) (b : Bool) :
    LnMem w0 ⟨n, x, b, true⟩ ((((W.setCell ⟨w0.heap.size, 0, none⟩ (.int .u64 n)).setCell ⟨w0.heap.size + 1 + 1, 0, none⟩ (.string x)).setCell ⟨w0.heap.size + 1, 0, none⟩ (.bool b)).setCell ⟨w0.heap.size + 1 + 1 + 1, 0, none⟩ (.bool true)) := by
  have f : ∀ {W : World} {g : Nat} {cs : Array Value} {t : TypeId} (h : W.heap[g]? = some (.cells cs t (0, 0))) (p : Nat) (u : Value) (hp : g ≠ p), (W.setCell ⟨p, 0, none⟩ u).heap[g]? = some (.cells cs t (0, 0)) := fun h p u hp => blk_far h hp u
  refine ⟨?_, ?_, ?_, ?_, (((M.below.setCell (Nat.le_refl _) _).setCell (by show w0.heap.size ≤ w0.heap.size + 1 + 1; omega) _).setCell (by show w0.heap.size ≤ w0.heap.size + 1; omega) _).setCell (by show w0.heap.size ≤ w0.heap.size + 1 + 1 + 1; omega) _⟩
  · exact f (f (f ((blk_set M.bn 0 _).trans (by simp)) _ _ (by omega)) _ _ (by omega)) _ _ (by omega)
  · exact f ((blk_set (f (f M.bb _ _ (by omega)) _ _ (by omega)) 0 _).trans (by simp)) _ _ (by omega)
  · exact f (f ((blk_set (f M.bf _ _ (by omega)) 0 _).trans (by simp)) _ _ (by omega)) _ _ (by omega)
  · exact (blk_set (f (f (f M.bs _ _ (by omega)) _ _ (by omega)) _ _ (by omega)) 0 _).trans (by simp)

set_option maxRecDepth 100000 in
set_option maxHeartbeats 2000000 in
theorem lengthClosure (w0 : World) (st : LnSt) (x : ByteArray) (W : World) (hx : x.size ≤ 1073741824) (hI : LnMem w0 st W) :
    Calls Tryd.prog 54 (#[.string x] ++ #[.pointer (some ⟨w0.heap.size + 1 + 1 + 1, 0, none⟩), .pointer (some ⟨w0.heap.size, 0, none⟩), .pointer (some ⟨w0.heap.size + 1 + 1, 0, none⟩), .pointer (some ⟨w0.heap.size + 1, 0, none⟩)]) W fun e w' => e = .returned (.int .i64 (lenStep st x).1) ∧ LnMem w0 (lenStep st x).2 w' ∧ Kept W w' (LnS w0) := by
  have HD := Aside0.mk (num_Decimal.calls x (numB 10 decW x).1 (numB 10 decW x).2 W (by unfold num_Decimal.f; rw [if_pos (by omega)]))
  obtain ⟨q, hq⟩ : ∃ q, q = lenStep st x := ⟨_, rfl⟩
  rw [← hq]
  unfold lenStep at hq
  have HS := Aside0.mk hq
  clear hq
  have HM := Aside0.mk hI
  clear hI hx
  generalize numB 10 decW x = d at HD HS
  obtain ⟨k, f⟩ := d
  dsimp only at HD HS
  obtain ⟨n, first, big, said⟩ := st
  dsimp only at HS
  have hS : LnS w0 w0.heap.size ∧ LnS w0 (w0.heap.size + 1) ∧ LnS w0 (w0.heap.size + 1 + 1) ∧ LnS w0 (w0.heap.size + 1 + 1 + 1) := by unfold LnS; omega
  have HSS := Aside0.mk hS
  clear hS
  by_cases h5 : f = 5
  · subst h5
    rw [if_pos rfl] at HS
    go_enter Tryd.func54, Tryd.ntmps54
    go_wp2_with fail
    refine HD.out.mono ?_
    rintro e w1 ⟨rfl, hb⟩
    have HM1 := Aside0.mk (HM.out.later hb)
    have HB := Aside0.mk hb
    clear hb
    go_wp2
    go_ret
    rw [HS.out]
    exact ⟨rfl, HM1.out, Kept.of_below HB.out _⟩
  · have e5 : (f == 5) = false := beq_eq_false_iff_ne.2 h5
    rw [if_neg h5] at HS
    clear h5
    cases said with
    | false =>
      rw [if_pos rfl] at HS
      have e0 : (f != 0) = !decide (f = 0) := by
        by_cases h : f = 0
        · rw [h]; rfl
        · simp [h]
      have E0 := Aside0.mk e0
      clear e0
      go_enter Tryd.func54, Tryd.ntmps54
      go_wp2_with fail
      refine HD.out.mono ?_
      rintro e w1 ⟨rfl, hb⟩
      have HM1 := Aside0.mk (HM.out.later hb)
      have HB := Aside0.mk hb
      clear hb
      have c0 : w1.cell? ⟨w0.heap.size + 1 + 1 + 1, 0, none⟩ = some (.bool false) := (blk_cell HM1.out.bs 0).trans rfl
      have d0 : w1.cell? ⟨w0.heap.size, 0, none⟩ = some (.int .u64 n) := (blk_cell HM1.out.bn 0).trans rfl
      have d1 : w1.cell? ⟨w0.heap.size + 1, 0, none⟩ = some (.bool big) := (blk_cell HM1.out.bb 0).trans rfl
      have d2 : w1.cell? ⟨w0.heap.size + 1 + 1, 0, none⟩ = some (.string first) := (blk_cell HM1.out.bf 0).trans rfl
      have f0 := blk_frozen HM1.out.bn 0
      have f1 := blk_frozen HM1.out.bb 0
      have f2 := blk_frozen HM1.out.bf 0
      have f3 := blk_frozen HM1.out.bs 0
      go_wp2
      go_ret
      rw [HS.out]
      have h := HM1.out.set k x (f != 0)
      rw [← E0.out]
      exact ⟨rfl, h, ((((Kept.of_below HB.out _).setCell (.inl HSS.out.1) _).setCell (.inl HSS.out.2.2.1) _).setCell (.inl HSS.out.2.1) _).setCell (.inl HSS.out.2.2.2) _⟩
    | true =>
      rw [if_neg (by decide)] at HS
      cases big with
      | true =>
        by_cases h0 : f = 0
        · subst h0
          rw [if_pos (by simp)] at HS
          clear e5
          go_enter Tryd.func54, Tryd.ntmps54
          go_wp2_with fail
          refine HD.out.mono ?_
          rintro e w1 ⟨rfl, hb⟩
          have HM1 := Aside0.mk (HM.out.later hb)
          have HB := Aside0.mk hb
          clear hb
          have c0 : w1.cell? ⟨w0.heap.size + 1 + 1 + 1, 0, none⟩ = some (.bool true) := (blk_cell HM1.out.bs 0).trans rfl
          have d0 : w1.cell? ⟨w0.heap.size, 0, none⟩ = some (.int .u64 n) := (blk_cell HM1.out.bn 0).trans rfl
          have d1 : w1.cell? ⟨w0.heap.size + 1, 0, none⟩ = some (.bool true) := (blk_cell HM1.out.bb 0).trans rfl
          have d2 : w1.cell? ⟨w0.heap.size + 1 + 1, 0, none⟩ = some (.string first) := (blk_cell HM1.out.bf 0).trans rfl
          go_wp2
          go_ret
          rw [HS.out]
          exact ⟨rfl, HM1.out, Kept.of_below HB.out _⟩
        · have ef : (f == 0) = false := beq_eq_false_iff_ne.2 h0
          have ef2 : (f != 0) = true := by simp [h0]
          have ed : decide (f = 0) = false := decide_eq_false h0
          rw [ed] at HS
          clear h0 ed
          rw [if_neg (by decide)] at HS
          by_cases hk : k = n
          · subst hk
            rw [if_neg (by simp), if_neg (by decide)] at HS
            by_cases hx : x.toList = first.toList
            · have ex : (x.toList == first.toList) = true := beq_iff_eq.2 hx
              have ex2 : (x.toList != first.toList) = false := by simp [hx]
              rw [if_pos hx] at HS
              clear hx
              go_enter Tryd.func54, Tryd.ntmps54
              go_wp2_with fail
              refine HD.out.mono ?_
              rintro e w1 ⟨rfl, hb⟩
              have HM1 := Aside0.mk (HM.out.later hb)
              have HB := Aside0.mk hb
              clear hb
              have c0 : w1.cell? ⟨w0.heap.size + 1 + 1 + 1, 0, none⟩ = some (.bool true) := (blk_cell HM1.out.bs 0).trans rfl
              have d0 : w1.cell? ⟨w0.heap.size, 0, none⟩ = some (.int .u64 k) := (blk_cell HM1.out.bn 0).trans rfl
              have d1 : w1.cell? ⟨w0.heap.size + 1, 0, none⟩ = some (.bool true) := (blk_cell HM1.out.bb 0).trans rfl
              have d2 : w1.cell? ⟨w0.heap.size + 1 + 1, 0, none⟩ = some (.string first) := (blk_cell HM1.out.bf 0).trans rfl
              go_wp2
              go_ret
              rw [HS.out]
              exact ⟨rfl, HM1.out, Kept.of_below HB.out _⟩
            · have ex : (x.toList == first.toList) = false := beq_eq_false_iff_ne.2 hx
              have ex2 : (x.toList != first.toList) = true := by simp [hx]
              rw [if_neg hx] at HS
              clear hx
              go_enter Tryd.func54, Tryd.ntmps54
              go_wp2_with fail
              refine HD.out.mono ?_
              rintro e w1 ⟨rfl, hb⟩
              have HM1 := Aside0.mk (HM.out.later hb)
              have HB := Aside0.mk hb
              clear hb
              have c0 : w1.cell? ⟨w0.heap.size + 1 + 1 + 1, 0, none⟩ = some (.bool true) := (blk_cell HM1.out.bs 0).trans rfl
              have d0 : w1.cell? ⟨w0.heap.size, 0, none⟩ = some (.int .u64 k) := (blk_cell HM1.out.bn 0).trans rfl
              have d1 : w1.cell? ⟨w0.heap.size + 1, 0, none⟩ = some (.bool true) := (blk_cell HM1.out.bb 0).trans rfl
              have d2 : w1.cell? ⟨w0.heap.size + 1 + 1, 0, none⟩ = some (.string first) := (blk_cell HM1.out.bf 0).trans rfl
              go_wp2
              go_ret
              rw [HS.out]
              exact ⟨rfl, HM1.out, Kept.of_below HB.out _⟩
          · have ek : (k == n) = false := beq_eq_false_iff_ne.2 hk
            have ek2 : (k != n) = true := by simp [hk]
            rw [if_pos hk] at HS
            clear hk
            go_enter Tryd.func54, Tryd.ntmps54
            go_wp2_with fail
            refine HD.out.mono ?_
            rintro e w1 ⟨rfl, hb⟩
            have HM1 := Aside0.mk (HM.out.later hb)
            have HB := Aside0.mk hb
            clear hb
            have c0 : w1.cell? ⟨w0.heap.size + 1 + 1 + 1, 0, none⟩ = some (.bool true) := (blk_cell HM1.out.bs 0).trans rfl
            have d0 : w1.cell? ⟨w0.heap.size, 0, none⟩ = some (.int .u64 n) := (blk_cell HM1.out.bn 0).trans rfl
            have d1 : w1.cell? ⟨w0.heap.size + 1, 0, none⟩ = some (.bool true) := (blk_cell HM1.out.bb 0).trans rfl
            have d2 : w1.cell? ⟨w0.heap.size + 1 + 1, 0, none⟩ = some (.string first) := (blk_cell HM1.out.bf 0).trans rfl
            go_wp2
            go_ret
            rw [HS.out]
            exact ⟨rfl, HM1.out, Kept.of_below HB.out _⟩
      | false =>
        by_cases h0 : f = 0
        · subst h0
          rw [if_neg (by simp)] at HS
          clear e5
          by_cases hk : k = n
          · subst hk
            rw [if_neg (by simp), if_pos rfl] at HS
            go_enter Tryd.func54, Tryd.ntmps54
            go_wp2_with fail
            refine HD.out.mono ?_
            rintro e w1 ⟨rfl, hb⟩
            have HM1 := Aside0.mk (HM.out.later hb)
            have HB := Aside0.mk hb
            clear hb
            have c0 : w1.cell? ⟨w0.heap.size + 1 + 1 + 1, 0, none⟩ = some (.bool true) := (blk_cell HM1.out.bs 0).trans rfl
            have d0 : w1.cell? ⟨w0.heap.size, 0, none⟩ = some (.int .u64 k) := (blk_cell HM1.out.bn 0).trans rfl
            have d1 : w1.cell? ⟨w0.heap.size + 1, 0, none⟩ = some (.bool false) := (blk_cell HM1.out.bb 0).trans rfl
            have d2 : w1.cell? ⟨w0.heap.size + 1 + 1, 0, none⟩ = some (.string first) := (blk_cell HM1.out.bf 0).trans rfl
            go_wp2
            go_ret
            rw [HS.out]
            exact ⟨rfl, HM1.out, Kept.of_below HB.out _⟩
          · have ek : (k == n) = false := beq_eq_false_iff_ne.2 hk
            have ek2 : (k != n) = true := by simp [hk]
            rw [if_pos hk] at HS
            clear hk
            go_enter Tryd.func54, Tryd.ntmps54
            go_wp2_with fail
            refine HD.out.mono ?_
            rintro e w1 ⟨rfl, hb⟩
            have HM1 := Aside0.mk (HM.out.later hb)
            have HB := Aside0.mk hb
            clear hb
            have c0 : w1.cell? ⟨w0.heap.size + 1 + 1 + 1, 0, none⟩ = some (.bool true) := (blk_cell HM1.out.bs 0).trans rfl
            have d0 : w1.cell? ⟨w0.heap.size, 0, none⟩ = some (.int .u64 n) := (blk_cell HM1.out.bn 0).trans rfl
            have d1 : w1.cell? ⟨w0.heap.size + 1, 0, none⟩ = some (.bool false) := (blk_cell HM1.out.bb 0).trans rfl
            have d2 : w1.cell? ⟨w0.heap.size + 1 + 1, 0, none⟩ = some (.string first) := (blk_cell HM1.out.bf 0).trans rfl
            go_wp2
            go_ret
            rw [HS.out]
            exact ⟨rfl, HM1.out, Kept.of_below HB.out _⟩
        · have ef : (f == 0) = false := beq_eq_false_iff_ne.2 h0
          have ef2 : (f != 0) = true := by simp [h0]
          have ed : decide (f = 0) = false := decide_eq_false h0
          rw [ed] at HS
          clear h0 ed
          rw [if_pos (by decide)] at HS
          go_enter Tryd.func54, Tryd.ntmps54
          go_wp2_with fail
          refine HD.out.mono ?_
          rintro e w1 ⟨rfl, hb⟩
          have HM1 := Aside0.mk (HM.out.later hb)
          have HB := Aside0.mk hb
          clear hb
          have c0 : w1.cell? ⟨w0.heap.size + 1 + 1 + 1, 0, none⟩ = some (.bool true) := (blk_cell HM1.out.bs 0).trans rfl
          have d0 : w1.cell? ⟨w0.heap.size, 0, none⟩ = some (.int .u64 n) := (blk_cell HM1.out.bn 0).trans rfl
          have d1 : w1.cell? ⟨w0.heap.size + 1, 0, none⟩ = some (.bool false) := (blk_cell HM1.out.bb 0).trans rfl
          have d2 : w1.cell? ⟨w0.heap.size + 1 + 1, 0, none⟩ = some (.string first) := (blk_cell HM1.out.bf 0).trans rfl
          go_wp2
          go_ret
          rw [HS.out]
          exact ⟨rfl, HM1.out, Kept.of_below HB.out _⟩
set_option maxRecDepth 100000 in
set_option maxHeartbeats 2000000 in
theorem frame_length.calls (A0 : Option Addr) (c0 : Nat) (l0 : List ByteArray) (r1 : Int) (r2 : Bool) (r3 : Int) (w : World) (hr0 : Kd.C Kd.string w A0 l0.length l0) (hc0 : l0.length ≤ c0) (h : frame_length.f l0 = some (r1, r2, r3)) :
    Calls Tryd.prog 40 #[.slice A0 l0.length c0] w fun e w' => e = .returned (.tuple #[.int .u64 r1, .bool r2, .int .i64 r3]) ∧ Below w.heap.size w w' := by
  unfold frame_length.f at h
  split at h
  · rename_i hs
    have HR := Aside0.mk (Option.some.inj h)
    have hmf : ∀ (fn : Fn) (first cap : Array Value) (w : World), (Instr.makeFunc fn first cap).run Tryd.prog w = .ok (.func fn first cap) w := fun _ _ _ _ => rfl
    have z : ∀ (W : World) (o : Obj), (W.alloc o).heap.size = W.heap.size + 1 := fun W o => by simp
    have b0 := blk_new w (.cells #[.int .u64 0] 25 (0, 0))
    have b1 := blk_new (w.alloc (.cells #[.int .u64 0] 25 (0, 0))) (.cells #[.bool false] 4 (0, 0))
    have b2 := blk_new ((w.alloc (.cells #[.int .u64 0] 25 (0, 0))).alloc (.cells #[.bool false] 4 (0, 0))) (.cells #[.string ⟨#[]⟩] 9 (0, 0))
    have b3 := blk_new (((w.alloc (.cells #[.int .u64 0] 25 (0, 0))).alloc (.cells #[.bool false] 4 (0, 0))).alloc (.cells #[.string ⟨#[]⟩] 9 (0, 0))) (.cells #[.bool false] 4 (0, 0))
    rw [z] at b1
    rw [z, z] at b2
    rw [z, z, z] at b3
    have hM : LnMem w ln0 ((((w.alloc (.cells #[.int .u64 0] 25 (0, 0))).alloc (.cells #[.bool false] 4 (0, 0))).alloc (.cells #[.string ⟨#[]⟩] 9 (0, 0))).alloc (.cells #[.bool false] 4 (0, 0))) :=
      ⟨blk_alloc (blk_alloc (blk_alloc b0 _) _) _, blk_alloc (blk_alloc b1 _) _, blk_alloc b2 _, b3, below_alloc (below_alloc (below_alloc (below_alloc (Below.refl _ w) _) _) _) _⟩
    have hE := frameElements w (w.heap.size + 4) A0 c0 l0 hr0 54 #[.pointer (some ⟨w.heap.size + 1 + 1 + 1, 0, none⟩), .pointer (some ⟨w.heap.size, 0, none⟩), .pointer (some ⟨w.heap.size + 1 + 1, 0, none⟩), .pointer (some ⟨w.heap.size + 1, 0, none⟩)] (enters_of Tryd.func54 (by kernel_rfl) rfl) lenStep (LnS w) (LnMem w)
      (fun k hk => hk.2) (fun st W W1 hI hb => hI.later hb) (fun st W hI => ⟨hI.below, by have := blk_lt hI.bs; omega⟩)
      (fun st x W hx hI => lengthClosure w st x W (Nat.le_trans (elsB_size hx) hs) hI) hs ln0 _ hM
    have HE := Aside0.mk hE
    unfold lengthB at HR
    clear h hs hr0 hc0 hE hM b0 b1 b2 b3 z
    generalize foldE lenStep ln0 (elsB l0) = q at HR HE
    obtain ⟨e0, st⟩ := q
    dsimp only at HR HE
    obtain ⟨n, first, big, said⟩ := st
    dsimp only at HR
    cases said with
    | true =>
      rw [if_pos rfl] at HR
      go_enter Tryd.func40, Tryd.ntmps40
      go_wp2_with fail
      refine HE.out.mono ?_
      rintro e w1 ⟨rfl, hI⟩
      have c0 : w1.cell? ⟨w.heap.size + 1 + 1 + 1, 0, none⟩ = some (.bool true) := (blk_cell hI.bs 0).trans rfl
      have d0 : w1.cell? ⟨w.heap.size, 0, none⟩ = some (.int .u64 n) := (blk_cell hI.bn 0).trans rfl
      have d1 : w1.cell? ⟨w.heap.size + 1, 0, none⟩ = some (.bool big) := (blk_cell hI.bb 0).trans rfl
      have f0 := blk_frozen hI.bn 0
      have f1 := blk_frozen hI.bb 0
      have HI := Aside0.mk hI
      clear hI
      have HAB := Aside0.mk (show (⟨w.heap.size, 0, none⟩ : Addr) ≠ ⟨w.heap.size + 1, 0, none⟩ from fun e => by injection e with e; omega)
      have HBA := Aside0.mk (show (⟨w.heap.size + 1, 0, none⟩ : Addr) ≠ ⟨w.heap.size, 0, none⟩ from fun e => by injection e with e; omega)
      have HS0 := Aside0.mk (World.cell?_setCell_same w1 ⟨w.heap.size, 0, none⟩ (.int .u64 n) d0)
      have HS1 := Aside0.mk (World.cell?_setCell_same w1 ⟨w.heap.size + 1, 0, none⟩ (.bool big) d1)
      have HS2 := Aside0.mk (World.cell?_setCell_same (w1.setCell ⟨w.heap.size, 0, none⟩ (.int .u64 n)) ⟨w.heap.size + 1, 0, none⟩ (.bool big) ((World.cell?_setCell_other w1 ⟨w.heap.size, 0, none⟩ ⟨w.heap.size + 1, 0, none⟩ _ HAB.out).trans d1))
      have HS3 := Aside0.mk (World.cell?_setCell_same (w1.setCell ⟨w.heap.size + 1, 0, none⟩ (.bool big)) ⟨w.heap.size, 0, none⟩ (.int .u64 n) ((World.cell?_setCell_other w1 ⟨w.heap.size + 1, 0, none⟩ ⟨w.heap.size, 0, none⟩ _ HBA.out).trans d0))
      go_wp2
      go_region_law (fail)
      go_wp2
      all_goals
        refine bodyPost_ret (v := .tuple #[.int .u64 n, .bool big, .int .i64 e0]) ?_ rfl ?_
        · simp [results, Tryd.results40, go_sem, HS0.out, HS1.out, HS2.out, HS3.out]
        · obtain ⟨rfl, h⟩ := Prod.mk.inj HR.out
          obtain ⟨rfl, rfl⟩ := Prod.mk.inj h
          exact ⟨rfl, below_drew1 ((HI.out.below.setCell (by first | exact Nat.le_refl _ | exact Nat.le_succ _) _).setCell (by first | exact Nat.le_refl _ | exact Nat.le_succ _) _)⟩
    | false =>
      rw [if_neg (by decide)] at HR
      go_enter Tryd.func40, Tryd.ntmps40
      go_wp2_with fail
      refine HE.out.mono ?_
      rintro e w1 ⟨rfl, hI⟩
      have c0 : w1.cell? ⟨w.heap.size + 1 + 1 + 1, 0, none⟩ = some (.bool false) := (blk_cell hI.bs 0).trans rfl
      have d0 : w1.cell? ⟨w.heap.size, 0, none⟩ = some (.int .u64 n) := (blk_cell hI.bn 0).trans rfl
      have d1 : w1.cell? ⟨w.heap.size + 1, 0, none⟩ = some (.bool big) := (blk_cell hI.bb 0).trans rfl
      have f0 := blk_frozen hI.bn 0
      have f1 := blk_frozen hI.bb 0
      have HI := Aside0.mk hI
      clear hI
      have HAB := Aside0.mk (show (⟨w.heap.size, 0, none⟩ : Addr) ≠ ⟨w.heap.size + 1, 0, none⟩ from fun e => by injection e with e; omega)
      have HBA := Aside0.mk (show (⟨w.heap.size + 1, 0, none⟩ : Addr) ≠ ⟨w.heap.size, 0, none⟩ from fun e => by injection e with e; omega)
      have HS0 := Aside0.mk (World.cell?_setCell_same w1 ⟨w.heap.size, 0, none⟩ (.int .u64 n) d0)
      have HS1 := Aside0.mk (World.cell?_setCell_same w1 ⟨w.heap.size + 1, 0, none⟩ (.bool big) d1)
      have HS2 := Aside0.mk (World.cell?_setCell_same (w1.setCell ⟨w.heap.size, 0, none⟩ (.int .u64 n)) ⟨w.heap.size + 1, 0, none⟩ (.bool big) ((World.cell?_setCell_other w1 ⟨w.heap.size, 0, none⟩ ⟨w.heap.size + 1, 0, none⟩ _ HAB.out).trans d1))
      have HS3 := Aside0.mk (World.cell?_setCell_same (w1.setCell ⟨w.heap.size + 1, 0, none⟩ (.bool big)) ⟨w.heap.size, 0, none⟩ (.int .u64 n) ((World.cell?_setCell_other w1 ⟨w.heap.size + 1, 0, none⟩ ⟨w.heap.size, 0, none⟩ _ HBA.out).trans d0))
      go_wp2
      go_region_law (fail)
      go_wp2
      all_goals
        refine bodyPost_ret (v := .tuple #[.int .u64 n, .bool big, .int .i64 22]) ?_ rfl ?_
        · simp [results, Tryd.results40, go_sem, HS0.out, HS1.out, HS2.out, HS3.out]
        · obtain ⟨rfl, h⟩ := Prod.mk.inj HR.out
          obtain ⟨rfl, rfl⟩ := Prod.mk.inj h
          exact ⟨rfl, below_drew1 ((HI.out.below.setCell (by first | exact Nat.le_refl _ | exact Nat.le_succ _) _).setCell (by first | exact Nat.le_refl _ | exact Nat.le_succ _) _)⟩
  · exact absurd h (by simp)
end Go.Proofs.YtcamdfjjdigaeaaDoor.P
