/- slices.DeleteFunc over texts, on a row of the call's own, for every predicate. -/
import Derived.Test.YtegdblnalpfndaaDoorFStrsI
import Derived.Test.YtegdblnalpfndaaDoorFDeleteF
import Derived.Lib.SliceRun
set_option linter.unusedVariables false
set_option linter.unusedSimpArgs false
namespace Go.Proofs.YtegdblnalpfndaaDoor.P
open Go.RowKit Go.Proofs.YtegdblnalpfndaaDoorW.PrintWords Go.Proofs.YtegdblnalpfndaaDoorW.PrintLast Go.Proofs.YtegdblnalpfndaaDoorW.PrintMore

/-- Block g is a row of texts: cur stands first in it. -/
def RowS (g cap : Nat) (cur : List ByteArray) (w : World) : Prop := ∃ cs : Array Value, w.heap[g]? = some (.cells cs 9 (0, 0)) ∧ cs.size = cap ∧ cur.length ≤ cap ∧ cap ≤ maxLen ∧ cs.toList.take cur.length = cur.map Value.string
theorem RowS.same {g cap : Nat} {cur : List ByteArray} {w w' : World} (h : RowS g cap cur w) (he : w'.heap[g]? = w.heap[g]?) : RowS g cap cur w' := by
  obtain ⟨cs, h1, h2⟩ := h
  exact ⟨cs, he.trans h1, h2⟩
theorem RowS.lt {g cap : Nat} {cur : List ByteArray} {w : World} (h : RowS g cap cur w) : g < w.heap.size := by
  obtain ⟨cs, h1, _⟩ := h
  exact blk_lt h1
theorem RowS.at {g cap : Nat} {cur : List ByteArray} {w : World} (h : RowS g cap cur w) (k : Nat) (hk : k < cur.length) : w.cell? ⟨g, k, none⟩ = some (.string (cur.getD k ByteArray.empty)) := by
  obtain ⟨cs, h1, h2, h3, h4, h5⟩ := h
  have c0 : (cur.map Value.string)[k]? = some (.string (cur.getD k ByteArray.empty)) := by
    rw [List.getElem?_map, List.getElem?_eq_getElem hk, List.getD_eq_getElem?_getD, List.getElem?_eq_getElem hk]; rfl
  rw [← h5, List.getElem?_take, if_pos hk, Array.getElem?_toList] at c0
  exact (blk_cell h1 _).trans c0
theorem RowS.free {g cap : Nat} {cur : List ByteArray} {w : World} (h : RowS g cap cur w) (k : Nat) : w.frozen? ⟨g, k, none⟩ = false := by
  obtain ⟨cs, h1, _⟩ := h
  exact blk_frozen h1 k
theorem RowS.cells {g cap : Nat} {cur : List ByteArray} {w : World} (h : RowS g cap cur w) (k : Nat) (hk : k < cap) : (w.cell? ⟨g, k, none⟩).isSome = true := by
  obtain ⟨cs, h1, h2, _⟩ := h
  rw [blk_cell h1, Array.getElem?_eq_getElem (by omega)]; rfl
theorem RowS.set {g cap : Nat} {cur : List ByteArray} {w : World} (h : RowS g cap cur w) (k : Nat) (x : ByteArray) : RowS g cap (cur.set k x) (w.setCell ⟨g, k, none⟩ (.string x)) := by
  obtain ⟨cs, h1, h2, h3, h4, h5⟩ := h
  refine ⟨_, blk_set h1 _ _, by simpa using h2, by simpa using h3, h4, ?_⟩
  rw [List.length_set, List.map_set, ← h5]
  simp only [Array.toList_setIfInBounds, List.take_set]
theorem RowS.R {g cap base : Nat} {cur : List ByteArray} {w : World} (h : RowS g cap cur w) (hb : base ≤ g) (n : Nat) (hn : n ≤ cur.length) : Kd.R Kd.string 9 w base (fun _ => True) (.slice (some ⟨g, 0, none⟩) n cap) (cur.take n) := by
  obtain ⟨cs, h1, h2, h3, h4, h5⟩ := h
  have hl : (cur.take n).length = n := by rw [List.length_take]; omega
  refine Kd.R_of_own ?_ (fun _ _ => trivial)
  refine ⟨by rw [encs_length, Nat.mul_one], .inr ⟨g, cap, cs, by rw [hl], hb, h1, by rw [hl]; omega, h4, by rw [Nat.mul_one]; exact h2, ?_⟩⟩
  rw [hl, Nat.mul_one]
  show cs.toList.take n = (cur.take n).map Value.string
  rw [List.map_take, ← h5, List.take_take, Nat.min_eq_left (by omega)]
theorem RowS.of_R {base : Nat} {ok : Nat → Prop} {l : List ByteArray} {v : Value} {w : World} (h : Kd.R Kd.string 9 w base ok v l) : (v = .slice none 0 0 ∧ l = []) ∨ ∃ g cap, v = .slice (some ⟨g, 0, none⟩) l.length cap ∧ base ≤ g ∧ RowS g cap l w := by
  obtain ⟨hlen, ho⟩ := Kd.own_of_R h
  rcases ho with ⟨rfl, hz⟩ | ⟨g, cap, cur, rfl, hb, hh, h1, h2, h3, h4⟩
  · exact .inl ⟨rfl, List.eq_nil_of_length_eq_zero hz⟩
  · rw [Nat.mul_one] at h3 h4
    exact .inr ⟨g, cap, rfl, hb, cur, hh, h3, h1, h2, h4⟩
theorem RowS.cut {g cap i : Nat} {cur : List ByteArray} {w : World} (h : RowS g cap cur w) (hi : i ≤ cur.length) (vs : List Value) : RowS g cap (cur.take i) (w.setCells g i vs) := by
  obtain ⟨cs, h1, h2, h3, h4, h5⟩ := h
  obtain ⟨cs', g1, g2, g3⟩ := setCells_heap g 9 vs i w cs h1
  have hl : (cur.take i).length = i := by rw [List.length_take]; omega
  refine ⟨cs', g1, by rw [g2, h2], by omega, h4, ?_⟩
  rw [hl, List.map_take, ← h5, List.take_take, Nat.min_eq_left (by omega)]
  apply List.ext_getElem?
  intro j
  rw [List.getElem?_take, List.getElem?_take]
  split
  · rw [Array.getElem?_toList, Array.getElem?_toList, g3 j (by omega)]
  · rfl
theorem run_clearS (w : World) (g cap i n c : Nat) (cur : List ByteArray) (hn : 0 < n) (h : RowS g cap cur w) (hi : i + n ≤ cap) :
    ∃ vs, ∀ ty, (Builtin.clear_ #[25] ty #[.slice (some ⟨g, i, none⟩) n c]).run Tryd.prog w = .ok (.tuple #[]) (w.setCells g i vs) := by
  have hv : (zeroValue 9).run Tryd.prog w = .ok (.string ⟨#[]⟩) w := by kernel_rfl
  refine ⟨(Builtin.zeroCells (Value.string ⟨#[]⟩).cells n).toList, fun ty => ?_⟩
  have hone : ∀ v ∈ (Builtin.zeroCells (Value.string ⟨#[]⟩).cells n).toList, v.oneCell' = true := by
    intro v hv
    rw [Array.mem_toList_iff, Builtin.zeroCells, Array.mem_map] at hv
    obtain ⟨q, _, rfl⟩ := hv
    have h2 : q % (Value.string ⟨#[]⟩).cells.size < 1 := Nat.mod_lt _ (by decide)
    generalize q % (Value.string ⟨#[]⟩).cells.size = k at h2
    match k, h2 with
    | 0, _ => rfl
  have hlen : (Builtin.zeroCells (Value.string ⟨#[]⟩).cells n).toList.length = n := by
    simp [Builtin.zeroCells, Value.cells]
  have hst := run_storeCells_cells (P := Tryd.prog) g i _ 0 w (fun j hj => by rw [hlen] at hj; exact h.cells _ (by omega)) (fun j hj => h.free _) hone
  simp only [Nat.add_zero] at hst
  obtain ⟨m, rfl⟩ : ∃ m, n = m + 1 := ⟨n - 1, by omega⟩
  simp only [Builtin.clear_]
  simp [run_underlying Tryd.underlying25, hv, hst]

def keptS (p : ByteArray → Bool) (l : List ByteArray) : List ByteArray := l.filter fun x => !p x
/-- Behind j places: i were kept; they stand first; from j on all is as it was. -/
def KeptToS (p : ByteArray → Bool) (l cur : List ByteArray) (i j : Nat) : Prop := i < j ∧ j ≤ l.length ∧ cur.length = l.length ∧ cur.take i = keptS p (l.take j) ∧ (keptS p (l.take j)).length = i ∧ ∀ k, j ≤ k → cur[k]? = l[k]?
theorem take_snocD (l : List ByteArray) (j : Nat) (h : j < l.length) : l.take (j + 1) = l.take j ++ [l.getD j ByteArray.empty] := by
  rw [List.take_succ_eq_append_getElem h, List.getD_eq_getElem?_getD, List.getElem?_eq_getElem h]; rfl
theorem keptS_none (p : ByteArray → Bool) (l : List ByteArray) (h : l.any p = false) : keptS p l = l := by
  unfold keptS
  rw [List.filter_eq_self]
  intro x hx
  rw [List.any_eq_false] at h
  have := h x hx
  simp [this]
theorem KeptToS.start {p : ByteArray → Bool} {l : List ByteArray} {k : Nat} (hk : k < l.length) (h0 : (l.take k).any p = false) (h1 : p (l.getD k ByteArray.empty) = true) : KeptToS p l l k (k + 1) := by
  have e : keptS p (l.take (k + 1)) = l.take k := by
    rw [take_snocD l k hk]
    unfold keptS
    rw [List.filter_append]
    have := keptS_none p _ h0
    unfold keptS at this
    rw [this]
    generalize l.getD k ByteArray.empty = y at h1
    simp [h1]
  refine ⟨by omega, by omega, rfl, e.symm, by rw [e, List.length_take]; omega, fun _ _ => rfl⟩
theorem KeptToS.skip {p : ByteArray → Bool} {l cur : List ByteArray} {i j : Nat} (h : KeptToS p l cur i j) (hj : j < l.length) (h1 : p (l.getD j ByteArray.empty) = true) : KeptToS p l cur i (j + 1) := by
  obtain ⟨a, b, c, d, e, f⟩ := h
  have g : keptS p (l.take (j + 1)) = keptS p (l.take j) := by
    rw [take_snocD l j hj]
    unfold keptS
    rw [List.filter_append]
    generalize l.getD j ByteArray.empty = y at h1
    simp [h1]
  exact ⟨by omega, by omega, c, by rw [g]; exact d, by rw [g]; exact e, fun k hk => f k (by omega)⟩
theorem KeptToS.keep {p : ByteArray → Bool} {l cur : List ByteArray} {i j : Nat} (h : KeptToS p l cur i j) (hj : j < l.length) (h1 : p (l.getD j ByteArray.empty) = false) : KeptToS p l (cur.set i (l.getD j ByteArray.empty)) (i + 1) (j + 1) := by
  obtain ⟨a, b, c, d, e, f⟩ := h
  have g : keptS p (l.take (j + 1)) = keptS p (l.take j) ++ [l.getD j ByteArray.empty] := by
    rw [take_snocD l j hj]
    unfold keptS
    rw [List.filter_append]
    generalize l.getD j ByteArray.empty = y at h1
    simp [h1]
  refine ⟨by omega, by omega, by rw [List.length_set]; exact c, ?_, by rw [g, List.length_append, e]; rfl, fun k hk => ?_⟩
  · rw [g, ← d, List.take_set, List.take_succ_eq_append_getElem (by omega), List.set_append_right _ _ (by rw [List.length_take]; omega)]
    rw [show i - (cur.take i).length = 0 by rw [List.length_take]; omega]
    rfl
  · rw [List.getElem?_set_ne (by omega)]
    exact f k (by omega)

set_option maxHeartbeats 2000000 in
theorem deleteStrs (g0 cap : Nat) (l : List ByteArray) (g : Nat) (lb : Array Value) (eg : ∀ args w, (callFunc g args).run Tryd.prog w = .ok (.enter g args) w) (p : ByteArray → Bool) (w : World)
    (hr : RowS g0 cap l w) (hp : ∀ (W : World) (x : ByteArray), x ∈ l → KBut w W g0 → Calls Tryd.prog g (#[.string x] ++ lb) W fun e w' => e = .returned (.bool (p x)) ∧ Below W.heap.size W w') :
    Calls Tryd.prog 27 #[.slice (some ⟨g0, 0, none⟩) l.length cap, .func (.func g) #[] lb] w fun e w' => e = .returned (.slice (some ⟨g0, 0, none⟩) (keptS p l).length cap) ∧ RowS g0 cap (keptS p l) w' ∧ KBut w w' g0 := by
  have hm : cap ≤ maxLen := by obtain ⟨_, _, _, _, h, _⟩ := hr; exact h
  have hlc : l.length ≤ cap := by obtain ⟨_, _, _, h, _⟩ := hr; exact h
  unfold maxLen at hm
  have hC : Kd.C Kd.string w (some ⟨g0, 0, none⟩) l.length l := by
    have h := hr.R (Nat.zero_le _) l.length (Nat.le_refl _)
    rw [List.take_length] at h
    exact (Kd.R_reads' h).2.2
  have hix := indexStrs (some ⟨g0, 0, none⟩) cap l g lb eg p w hC (fun W x hx hb => hp W x hx (.of_below hb g0))
  have HIX := Aside0.mk hix
  have HP := Aside0.mk hp
  have HR := Aside0.mk hr
  clear hix hC hp hr
  go_enter Tryd.func27, Tryd.ntmps27
  go_wp2_with fail
  refine HIX.out.mono ?_
  rintro e w1 ⟨i0, rfl, hi, hb1⟩
  have HR1 := Aside0.mk (HR.out.same (hb1.block g0 HR.out.lt))
  have HK1 := Aside0.mk (KBut.of_below hb1 g0)
  clear hb1
  rcases hi.out with ⟨rfl, hnone⟩ | ⟨k, rfl, hk, hn, hy⟩
  · have HN := Aside0.mk (keptS_none p l hnone)
    clear hi hnone
    go_wp2
    go_ret
    rw [HN.out]
    exact ⟨rfl, HR1.out, HK1.out⟩
  · have HS := Aside0.mk (KeptToS.start hk hn hy)
    clear hi hn hy
    have hne : ((k : Int) == -1) = false := beq_eq_false_iff_ne.2 (by omega)
    go_wp2
    go_loopg [5, 6] l.length (fun gg s5 s6 wr => ∃ (i j : Nat) (cur : List ByteArray), s5 = .int .i64 i ∧ s6 = .int .i64 j ∧ j ≤ l.length ∧ i < j ∧ l.length - j ≤ gg ∧ Aside0 (KeptToS p l cur i j) ∧ Aside0 (RowS g0 cap cur wr) ∧ Aside0 (KBut w wr g0))
    case atStart => exact ⟨k, k + 1, l, rfl, by go_num, by omega, by omega, by omega, HS, HR1, HK1⟩
    case round =>
      clear HS HR1 HK1 hne
      obtain ⟨i, j, cur, rfl, rfl, hjl, hij, hg, HT, HC, HK⟩ := hrel
      by_cases hlt : j < l.length
      · have hltz : (j : Int) < (l.length : Int) := by omega
        have hcl : j < cur.length := by rw [HT.out.2.2.1]; exact hlt
        have l2 := HC.out.at j hcl
        have hcj : cur.getD j ByteArray.empty = l.getD j ByteArray.empty := by rw [List.getD_eq_getElem?_getD, List.getD_eq_getElem?_getD, HT.out.2.2.2.2.2 j (Nat.le_refl _)]
        rw [hcj] at l2
        have hmem : l.getD j ByteArray.empty ∈ l := by rw [List.getD_eq_getElem?_getD, List.getElem?_eq_getElem hlt]; exact List.getElem_mem hlt
        have HSK := Aside0.mk (HT.out.skip hlt)
        have HKP := Aside0.mk (HT.out.keep hlt)
        clear hcj
        have hcall := HP.out wr _ hmem HK.out
        generalize l.getD j ByteArray.empty = y at l2 hmem HSK HKP hcall
        cases hq : p y with
        | true =>
          rw [hq] at hcall
          have HS' := Aside0.mk (HSK.out hq)
          have HCL := Aside0.mk hcall
          clear hq hcall HSK HKP
          go_wp2_with fail
          refine HCL.out.mono ?_
          rintro e w2 ⟨rfl, hb⟩
          have HK2 := Aside0.mk (HK.out.step hb)
          have HR2 := Aside0.mk (HC.out.same (hb.block g0 HC.out.lt))
          clear hb
          go_wp2
          go_roundg (l.length - (j + 1))
          case measure => omega
          case rel => exact ⟨i, j + 1, cur, rfl, by go_num, by omega, by omega, by omega, HS', HR2, HK2⟩
        | false =>
          rw [hq] at hcall
          have HS' := Aside0.mk (HKP.out hq)
          have HCL := Aside0.mk hcall
          clear hq hcall HSK HKP
          go_wp2_with fail
          refine HCL.out.mono ?_
          rintro e w2 ⟨rfl, hb⟩
          have HK2 := Aside0.mk (HK.out.step hb)
          have HR2 := Aside0.mk (HC.out.same (hb.block g0 HC.out.lt))
          have ci0 := HR2.out.at i (by omega)
          have fi0 := HR2.out.free i
          have HSet := Aside0.mk (HR2.out.set i y)
          generalize cur.getD i ByteArray.empty = old at ci0
          clear hb l2
          go_wp2
          go_roundg (l.length - (j + 1))
          case measure => omega
          case rel => exact ⟨i + 1, j + 1, cur.set i y, by go_num, by go_num, by omega, by omega, by omega, HS', HSet, ⟨HK2.out.set _ _⟩⟩
      · obtain rfl : j = l.length := by omega
        have hltz : ¬ (l.length : Int) < (l.length : Int) := by omega
        have hcl : i ≤ cur.length := by have := HT.out.2.2.1; omega
        obtain ⟨vs, hclr⟩ := run_clearS wr g0 cap i (l.length - i) (cap - i) cur (by omega) HC.out (by omega)
        have HCut := Aside0.mk (HC.out.cut hcl vs)
        have HK2 := Aside0.mk (KBut.setCells vs i wr HK.out)
        have HL := Aside0.mk (by have := HT.out; rw [KeptToS, List.take_length] at this; exact this)
        clear HC hcl
        go_wp2
        go_ret
        obtain ⟨_, _, _, ht, hlen, _⟩ := HL.out
        refine ⟨by rw [hlen]; rfl, ?_, HK2.out⟩
        rw [← ht]; exact HCut.out

set_option maxHeartbeats 1000000 in
theorem deleteNoneS (g : Nat) (lb : Array Value) (eg : ∀ args w, (callFunc g args).run Tryd.prog w = .ok (.enter g args) w) (w : World) :
    Calls Tryd.prog 27 #[.slice none 0 0, .func (.func g) #[] lb] w fun e w' => e = .returned (.slice none 0 0) ∧ Below w.heap.size w w' := by
  have HIX := Aside0.mk (indexStrs none 0 [] g lb eg (fun _ => false) w ⟨rfl, by simp, fun h => by simp at h⟩ (fun W x hx _ => by cases hx))
  go_enter Tryd.func27, Tryd.ntmps27
  go_wp2_with fail
  refine HIX.out.mono ?_
  rintro e w1 ⟨i0, rfl, hi, hb1⟩
  rcases hi.out with ⟨rfl, _⟩ | ⟨k, _, hk, _⟩
  · clear hi
    go_wp2
    go_ret
    exact ⟨rfl, hb1⟩
  · exact absurd hk (by simp)
end Go.Proofs.YtegdblnalpfndaaDoor.P
