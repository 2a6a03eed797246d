/- slices.DeleteFunc over fields, on a row of the call's own, for every predicate. -/
import Derived.Test.YtepljhleaohbcaaGreatDoorFFieldsI
import Derived.Lib.SliceRun
set_option linter.unusedVariables false
set_option linter.unusedSimpArgs false
namespace Go.Proofs.YtepljhleaohbcaaGreatDoor.P
open Go.RowKit Go.Proofs.YtepljhleaohbcaaGreatDoorW.PrintWords Go.Proofs.YtepljhleaohbcaaGreatDoorW.PrintLast Go.Proofs.YtepljhleaohbcaaGreatDoorW.PrintMore

def cellsF : List S48 → List Value
  | [] => []
  | x :: r => .string x.f0 :: .string x.f1 :: cellsF r
theorem cellsF_length (l : List S48) : (cellsF l).length = l.length * 2 := by
  induction l with
  | nil => rfl
  | cons x r ih => simp only [cellsF, List.length_cons, ih]; omega
theorem cellsF_append (l m : List S48) : cellsF (l ++ m) = cellsF l ++ cellsF m := by
  induction l with
  | nil => rfl
  | cons x r ih => simp only [List.cons_append, cellsF, ih]
theorem cellsF_take (l : List S48) (k : Nat) : (cellsF l).take (k * 2) = cellsF (l.take k) := by
  induction l generalizing k with
  | nil => simp [cellsF]
  | cons x r ih =>
    cases k with
    | zero => simp [cellsF]
    | succ k => simp only [cellsF, List.take_succ_cons, show (k + 1) * 2 = k * 2 + 1 + 1 by omega, ih]
theorem cellsF_at (l : List S48) (k : Nat) (h : k < l.length) : (cellsF l)[k * 2]? = some (.string (l.getD k z48).f0) ∧ (cellsF l)[k * 2 + 1]? = some (.string (l.getD k z48).f1) := by
  induction l generalizing k with
  | nil => simp at h
  | cons x r ih =>
    cases k with
    | zero => exact ⟨rfl, rfl⟩
    | succ k =>
      have := ih k (by simpa using h)
      simpa only [cellsF, show (k + 1) * 2 = k * 2 + 1 + 1 by omega, List.getElem?_cons_succ, List.getD_cons_succ] using this
theorem cellsF_set (l : List S48) (k : Nat) (x : S48) (h : k < l.length) : ((cellsF l).set (k * 2) (.string x.f0)).set (k * 2 + 1) (.string x.f1) = cellsF (l.set k x) := by
  induction l generalizing k with
  | nil => simp at h
  | cons y r ih =>
    cases k with
    | zero => rfl
    | succ k =>
      have := ih k (by simpa using h)
      simp only [cellsF, show (k + 1) * 2 = k * 2 + 1 + 1 by omega, List.set_cons_succ, this]
theorem cellsF_inj_len {l : List S48} : Reps (fun x c => c = [Value.string x.f0, Value.string x.f1]) 2 l (cellsF l) := by
  refine ⟨cellsF_length l, fun j p hj => ?_⟩
  have hjl := (List.getElem?_eq_some_iff.1 hj).1
  obtain ⟨h0, h1⟩ := cellsF_at l j hjl
  have hp : l.getD j z48 = p := by rw [List.getD_eq_getElem?_getD, hj]; rfl
  rw [hp] at h0 h1
  have hl : j * 2 + 1 < (cellsF l).length := by rw [cellsF_length]; omega
  apply List.ext_getElem?
  intro i
  rw [List.getElem?_take]
  split
  · rename_i hi
    rw [List.getElem?_drop]
    match i, hi with
    | 0, _ => simpa using h0
    | 1, _ => simpa using h1
  · rename_i hi
    rw [List.getElem?_eq_none]; simp; omega

/-- Block g is a row of fields: cur stands first in it. -/
def RowF (g cap : Nat) (cur : List S48) (w : World) : Prop := ∃ cs : Array Value, w.heap[g]? = some (.cells cs 48 (0, 0)) ∧ cs.size = cap * 2 ∧ cur.length ≤ cap ∧ cap ≤ maxLen ∧ cs.toList.take (cur.length * 2) = cellsF cur
theorem RowF.same {g cap : Nat} {cur : List S48} {w w' : World} (h : RowF g cap cur w) (he : w'.heap[g]? = w.heap[g]?) : RowF g cap cur w' := by
  obtain ⟨cs, h1, h2⟩ := h
  exact ⟨cs, he.trans h1, h2⟩
theorem RowF.lt {g cap : Nat} {cur : List S48} {w : World} (h : RowF g cap cur w) : g < w.heap.size := by
  obtain ⟨cs, h1, _⟩ := h
  exact blk_lt h1
theorem RowF.at {g cap : Nat} {cur : List S48} {w : World} (h : RowF g cap cur w) (k : Nat) (hk : k < cur.length) : w.cell? ⟨g, k * 2, none⟩ = some (.string (cur.getD k z48).f0) ∧ w.cell? ⟨g, k * 2 + 1, none⟩ = some (.string (cur.getD k z48).f1) := by
  obtain ⟨cs, h1, h2, h3, h4, h5⟩ := h
  obtain ⟨c0, c1⟩ := cellsF_at cur k hk
  rw [← h5, List.getElem?_take] at c0 c1
  rw [if_pos (by omega), Array.getElem?_toList] at c0 c1
  exact ⟨(blk_cell h1 _).trans c0, (blk_cell h1 _).trans c1⟩
theorem RowF.free {g cap : Nat} {cur : List S48} {w : World} (h : RowF g cap cur w) (k : Nat) : w.frozen? ⟨g, k, none⟩ = false := by
  obtain ⟨cs, h1, _⟩ := h
  exact blk_frozen h1 k
theorem RowF.cells {g cap : Nat} {cur : List S48} {w : World} (h : RowF g cap cur w) (k : Nat) (hk : k < cap * 2) : (w.cell? ⟨g, k, none⟩).isSome = true := by
  obtain ⟨cs, h1, h2, _⟩ := h
  rw [blk_cell h1, Array.getElem?_eq_getElem (by omega)]; rfl
theorem RowF.set {g cap : Nat} {cur : List S48} {w : World} (h : RowF g cap cur w) (k : Nat) (hk : k < cur.length) (x : S48) : RowF g cap (cur.set k x) ((w.setCell ⟨g, k * 2, none⟩ (.string x.f0)).setCell ⟨g, k * 2 + 1, none⟩ (.string x.f1)) := by
  obtain ⟨cs, h1, h2, h3, h4, h5⟩ := h
  refine ⟨_, blk_set (blk_set h1 _ _) _ _, by simpa using h2, by simpa using h3, h4, ?_⟩
  rw [List.length_set, ← cellsF_set cur k x hk, ← h5]
  simp only [Array.toList_setIfInBounds, List.take_set]
theorem RowF.R {g cap base : Nat} {cur : List S48} {w : World} (h : RowF g cap cur w) (hb : base ≤ g) (n : Nat) (hn : n ≤ cur.length) : Kd.R k48 48 w base (fun _ => True) (.slice (some ⟨g, 0, none⟩) n cap) (cur.take n) := by
  obtain ⟨cs, h1, h2, h3, h4, h5⟩ := h
  have hl : (cur.take n).length = n := by rw [List.length_take]; omega
  refine ⟨fun _ _ => trivial, cellsF (cur.take n), ⟨by rw [cellsF_length]; rfl, .inr ⟨g, cap, cs, by rw [hl], hb, h1, by rw [hl]; omega, h4, h2, ?_⟩⟩, ?_⟩
  · rw [hl, ← cellsF_take, ← h5]
    show cs.toList.take (n * 2) = _
    rw [List.take_take, Nat.min_eq_left (by omega)]
  · exact cellsF_inj_len.imp_ (fun p c hc => by rw [hc]; exact k48_mkM _ _ _ p)
theorem RowF.of_R {base : Nat} {ok : Nat → Prop} {l : List S48} {v : Value} {w : World} (h : Kd.R k48 48 w base ok v l) : (v = .slice none 0 0 ∧ l = []) ∨ ∃ g cap, v = .slice (some ⟨g, 0, none⟩) l.length cap ∧ base ≤ g ∧ RowF g cap l w := by
  obtain ⟨_, inner, ⟨hlen, ho⟩, hr⟩ := h
  have hin : inner = cellsF l := by
    have h2 : Reps (fun x c => c = [Value.string x.f0, Value.string x.f1]) 2 l inner := Reps.imp_ hr (R' := fun x c => c = [Value.string x.f0, Value.string x.f1]) (fun p c hc => k48_openM hc)
    apply List.ext_getElem?
    intro i
    have hl1 : inner.length = l.length * 2 := hr.1
    by_cases hi : i < l.length * 2
    · have hj : i / 2 < l.length := by omega
      have e1 := h2.2 (i / 2) _ (List.getElem?_eq_getElem hj)
      have e2 := cellsF_inj_len.2 (i / 2) _ (List.getElem?_eq_getElem hj)
      have e3 := congrArg (fun q => q[i % 2]?) (e1.trans e2.symm)
      simp only [List.getElem?_take, List.getElem?_drop] at e3
      rw [if_pos (by omega), if_pos (by omega), show i / 2 * 2 + i % 2 = i by omega] at e3
      exact e3
    · rw [List.getElem?_eq_none (by omega), List.getElem?_eq_none (by rw [cellsF_length]; omega)]
  subst hin
  rcases ho with ⟨rfl, hz⟩ | ⟨g, cap, cur, rfl, hb, hh, h1, h2, h3, h4⟩
  · exact .inl ⟨rfl, List.eq_nil_of_length_eq_zero hz⟩
  · exact .inr ⟨g, cap, rfl, hb, cur, hh, h3, h1, h2, h4⟩

/-- All that lay in w lies in w', but for block g. -/
structure KBut (w w' : World) (g : Nat) : Prop where
  os : w'.os = w.os
  tape : w'.tape = w.tape
  output : w'.output = w.output
  size : w.heap.size ≤ w'.heap.size
  block : ∀ i, i < w.heap.size → i ≠ g → w'.heap[i]? = w.heap[i]?
theorem KBut.refl (w : World) (g : Nat) : KBut w w g := ⟨rfl, rfl, rfl, Nat.le_refl _, fun _ _ _ => rfl⟩
theorem KBut.of_below {w w' : World} (h : Below w.heap.size w w') (g : Nat) : KBut w w' g := ⟨h.os, h.tape, h.output, h.size, fun i hi _ => h.block i hi⟩
theorem KBut.trans {w w1 w2 : World} {g : Nat} (h : KBut w w1 g) (k : KBut w1 w2 g) : KBut w w2 g := ⟨k.os.trans h.os, k.tape.trans h.tape, k.output.trans h.output, Nat.le_trans h.size k.size, fun i hi hg => (k.block i (Nat.lt_of_lt_of_le hi h.size) hg).trans (h.block i hi hg)⟩
theorem KBut.step {w w1 w2 : World} {g : Nat} (h : KBut w w1 g) (k : Below w1.heap.size w1 w2) : KBut w w2 g := h.trans (.of_below k g)
theorem KBut.set {w w1 : World} {g : Nat} (h : KBut w w1 g) (j : Nat) (v : Value) : KBut w (w1.setCell ⟨g, j, none⟩ v) g :=
  have hb := (Below.refl 0 w1).setCell (p := ⟨g, j, none⟩) (Nat.zero_le _) v
  h.trans ⟨hb.os, hb.tape, hb.output, hb.size, fun i _ hg => Below.heap_setCell w1 ⟨g, j, none⟩ v i hg⟩
theorem KBut.below {w w' : World} {g base : Nat} (h : KBut w w' g) (hb : base ≤ g) (hbw : base ≤ w.heap.size) : Below base w w' := ⟨h.os, h.tape, h.output, h.size, fun i hi => h.block i (Nat.lt_of_lt_of_le hi hbw) (by omega)⟩

theorem setCells_heap (g : Nat) (t : TypeId) : ∀ (vs : List Value) (o : Nat) (w : World) (cs : Array Value), w.heap[g]? = some (.cells cs t (0, 0)) → ∃ cs' : Array Value, (w.setCells g o vs).heap[g]? = some (.cells cs' t (0, 0)) ∧ cs'.size = cs.size ∧ ∀ i, i < o → cs'[i]? = cs[i]?
  | [], _, _, cs, h => ⟨cs, h, rfl, fun _ _ => rfl⟩
  | v :: r, o, w, cs, h => by
    obtain ⟨cs', h1, h2, h3⟩ := setCells_heap g t r (o + 1) (w.setCell ⟨g, o, none⟩ v) _ (blk_set h o v)
    refine ⟨cs', h1, by rw [h2]; simp, fun i hi => ?_⟩
    rw [h3 i (by omega), Array.getElem?_setIfInBounds_ne (by omega)]
theorem KBut.setCells {w : World} {g : Nat} : ∀ (vs : List Value) (o : Nat) (w1 : World), KBut w w1 g → KBut w (w1.setCells g o vs) g
  | [], _, _, h => h
  | v :: r, o, w1, h => KBut.setCells r (o + 1) _ (h.set o v)
theorem RowF.cut {g cap i : Nat} {cur : List S48} {w : World} (h : RowF g cap cur w) (hi : i ≤ cur.length) (vs : List Value) : RowF g cap (cur.take i) (w.setCells g (i * 2) vs) := by
  obtain ⟨cs, h1, h2, h3, h4, h5⟩ := h
  obtain ⟨cs', g1, g2, g3⟩ := setCells_heap g 48 vs (i * 2) w cs h1
  have hl : (cur.take i).length = i := by rw [List.length_take]; omega
  refine ⟨cs', g1, by rw [g2, h2], by omega, h4, ?_⟩
  rw [hl, ← cellsF_take, ← h5, List.take_take, Nat.min_eq_left (by omega)]
  apply List.ext_getElem?
  intro j
  rw [List.getElem?_take, List.getElem?_take]
  split
  · rw [Array.getElem?_toList, Array.getElem?_toList, g3 j (by omega)]
  · rfl
theorem run_clearF (w : World) (g cap i n c : Nat) (cur : List S48) (hn : 0 < n) (h : RowF g cap cur w) (hi : i + n ≤ cap) :
    ∃ vs, ∀ ty, (Builtin.clear_ #[33] ty #[.slice (some ⟨g, i * 2, none⟩) n c]).run Tryz.prog w = .ok (.tuple #[]) (w.setCells g (i * 2) vs) := by
  have hv : (zeroValue 48).run Tryz.prog w = .ok (.agg #[.string ⟨#[]⟩, .string ⟨#[]⟩]) w := by kernel_rfl
  refine ⟨(Builtin.zeroCells (Value.agg #[.string ⟨#[]⟩, .string ⟨#[]⟩]).cells n).toList, fun ty => ?_⟩
  have hone : ∀ v ∈ (Builtin.zeroCells (Value.agg #[.string ⟨#[]⟩, .string ⟨#[]⟩]).cells n).toList, v.oneCell' = true := by
    intro v hv
    rw [Array.mem_toList_iff, Builtin.zeroCells, Array.mem_map] at hv
    obtain ⟨q, _, rfl⟩ := hv
    have h2 : q % (Value.agg #[.string ⟨#[]⟩, .string ⟨#[]⟩]).cells.size < 2 := Nat.mod_lt _ (by decide)
    generalize q % (Value.agg #[.string ⟨#[]⟩, .string ⟨#[]⟩]).cells.size = k at h2
    match k, h2 with
    | 0, _ => rfl
    | 1, _ => rfl
  have hlen : (Builtin.zeroCells (Value.agg #[.string ⟨#[]⟩, .string ⟨#[]⟩]).cells n).toList.length = n * 2 := by
    simp [Builtin.zeroCells, Value.cells]
  have hst := run_storeCells_cells (P := Tryz.prog) g (i * 2) _ 0 w (fun j hj => by rw [hlen] at hj; exact h.cells _ (by omega)) (fun j hj => h.free _) hone
  simp only [Nat.add_zero] at hst
  obtain ⟨m, rfl⟩ : ∃ m, n = m + 1 := ⟨n - 1, by omega⟩
  simp only [Builtin.clear_]
  simp [run_underlying Tryz.underlying33, hv, hst]
end Go.Proofs.YtepljhleaohbcaaGreatDoor.P
