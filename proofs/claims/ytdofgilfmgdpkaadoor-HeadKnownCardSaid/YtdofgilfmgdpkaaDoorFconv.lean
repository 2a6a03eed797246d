/- '[]byte(s)': new bytes, to be read. -/
import Derived.Test.YtdofgilfmgdpkaaDoorFReadsB
import Derived.Lib.SlBytesConst
set_option linter.unusedVariables false
set_option linter.unusedSimpArgs false
namespace Go.Proofs.YtdofgilfmgdpkaaDoor.P
open Go.RowKit Go.Proofs.YtdofgilfmgdpkaaDoorW.PrintWords Go.Proofs.YtdofgilfmgdpkaaDoorW.PrintLast Go.Proofs.YtdofgilfmgdpkaaDoorW.PrintMore

def conv.f (s : ByteArray) : Option (List Int) := if s.size ≤ 9223372036854775807 then some (bytesOf s) else none

theorem conv_V (W : World) (s : ByteArray) (hs : s.size ≤ 9223372036854775807) :
    Kd.V (Kd.int .u8) 5 (Lib.bytesWorld W 5 s) W.heap.size (fun k_ => W.heap.size ≤ k_) (.slice (some ⟨W.heap.size, 0, none⟩) s.size (grownCap W s.size 0 5)) (bytesOf s) := by
  have hl : (bytesOf s).length = s.size := by simp [bytesOf, ByteArray.toList_eq]
  have hr := bytes_reads W 5 s hs
  refine ⟨some ⟨W.heap.size, 0, none⟩, grownCap W s.size 0 5, by rw [hl], ?_, ?_⟩
  · rw [hl]; exact grownCap_ge W s.size 0 5
  · intro W' hW
    have h1 := reads_bytes W s hs
    obtain ⟨hA, hB, hC⟩ := h1
    refine ⟨hA, hB, fun hn => ?_⟩
    obtain ⟨ad, e, hc⟩ := hC hn
    cases e
    refine ⟨_, rfl, fun j p hj => ?_⟩
    obtain ⟨c, h2, h3, h4⟩ := hc j p hj
    refine ⟨c, h2, h3, fun i u hu => ?_⟩
    rw [← h4 i u hu]
    have hb : ((⟨W.heap.size, 0, none⟩ : Addr).add (j * (Kd.int .u8).sz + i)).block = W.heap.size := by unfold Addr.add; split <;> rfl
    unfold World.cell?
    rw [hb, hW W.heap.size (Nat.le_refl _) (by have h9 := World.block_lt_of_cell? _ _ (h4 i u hu); rw [hb] at h9; exact h9)]

section
variable {ops : Array Oper} {rest : List Oper} {oi : Oper} {a : Act} {Q : Exit → Act → World → Prop}
theorem conv_event (N : Tmp) (hd : oi.dst = some N) (hg : oi.guard = none) (x : Operand) (ho : oi.op = .convert 9 22 x) (s : ByteArray) (hx : a.eval x = .string s) (r : List Int) (w : World) (hf : conv.f s = some r)
    (h : ∀ e w', (∃ v0_ : Value, e = Ending.returned v0_ ∧ Kd.V (Kd.int .u8) 5 w' w.heap.size (fun k_ => (w.heap.size ≤ k_)) v0_ r ∧ Below w.heap.size w w') → ∃ v, e = Ending.returned v ∧ wpList Tryd.prog ops Q rest (a.put (some N) v) w') : wpList Tryd.prog ops Q (oi :: rest) a w := by
  unfold conv.f at hf
  split at hf
  · rename_i hs
    obtain rfl := Option.some.inj hf
    obtain ⟨v, hv, hk⟩ := h (.returned _) _ ⟨_, rfl, conv_V w s hs, bytes_below (Below.refl _ w) (Nat.le_refl _) 5 s⟩
    obtain rfl := Ending.returned.inj hv
    have hrun : (execOp a.eval oi).run Tryd.prog w = .ok (.value (.slice (some ⟨w.heap.size, 0, none⟩) s.size (grownCap w s.size 0 5))) (Lib.bytesWorld w 5 s) := by
      unfold execOp
      simp only [ho, hx, Lib.run_convert_string_bytes (P := Tryd.prog) w 9 22 5 s Tryd.underlying9 Tryd.underlying22 Tryd.underlying5, Sem.run_bind, Result.andThen_ok, Sem.run_pure]
    refine wpList_plain hg fun K hK => ?_
    unfold Oper.wp
    rw [hrun]
    exact hK _ _ (hd ▸ hk)
  · exact absurd hf (by simp)
theorem marked_V (W : World) (l : List Int) (q : Nat × Nat) (hl : l.length ≤ 9223372036854775807) :
    Kd.V (Kd.int .u8) 5 (W.alloc (.cells (l.map fun x => Value.int .u8 x).toArray 5 q)) W.heap.size (fun k_ => W.heap.size ≤ k_) (.slice (some ⟨W.heap.size, 0, none⟩) l.length l.length) l := by
  refine ⟨_, _, rfl, Nat.le_refl _, ?_⟩
  intro W' hW
  have hblk : (W.alloc (.cells (l.map fun x => Value.int .u8 x).toArray 5 q)).heap[W.heap.size]? = some (.cells (l.map fun x => Value.int .u8 x).toArray 5 q) := by
    show (W.heap.push _)[W.heap.size]? = _
    simp
  have hlt : W.heap.size < (W.alloc (.cells (l.map fun x => Value.int .u8 x).toArray 5 q)).heap.size := (Array.getElem?_eq_some_iff.1 hblk).1
  refine ⟨rfl, hl, fun hn => ⟨_, rfl, fun j p hj => ⟨[.int .u8 p], rfl, rfl, fun i u hu => ?_⟩⟩⟩
  obtain rfl : i = 0 := by
    rcases i with _ | i
    · rfl
    · simp at hu
  have hu : Value.int .u8 p = u := by simpa using hu
  have hadd : ((⟨W.heap.size, 0, none⟩ : Addr).add (j * (Kd.int .u8).sz + 0)) = ⟨W.heap.size, j, none⟩ := by
    show (⟨W.heap.size, 0, none⟩ : Addr).add (j * 1 + 0) = _
    unfold Addr.add
    split <;> simp_all
  rw [hadd]
  unfold World.cell?
  simp only [hW W.heap.size (Nat.le_refl _) hlt, hblk]
  simp [hj, hu]

theorem conv_lit_event {o2 : Oper} (N N2 : Tmp) (hd : oi.dst = some N) (hg : oi.guard = none) (hd2 : o2.dst = some N2) (hg2 : o2.guard = none) (l : List Int) (w : World)
    (hrun : (execOp a.eval oi).run Tryd.prog w = .ok (.value (.slice (some ⟨w.heap.size, 0, none⟩) l.length l.length)) (w.alloc (.cells (l.map fun x => Value.int .u8 x).toArray 5)))
    (ho2 : o2.op = .convert 22 22 (.tmp N)) (he2 : ∀ v, (a.put (some N) v).eval (.tmp N) = v) (s : ByteArray) (hsl : bytesOf s = l) (r : List Int) (hf : conv.f s = some r)
    (h : ∀ e w', (∃ v0_ : Value, e = Ending.returned v0_ ∧ Kd.V (Kd.int .u8) 5 w' w.heap.size (fun k_ => (w.heap.size ≤ k_)) v0_ r ∧ Below w.heap.size w w') → ∃ v, e = Ending.returned v ∧ wpList Tryd.prog ops Q rest ((a.put (some N) v).put (some N2) v) w') : wpList Tryd.prog ops Q (oi :: o2 :: rest) a w := by
  unfold conv.f at hf
  split at hf
  · rename_i hs
    obtain rfl := Option.some.inj hf
    have hlen : l.length ≤ 9223372036854775807 := by rw [← hsl, bytesOf_length]; exact hs
    obtain ⟨v, hv, hk⟩ := h (.returned _) _ ⟨_, rfl, by rw [hsl]; exact marked_V w l (l.length, l.length + 1) hlen, (Below.refl _ w).alloc (Nat.le_refl _) _⟩
    obtain rfl := Ending.returned.inj hv
    refine wpList_plain hg fun K hK => ?_
    unfold Oper.wp
    rw [hrun]
    refine hK _ _ ?_
    rw [hd]
    refine wpList_plain hg2 fun K2 hK2 => ?_
    have hrun2 : (execOp (a.put (some N) (.slice (some ⟨w.heap.size, 0, none⟩) l.length l.length)).eval o2).run Tryd.prog (w.alloc (.cells (l.map fun x => Value.int .u8 x).toArray 5)) = .ok (.value (.slice (some ⟨w.heap.size, 0, none⟩) l.length l.length)) (w.alloc (.cells (l.map fun x => Value.int .u8 x).toArray 5 (l.length, l.length + 1))) := by
      have := Lib.run_convert_bytes_const (P := Tryd.prog) w 22 5 (l.map fun x => Value.int .u8 x).toArray l.length l.length Tryd.underlying22 Tryd.underlying5
      simp only [List.size_toArray, List.length_map] at this
      unfold execOp
      simp only [ho2, he2, this, Sem.run_bind, Result.andThen_ok, Sem.run_pure]
    unfold Oper.wp
    rw [hrun2]
    exact hK2 _ _ (hd2 ▸ hk)
  · exact absurd hf (by simp)
end
end Go.Proofs.YtdofgilfmgdpkaaDoor.P
