/- Arrays that a call makes: written whole behind their making; read at a number. -/
import Derived.Test.YthfppglmjkjcoaaDoorQ0
import Derived.Great.BuildSlice
set_option linter.unusedVariables false
set_option linter.unusedSimpArgs false
namespace Go.Proofs.YthfppglmjkjcoaaDoor.P
open Go.RowKit Go.Proofs.YthfppglmjkjcoaaDoorW.PrintWords Go.Proofs.YthfppglmjkjcoaaDoorW.PrintLast Go.Proofs.YthfppglmjkjcoaaDoorW.PrintMore

theorem rows_at (l : List ByteArray) (j : Nat) (h : j < l.length) : ((l.map Value.string).toArray)[j]? = some (.string (l.getD j ByteArray.empty)) := by
  rw [List.getElem?_toArray, List.getElem?_map, List.getElem?_eq_getElem h, List.getD_eq_getElem?_getD, List.getElem?_eq_getElem h]; rfl
theorem new_row (w : World) (T : TypeId) (zs cs : Array Value) : ((w.alloc (.cells zs T)).setRow w.heap.size cs).heap[w.heap.size]? = some (.cells cs T (0, 0)) ∧ Below w.heap.size w ((w.alloc (.cells zs T)).setRow w.heap.size cs) := by
  have hz := blk_new w (.cells zs T)
  have hb : Below w.heap.size w (w.alloc (.cells zs T)) := below_alloc (Below.refl _ w) _
  refine ⟨setRow_heap _ _ _ _ _ _ hz, ?_⟩
  exact ⟨hb.os, hb.tape, hb.output, by rw [setRow_size]; exact hb.size, fun k hk => (setRow_other _ _ _ _ (Nat.ne_of_lt hk)).trans (hb.block k hk)⟩
/-- An array that was just made is written: its block holds it, the rest is as it was. -/
theorem wpList_store_new {P : Program} {ops : Array Oper} {rest : List Oper} {o : Oper} {a : Act} {w0 : World} {Q : Exit → Act → World → Prop} (hgd : o.guard = none) (ty : TypeId) (x y : Operand) (ho : o.op = .store ty x y)
    (hd : o.dst = none) (cells : Array Value) (hx : a.eval x = .pointer (some ⟨w0.heap.size, 0, none⟩)) (hy : a.eval y = .agg cells)
    (t : TypeId) (old : Array Value) (hi : (P.info? ty).map (·.size) = some cells.size)
    (hold : old.size = cells.size) (h1 : cells.all (·.oneCell') = true)
    (h : ∀ w', w'.heap[w0.heap.size]? = some (.cells cells t (0, 0)) → Below w0.heap.size w0 w' → wpList P ops Q rest a w') : wpList P ops Q (o :: rest) a (w0.alloc (.cells old t)) :=
  wpList_store_rowTo hgd ty x y ho hd _ cells hx hy t old (blk_new w0 _) hi hold h1 (h _ (new_row w0 t old cells).1 (new_row w0 t old cells).2)
/-- The same, where the block's number is spelt in another way. -/
theorem wpList_store_at {P : Program} {ops : Array Oper} {rest : List Oper} {o : Oper} {a : Act} {w0 : World} {Q : Exit → Act → World → Prop} (hgd : o.guard = none) (ty : TypeId) (x y : Operand) (ho : o.op = .store ty x y)
    (hd : o.dst = none) (cells : Array Value) (g : Nat) (hx : a.eval x = .pointer (some ⟨g, 0, none⟩)) (hy : a.eval y = .agg cells)
    (t : TypeId) (old : Array Value) (hg : g = w0.heap.size) (hi : (P.info? ty).map (·.size) = some cells.size)
    (hold : old.size = cells.size) (h1 : cells.all (·.oneCell') = true)
    (h : ∀ w', w'.heap[g]? = some (.cells cells t (0, 0)) → Below w0.heap.size w0 w' → wpList P ops Q rest a w') : wpList P ops Q (o :: rest) a (w0.alloc (.cells old t)) := by
  subst hg
  exact wpList_store_new hgd ty x y ho hd cells hx hy t old hi hold h1 h
end Go.Proofs.YthfppglmjkjcoaaDoor.P
