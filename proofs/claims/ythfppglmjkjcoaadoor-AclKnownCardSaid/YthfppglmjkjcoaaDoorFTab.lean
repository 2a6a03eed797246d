/- What library variables hold: the powers of ten, the longest search, the two sentinels of strconv; and it stays. (Laid as FTab in seat 06.) -/
import Derived.Test.YthfppglmjkjcoaaDoorQ0
import Derived.Lib.LaidTab
import Derived.Lib.ItoaMem
import Derived.Lib.ItoaNum
set_option linter.unusedVariables false
set_option linter.unusedSimpArgs false
namespace Go.Proofs.YthfppglmjkjcoaaDoor.P
open Go.RowKit Go.Proofs.YthfppglmjkjcoaaDoorW.PrintWords Go.Proofs.YthfppglmjkjcoaaDoorW.PrintLast Go.Proofs.YthfppglmjkjcoaaDoorW.PrintMore

def Sent (w : World) (n : String) : Prop := ∃ tp p, w.var? Tryd.prog n = some #[.iface tp p]
def Tab (w : World) : Prop := Lib.TabIs Tryd.prog w "internal/strconv.uint64pow10" .u64 Lib.pow10Tab ∧ (∃ m, w.cell? ⟨0, 0, none⟩ = some (.int .i64 m)) ∧ Sent w "strconv.ErrSyntax" ∧ Sent w "strconv.ErrRange"
theorem tab_global2 : Tryd.prog.globalNamed "internal/strconv.uint64pow10" = some 3 := by kernel_rfl
theorem tab_global3 : Tryd.prog.globalNamed "strconv.ErrSyntax" = some 1 := by kernel_rfl
theorem tab_global4 : Tryd.prog.globalNamed "strconv.ErrRange" = some 2 := by kernel_rfl
theorem Sent.lt {w : World} {n : String} {g : Nat} (hg : Tryd.prog.globalNamed n = some g) (h : Sent w n) : g < w.heap.size := by
  obtain ⟨tp, p, h⟩ := h
  unfold World.var? at h
  simp only [hg, Option.bind_some] at h
  rcases Nat.lt_or_ge g w.heap.size with h' | h'
  · exact h'
  · simp [Array.getElem?_eq_none h'] at h
theorem Sent.same {w W : World} {n : String} {g : Nat} (hg : Tryd.prog.globalNamed n = some g) (h : Sent w n) (e : W.heap[g]? = w.heap[g]?) : Sent W n := by
  obtain ⟨tp, p, h⟩ := h
  refine ⟨tp, p, ?_⟩
  unfold World.var? at *
  simp only [hg, Option.bind_some] at h ⊢
  rw [e]
  exact h
theorem tabIs_same {w W : World} {name : String} {k : IntKind} {zs : List Int} {g : Nat} (hg : Tryd.prog.globalNamed name = some g) (h : Lib.TabIs Tryd.prog w name k zs) (e : W.heap[g]? = w.heap[g]?) : Lib.TabIs Tryd.prog W name k zs := by
  unfold Lib.TabIs World.var? at *
  simp only [hg, Option.bind_some] at h ⊢
  rw [e]
  exact h
theorem Tab.lt {w : World} (h : Tab w) : (3 : Nat) < w.heap.size ∧ (0 : Nat) < w.heap.size ∧ (1 : Nat) < w.heap.size ∧ (2 : Nat) < w.heap.size :=
  ⟨World.block_lt_of_cell? w _ (Lib.TabIs.cell h.1 tab_global2 0 (by decide)), h.2.1.elim fun _ hm => World.block_lt_of_cell? w _ hm, Sent.lt tab_global3 h.2.2.1, Sent.lt tab_global4 h.2.2.2⟩
theorem Tab.same {w W : World} (h : Tab w) (e : ∀ g, g = (3 : Nat) ∨ g = (0 : Nat) ∨ g = (1 : Nat) ∨ g = (2 : Nat) → W.heap[g]? = w.heap[g]?) : Tab W :=
  ⟨tabIs_same tab_global2 h.1 (e _ (.inl rfl)), h.2.1.elim fun m hm => ⟨m, by rw [World.cell?] at hm ⊢; rw [e _ (.inr (.inl rfl))]; exact hm⟩, h.2.2.1.same tab_global3 (e _ (.inr (.inr (.inl rfl)))), h.2.2.2.same tab_global4 (e _ (.inr (.inr (.inr rfl))))⟩
theorem Tab.below {w W : World} (h : Tab w) (hb : Below w.heap.size w W) : Tab W := h.same fun g hg => hb.block g (by
  obtain ⟨h1, h2, h3, h4⟩ := h.lt
  rcases hg with rfl | rfl | rfl | rfl <;> assumption)
theorem Tab.alloc {w : World} (h : Tab w) (o : Obj) : Tab (w.alloc o) := h.below (below_alloc (Below.refl _ _) o)
theorem Tab.drewN {w : World} (h : Tab w) (n : Nat) : Tab (w.drewN n) := h.same fun _ _ => rfl
theorem Tab.drew {w : World} (h : Tab w) : Tab w.drew := h.same fun _ _ => rfl
theorem Tab.set {w0 w : World} {p : Addr} (h : Tab w) (h0 : Tab w0) (hp : w0.heap.size ≤ p.block) (v : Value) : Tab (w.setCell p v) :=
  h.same fun g hg => Below.heap_setCell w p v _ (fun e => by
    obtain ⟨h1, h2, h3, h4⟩ := h0.lt
    rcases hg with rfl | rfl | rfl | rfl <;> omega)
end Go.Proofs.YthfppglmjkjcoaaDoor.P
