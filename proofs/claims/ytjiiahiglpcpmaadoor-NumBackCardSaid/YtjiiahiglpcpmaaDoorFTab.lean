/- What the library's table of trailing noughts holds; and it stays. (Laid as FTab in a seat whose rows are laid.) -/
import Derived.Test.YtjiiahiglpcpmaaDoorQ0
import Derived.Lib.LaidTab
import Derived.Lib.ItoaMem
import Derived.Lib.ItoaNum
import Derived.Lib.TrailingZeros
set_option linter.unusedVariables false
set_option linter.unusedSimpArgs false
namespace Go.Proofs.YtjiiahiglpcpmaaDoor.P
open Go.RowKit Go.Proofs.YtjiiahiglpcpmaaDoorW.PrintWords Go.Proofs.YtjiiahiglpcpmaaDoorW.PrintLast Go.Proofs.YtjiiahiglpcpmaaDoorW.PrintMore

def bruijn : List Int := [0, 1, 56, 2, 57, 49, 28, 3, 61, 58, 42, 50, 38, 29, 17, 4, 62, 47, 59, 36, 45, 43, 51, 22, 53, 39, 33, 30, 24, 18, 12, 5, 63, 55, 48, 27, 60, 41, 37, 16, 46, 35, 44, 21, 52, 32, 23, 11, 54, 26, 40, 15, 34, 20, 31, 10, 25, 14, 19, 9, 13, 8, 7, 6]
def Tab (w : World) : Prop := Lib.TabIs Tryd.prog w "math/bits.deBruijn64tab" .u8 bruijn ∧ Lib.TabIs Tryd.prog w "internal/strconv.uint64pow10" .u64 Lib.pow10Tab
theorem tab_global : Tryd.prog.globalNamed "math/bits.deBruijn64tab" = some 6 := by kernel_rfl
theorem tab_global2 : Tryd.prog.globalNamed "internal/strconv.uint64pow10" = some 4 := by kernel_rfl
theorem Tab.cell16 {w : World} (h : Tab w) : w.cell? ⟨6, 15, none⟩ = some (.int .u8 4) := Lib.TabIs.cell h.1 tab_global 15 (by decide)
theorem Tab.lt {w : World} (h : Tab w) : 6 < w.heap.size := World.block_lt_of_cell? w _ h.cell16
theorem Tab.lt2 {w : World} (h : Tab w) : 4 < w.heap.size := World.block_lt_of_cell? w _ (Lib.TabIs.cell h.2 tab_global2 0 (by decide))
theorem tabIs_same {w W : World} {name : String} {k : IntKind} {zs : List Int} {g : Nat} (hg : Tryd.prog.globalNamed name = some g) (h : Lib.TabIs Tryd.prog w name k zs) (e : W.heap[g]? = w.heap[g]?) : Lib.TabIs Tryd.prog W name k zs := by
  unfold Lib.TabIs World.var? at *
  simp only [hg, Option.bind_some] at h ⊢
  rw [e]
  exact h
theorem Tab.same {w W : World} (h : Tab w) (e : W.heap[(6 : Nat)]? = w.heap[(6 : Nat)]?) (e2 : W.heap[(4 : Nat)]? = w.heap[(4 : Nat)]?) : Tab W := ⟨tabIs_same tab_global h.1 e, tabIs_same tab_global2 h.2 e2⟩
theorem Tab.below {w W : World} (h : Tab w) (hb : Below w.heap.size w W) : Tab W := h.same (hb.block _ h.lt) (hb.block _ h.lt2)
theorem Tab.alloc {w : World} (h : Tab w) (o : Obj) : Tab (w.alloc o) := h.below (below_alloc (Below.refl _ _) o)
theorem Tab.drewN {w : World} (h : Tab w) (n : Nat) : Tab (w.drewN n) := h.same rfl rfl
theorem Tab.drew {w : World} (h : Tab w) : Tab w.drew := h.same rfl rfl
theorem Tab.set {w0 w : World} {p : Addr} (h : Tab w) (h0 : Tab w0) (hp : w0.heap.size ≤ p.block) (v : Value) : Tab (w.setCell p v) :=
  h.same (Below.heap_setCell w p v _ (fun e => by have := h0.lt; rw [← e] at hp; omega)) (Below.heap_setCell w p v _ (fun e => by have := h0.lt2; rw [← e] at hp; omega))
end Go.Proofs.YtjiiahiglpcpmaaDoor.P
