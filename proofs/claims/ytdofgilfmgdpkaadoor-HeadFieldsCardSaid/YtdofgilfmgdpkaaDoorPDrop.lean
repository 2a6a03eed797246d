/- Plain laws: head.Drop, head.With. -/
import Derived.Test.YtdofgilfmgdpkaaDoorPBase
import Derived.Test.YtdofgilfmgdpkaaDoorFheadDrop
import Derived.Test.YtdofgilfmgdpkaaDoorQheadWith
set_option linter.unusedVariables false
set_option linter.unusedSimpArgs false
namespace Go.Proofs.YtdofgilfmgdpkaaDoor.P
open Go.RowKit Go.Proofs.YtdofgilfmgdpkaaDoorW.PrintWords Go.Proofs.YtdofgilfmgdpkaaDoorW.PrintLast Go.Proofs.YtdofgilfmgdpkaaDoorW.PrintMore

theorem drop_ok (l : List S45) (ns : List ByteArray) (hl : l.length * 32 ≤ 140737488355328) (hx : ∀ x ∈ l, x.f0.size ≤ 9223372036854775807) (hn : ∀ n ∈ ns, n.size ≤ 9223372036854775807) : head_Drop.f l ns = some (dropB l ns) := by
  unfold head_Drop.f
  rw [if_pos ⟨hl, List.all_eq_true.2 fun x h => decide_eq_true (hx x h), List.all_eq_true.2 fun x h => decide_eq_true (hn x h)⟩]
theorem dropB_le (l : List S45) (ns : List ByteArray) : (dropB l ns).length ≤ l.length := List.length_filter_le _ _
theorem dropB_mem {l : List S45} {ns : List ByteArray} {x : S45} (h : x ∈ dropB l ns) : x ∈ l ∧ hasName ns x = false := by
  have := List.mem_filter.1 h
  exact ⟨this.1, by simpa using this.2⟩
theorem hasName_one (n : ByteArray) (x : S45) : hasName [n] x = sameB x.f0 n := by simp [hasName]
theorem with_ok (l : List S45) (n v : ByteArray) (hl : l.length * 32 < 140737488355328) (hx : ∀ x ∈ l, x.f0.size ≤ 9223372036854775807) (hn : n.size ≤ 9223372036854775807) : head_With.f l n v = some (dropB l [n] ++ [⟨n, v⟩]) := by
  unfold head_With.f
  rw [drop_ok l [n] (by omega) hx (by intro m hm; rw [List.mem_singleton.1 hm]; exact hn)]
  have := dropB_le l [n]
  simp only [Option.bind_some]
  rw [if_pos (by omega)]
end Go.Proofs.YtdofgilfmgdpkaaDoor.P
