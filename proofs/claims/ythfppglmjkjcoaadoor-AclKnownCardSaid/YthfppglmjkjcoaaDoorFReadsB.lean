/- The bytes of a text, just converted, are read. -/
import Derived.Test.YthfppglmjkjcoaaDoorQ0
import Derived.Lib.ConvBytes
set_option linter.unusedVariables false
set_option linter.unusedSimpArgs false
namespace Go.Proofs.YthfppglmjkjcoaaDoor.P
open Go.RowKit Go.Proofs.YthfppglmjkjcoaaDoorW.PrintWords Go.Proofs.YthfppglmjkjcoaaDoorW.PrintLast Go.Proofs.YthfppglmjkjcoaaDoorW.PrintMore

theorem reads_bytes (W : World) (s : ByteArray) (hs : s.size ≤ 9223372036854775807) : Kd.C (Kd.int .u8) (Lib.bytesWorld W 5 s) (some ⟨W.heap.size, 0, none⟩) (bytesOf s).length (bytesOf s) := by
  rw [bytesOf_length]
  exact Kd.C_of_reads (d := (0 : Int)) (h1 := fun _ => rfl) (bytes_reads W 5 s hs)
end Go.Proofs.YthfppglmjkjcoaaDoor.P
