/- Texts as lists of bytes. -/
import Derived.Test.YteggopolokblhaaDoorPBase
set_option linter.unusedVariables false
set_option linter.unusedSimpArgs false
namespace Go.Proofs.YteggopolokblhaaDoor.P
open Go.RowKit Go.Proofs.YteggopolokblhaaDoorW.PrintWords Go.Proofs.YteggopolokblhaaDoorW.PrintLast Go.Proofs.YteggopolokblhaaDoorW.PrintMore

abbrev U8s := List UInt8
def mkB (l : U8s) : ByteArray := ⟨l.toArray⟩
theorem mkB_data (s : ByteArray) : mkB s.data.toList = s := by cases s; rfl
theorem mkB_l (l : U8s) : (mkB l).data.toList = l := rfl
theorem mkB_size (l : U8s) : (mkB l).size = l.length := by simp [mkB, ByteArray.size]
theorem mkB_app (a b : U8s) : mkB a ++ mkB b = mkB (a ++ b) := by
  have : (mkB a ++ mkB b).data.toList = a ++ b := by rw [ByteArray.data_append]; simp [mkB]
  rw [← this, mkB_data]
theorem mkB_toList (l : U8s) : (mkB l).toList = l := by rw [ByteArray.toList_eq, mkB_l]
theorem mkB_inj {a b : U8s} (h : mkB a = mkB b) : a = b := by rw [← mkB_l a, ← mkB_l b, h]
theorem mkOf (s : ByteArray) : ∃ l, s = mkB l := ⟨_, (mkB_data s).symm⟩
theorem ext_mk (l : U8s) (i j : Nat) : (mkB l).extract i j = mkB ((l.take j).drop i) := by
  rw [← mkB_data ((mkB l).extract i j)]
  congr 1
  rw [show ((mkB l).extract i j).data = (mkB l).data.extract i j from by simp [ByteArray.data_extract]]
  simp [mkB, List.extract_eq_take_drop, List.drop_take]
theorem bt_mk (l : U8s) (i : Nat) (h : i < l.length) : bt (mkB l) (i : Int) = ((l[i]'h).toNat : Int) := by
  rw [bt_get _ _ (by rw [mkB_size]; exact h), get_at' _ _ (by rw [mkB_size]; exact h)]; rfl
end Go.Proofs.YteggopolokblhaaDoor.P
