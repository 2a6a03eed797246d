/- hop.ForAll: is a name for all? -/
import Derived.Test.YtegdblnalpfndaaDoorFtextToken
import Derived.Test.YtegdblnalpfndaaDoorFtextLower
import Derived.Test.YtegdblnalpfndaaDoorFTab
import Derived.Test.YtegdblnalpfndaaDoorShelf
set_option linter.unusedVariables false
set_option linter.unusedSimpArgs false
namespace Go.Proofs.YtegdblnalpfndaaDoor.P
open Go.RowKit Go.Proofs.YtegdblnalpfndaaDoorW.PrintWords Go.Proofs.YtegdblnalpfndaaDoorW.PrintLast Go.Proofs.YtegdblnalpfndaaDoorW.PrintMore

def forAllS : ByteArray := ⟨#[32, 97, 103, 101, 32, 97, 117, 116, 104, 111, 114, 105, 122, 97, 116, 105, 111, 110, 32, 99, 97, 99, 104, 101, 45, 99, 111, 110, 116, 114, 111, 108, 32, 99, 111, 110, 116, 101, 110, 116, 45, 101, 110, 99, 111, 100, 105, 110, 103, 32, 99, 111, 110, 116, 101, 110, 116, 45, 108, 111, 99, 97, 116, 105, 111, 110, 32, 99, 111, 110, 116, 101, 110, 116, 45, 114, 97, 110, 103, 101, 32, 99, 111, 110, 116, 101, 110, 116, 45, 116, 121, 112, 101, 32, 100, 97, 116, 101, 32, 101, 116, 97, 103, 32, 101, 120, 112, 105, 114, 101, 115, 32, 104, 111, 115, 116, 32, 105, 102, 45, 109, 97, 116, 99, 104, 32, 105, 102, 45, 109, 111, 100, 105, 102, 105, 101, 100, 45, 115, 105, 110, 99, 101, 32, 105, 102, 45, 110, 111, 110, 101, 45, 109, 97, 116, 99, 104, 32, 105, 102, 45, 114, 97, 110, 103, 101, 32, 105, 102, 45, 117, 110, 109, 111, 100, 105, 102, 105, 101, 100, 45, 115, 105, 110, 99, 101, 32, 108, 97, 115, 116, 45, 109, 111, 100, 105, 102, 105, 101, 100, 32, 108, 111, 99, 97, 116, 105, 111, 110, 32, 112, 114, 97, 103, 109, 97, 32, 114, 97, 110, 103, 101, 32, 118, 97, 114, 121, 32, 118, 105, 97, 32]⟩
def tokB (s : ByteArray) : Bool := !s.data.toList.isEmpty && (bytesOf s).all tokI
def askS (a : ByteArray) : ByteArray := (⟨#[32]⟩ : ByteArray) ++ lowB a ++ ⟨#[32]⟩
def forAllB (a : ByteArray) : Bool := tokB a && Lib.contains forAllS.data.toList (askS a).data.toList
def hop_ForAll.f (a0 : ByteArray) : Option Bool := if a0.size ≤ 4398046511104 then some (forAllB a0) else none

set_option maxRecDepth 100000 in
set_option maxHeartbeats 1000000 in
theorem hop_ForAll.calls (a0 : ByteArray) (r : Bool) (w : World) (hT : Tab w) (h : hop_ForAll.f a0 = some r) :
    Calls Tryd.prog 16 #[.string a0] w fun e w' => e = .returned (.bool r) ∧ Below w.heap.size w w' := by
  unfold hop_ForAll.f at h
  split at h
  · rename_i hs
    have HR := Aside0.mk (Option.some.inj h)
    have HT := Aside0.mk hT
    have HK := Aside0.mk (text_Token.calls a0 (tokB a0) w (by unfold text_Token.f; rw [if_pos (by omega)]; rfl))
    have HL := Aside0.mk (fun W => text_Lower.calls a0 (lowB a0) W (by unfold text_Lower.f; rw [if_pos (by omega)]))
    have hls : (lowB a0).size = a0.size := by
      show (List.toArray (a0.data.toList.map lowU)).size = a0.data.size
      rw [List.size_toArray, List.length_map, Array.length_toList]
    have h9 : (lowB a0).size ≤ 4398046511104 := by omega
    unfold forAllB at HR
    clear h hT hs hls
    cases hq : tokB a0 with
    | false =>
      rw [hq] at HK HR
      go_enter Tryd.func16, Tryd.ntmps16
      go_wp2_with fail
      refine HK.out.mono ?_
      rintro e w1 ⟨rfl, hb⟩
      have HB := Aside0.mk hb
      clear hb hq
      go_wp2
      go_ret
      rw [← HR.out]
      exact ⟨rfl, HB.out⟩
    | true =>
      rw [hq, Bool.true_and] at HR
      rw [hq] at HK
      go_enter Tryd.func16, Tryd.ntmps16
      go_wp2_with fail
      refine HK.out.mono ?_
      rintro e w1 ⟨rfl, hb⟩
      have HB := Aside0.mk hb
      clear hb hq
      go_wp2_with fail
      refine (HL.out w1).mono ?_
      rintro e w2 ⟨rfl, hb⟩
      have HB2 := Aside0.mk (HB.out.trans (hb.mono HB.out.size))
      clear hb
      obtain ⟨m, hm⟩ := HT.out.below HB2.out
      have HC := Aside0.mk (Tryd.strings_Contains forAllS (askS a0) m w2 (by decide) hm)
      rw [HR.out] at HC
      clear hm
      unfold forAllS askS at HC
      go_wp2_with fail
      refine HC.out.mono ?_
      rintro e w3 ⟨rfl, rfl⟩
      go_wp2
      go_ret
      exact ⟨rfl, HB2.out⟩
  · exact absurd h (by simp)
end Go.Proofs.YtegdblnalpfndaaDoor.P
