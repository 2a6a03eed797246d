/- The document's ForAll: is a name one of twenty-two? -/
import Derived.Test.YtegdblnalpfndaaDoorPRef02
import Derived.Test.YtegdblnalpfndaaDoorQRef02
import Derived.Test.YtegdblnalpfndaaDoorFArr
set_option linter.unusedVariables false
set_option linter.unusedSimpArgs false
namespace Go.Proofs.YtegdblnalpfndaaDoor.P
open Go.RowKit Go.Proofs.YtegdblnalpfndaaDoorW.PrintWords Go.Proofs.YtegdblnalpfndaaDoorW.PrintLast Go.Proofs.YtegdblnalpfndaaDoorW.PrintMore

def allNames : List ByteArray := [⟨#[97, 103, 101]⟩, ⟨#[97, 117, 116, 104, 111, 114, 105, 122, 97, 116, 105, 111, 110]⟩, ⟨#[99, 97, 99, 104, 101, 45, 99, 111, 110, 116, 114, 111, 108]⟩, ⟨#[99, 111, 110, 116, 101, 110, 116, 45, 101, 110, 99, 111, 100, 105, 110, 103]⟩, ⟨#[99, 111, 110, 116, 101, 110, 116, 45, 108, 111, 99, 97, 116, 105, 111, 110]⟩, ⟨#[99, 111, 110, 116, 101, 110, 116, 45, 114, 97, 110, 103, 101]⟩, ⟨#[99, 111, 110, 116, 101, 110, 116, 45, 116, 121, 112, 101]⟩, ⟨#[100, 97, 116, 101]⟩, ⟨#[101, 116, 97, 103]⟩, ⟨#[101, 120, 112, 105, 114, 101, 115]⟩, ⟨#[104, 111, 115, 116]⟩, ⟨#[105, 102, 45, 109, 97, 116, 99, 104]⟩, ⟨#[105, 102, 45, 109, 111, 100, 105, 102, 105, 101, 100, 45, 115, 105, 110, 99, 101]⟩, ⟨#[105, 102, 45, 110, 111, 110, 101, 45, 109, 97, 116, 99, 104]⟩, ⟨#[105, 102, 45, 114, 97, 110, 103, 101]⟩, ⟨#[105, 102, 45, 117, 110, 109, 111, 100, 105, 102, 105, 101, 100, 45, 115, 105, 110, 99, 101]⟩, ⟨#[108, 97, 115, 116, 45, 109, 111, 100, 105, 102, 105, 101, 100]⟩, ⟨#[108, 111, 99, 97, 116, 105, 111, 110]⟩, ⟨#[112, 114, 97, 103, 109, 97]⟩, ⟨#[114, 97, 110, 103, 101]⟩, ⟨#[118, 97, 114, 121]⟩, ⟨#[118, 105, 97]⟩]
def allB (a : ByteArray) : Bool := allNames.any fun n => n.toList == (lowB a).toList
def tollhouseref11_ForAll.f (a0 : ByteArray) : Option Bool := if a0.size ≤ 1073741824 then some (allB a0) else none

theorem any_take (p : ByteArray → Bool) (l : List ByteArray) (k : Nat) (h : k < l.length) : (l.take (k + 1)).any p = ((l.take k).any p || p (l.getD k ByteArray.empty)) := by
  rw [List.take_succ_eq_append_getElem h, List.any_append, List.getD_eq_getElem?_getD, List.getElem?_eq_getElem h]
  simp

set_option maxRecDepth 1000000 in
set_option maxHeartbeats 2000000 in
theorem tollhouseref11_ForAll.calls (a0 : ByteArray) (r : Bool) (w : World) (h : tollhouseref11_ForAll.f a0 = some r) :
    Calls Tryd.prog 17 #[.string a0] w fun e w' => e = .returned (.bool r) ∧ Below w.heap.size w w' := by
  unfold tollhouseref11_ForAll.f at h
  split at h
  · rename_i hs
    have HR := Aside0.mk (Option.some.inj h)
    obtain ⟨k, hk⟩ := (refLower_ok a0 (by omega)).rounds
    have HL := Aside0.mk (fun W => tollhouseref02_Lower.calls k a0 (lowB a0) W hk)
    obtain ⟨c22, e22⟩ : ∃ c : Array Value, c = (allNames.map Value.string).toArray := ⟨_, rfl⟩
    have S22 := Aside0.mk (show c22.size = 22 ∧ c22.all (·.oneCell') = true by rw [e22]; exact ⟨rfl, by kernel_rfl⟩)
    have E22 := Aside0.mk e22
    unfold allB at HR
    have hl22 : allNames.length = 22 := rfl
    have HLEN := Aside0.mk hl22
    clear h hs hk hl22 e22
    go_enter Tryd.func17, Tryd.ntmps17
    go_wp2_with (first | (refine wpList_buildTo rfl 44 _ rfl (some 5) rfl c22 (by rw [E22.out]; kernel_rfl) ?_) | (refine wpList_store_new rfl 44 _ _ rfl rfl c22 rfl rfl 44 _ (by rw [S22.out.1]; kernel_rfl) (by rw [S22.out.1]; rfl) S22.out.2 ?_; intro w1 hk1 hb1; have HK1 := Aside0.mk hk1; have HB1 := Aside0.mk hb1; clear hk1 hb1))
    go_loopw [4] (fun s4 wr => ∃ kk : Nat, s4 = .int .i64 kk ∧ kk ≤ 22 ∧ Aside0 ((allNames.take kk).any (fun n => n.toList == (lowB a0).toList) = false) ∧ Aside0 (wr.heap[w.heap.size]? = some (.cells c22 44 (0, 0))) ∧ Aside0 (Below w.heap.size w wr)) (fun s4 _ => 22 - (intOf s4).toNat)
    case atStart => as_aux_lemma => exact ⟨0, rfl, by omega, ⟨rfl⟩, HK1, HB1⟩
    case round =>
      rename_i s4
      obtain ⟨kk, rfl, hkk, HA, HBK, HB⟩ := hrel
      clear HK1 HB1
      by_cases hlt : kk < 22
      · have hltz : (kk : Int) < 22 := by omega
        have hc : wr.cell? ⟨w.heap.size, kk, none⟩ = some (.string (allNames.getD kk ByteArray.empty)) := (blk_cell HBK.out kk).trans (by rw [E22.out]; exact rows_at allNames kk (by rw [HLEN.out]; exact hlt))
        have HSN := Aside0.mk (any_take (fun n => n.toList == (lowB a0).toList) allNames kk (by rw [HLEN.out]; exact hlt))
        have HMEM := Aside0.mk (show allNames.getD kk ByteArray.empty ∈ allNames by rw [List.getD_eq_getElem?_getD, List.getElem?_eq_getElem (by rw [HLEN.out]; exact hlt)]; exact List.getElem_mem _)
        generalize allNames.getD kk ByteArray.empty = y at hc HSN HMEM
        have HLT := Aside0.mk hlt
        have hlk := World.block_lt_of_cell? wr _ hc
        cases hq : (y.toList == (lowB a0).toList) with
        | true => as_aux_lemma =>
          have HQ := Aside0.mk hq
          go_wp2
          go_region_law (first | (go_simp; go_at_call 35; refine (HL.out _).mono ?_; rintro e w2 ⟨rfl, hb⟩; have hc2 : w2.cell? ⟨w.heap.size, kk, none⟩ = some (.string y) := (hb.cell (p := ⟨w.heap.size, kk, none⟩) hlk).trans hc; have HB2 := Aside0.mk (below_drew1 (Below.refl wr.heap.size wr) |>.trans hb); clear hb))
          all_goals
            go_wp2
            go_ret
            refine ⟨?_, HB.out.trans (HB2.out.mono HB.out.size)⟩
            rw [← HR.out]
            exact congrArg (fun b => Ending.returned (Value.bool b)) (List.any_eq_true.2 ⟨y, HMEM.out, HQ.out⟩).symm
        | false => as_aux_lemma =>
          have HQ := Aside0.mk hq
          have HBK2 := Aside0.mk (fun (W : World) (hb : Below wr.heap.size wr W) => blk_below HBK.out hb)
          go_wp2
          go_region_law (first | (go_simp; go_at_call 35; refine (HL.out _).mono ?_; rintro e w2 ⟨rfl, hb⟩; have hc2 : w2.cell? ⟨w.heap.size, kk, none⟩ = some (.string y) := (hb.cell (p := ⟨w.heap.size, kk, none⟩) hlk).trans hc; have HB2 := Aside0.mk (below_drew1 (Below.refl wr.heap.size wr) |>.trans hb); clear hb))
          all_goals
            go_wp2
            go_roundw
            case rel => exact ⟨kk + 1, by go_num, HLT.out, ⟨by rw [HSN.out, HA.out, HQ.out]; rfl⟩, ⟨HBK2.out _ HB2.out⟩, ⟨HB.out.trans (HB2.out.mono HB.out.size)⟩⟩
            case measure => simp [intOf]; have := HLT.out; omega
      · as_aux_lemma =>
        have hke : kk = 22 := by omega
        subst hke
        have HN := Aside0.mk (show allNames.any (fun n => n.toList == (lowB a0).toList) = false by have := HA.out; rwa [List.take_of_length_le (by rw [HLEN.out]; exact Nat.le_refl _)] at this)
        clear HA hlt
        go_wp2
        go_ret
        rw [← HR.out, HN.out]
        exact ⟨rfl, HB.out⟩
  · exact absurd h (by simp)
end Go.Proofs.YtegdblnalpfndaaDoor.P
