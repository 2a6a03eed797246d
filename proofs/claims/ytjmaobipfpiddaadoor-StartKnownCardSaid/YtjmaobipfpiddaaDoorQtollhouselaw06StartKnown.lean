/- StartKnown: the walk. Its rows lie in arrays that the call makes. -/
import Derived.Test.YtjmaobipfpiddaaDoorPStartB
import Derived.Test.YtjmaobipfpiddaaDoorQtollhouselaw06wakes
import Derived.Great.BuildSlice
set_option linter.unusedVariables false
set_option linter.unusedSimpArgs false
namespace Go.Proofs.YtjmaobipfpiddaaDoor.P
open Go.RowKit Go.Proofs.YtjmaobipfpiddaaDoorW.PrintWords Go.Proofs.YtjmaobipfpiddaaDoorW.PrintLast Go.Proofs.YtjmaobipfpiddaaDoorW.PrintMore

def rows14 : List ByteArray := [⟨#[]⟩, ⟨#[71, 69, 84]⟩, ⟨#[71, 69, 84, 32, 47]⟩, ⟨#[71, 69, 84, 32, 47, 32]⟩, ⟨#[71, 69, 84, 32, 47, 32, 72, 84, 84, 80, 47, 49, 46, 50]⟩, ⟨#[71, 69, 84, 32, 47, 32, 72, 84, 84, 80, 47, 49, 46]⟩, ⟨#[71, 69, 84, 32, 47, 32, 104, 116, 116, 112, 47, 49, 46, 49]⟩, ⟨#[71, 69, 84, 32, 47, 32, 72, 84, 84, 80, 47, 50, 46, 48]⟩, ⟨#[32, 71, 69, 84, 32, 47, 32, 72, 84, 84, 80, 47, 49, 46, 49]⟩, ⟨#[71, 69, 84, 32, 47, 32, 72, 84, 84, 80, 47, 49, 46, 49, 32]⟩, ⟨#[71, 69, 84, 32, 47, 97, 32, 98, 32, 72, 84, 84, 80, 47, 49, 46, 49]⟩, ⟨#[71, 64, 84, 32, 47, 32, 72, 84, 84, 80, 47, 49, 46, 49]⟩, ⟨#[71, 69, 84, 32, 47, 127, 32, 72, 84, 84, 80, 47, 49, 46, 49]⟩, ⟨#[71, 69, 84, 32, 47, 195, 169, 32, 72, 84, 84, 80, 47, 49, 46, 49]⟩]
def rows11 : List ByteArray := [⟨#[]⟩, ⟨#[72, 84, 84, 80, 47, 49, 46, 49]⟩, ⟨#[72, 84, 84, 80, 47, 49, 46, 49, 32, 50, 48, 48]⟩, ⟨#[72, 84, 84, 80, 47, 49, 46, 49, 32, 48, 57, 57, 32, 120]⟩, ⟨#[72, 84, 84, 80, 47, 49, 46, 49, 32, 54, 48, 48, 32, 120]⟩, ⟨#[72, 84, 84, 80, 47, 49, 46, 49, 32, 50, 48, 32, 120]⟩, ⟨#[72, 84, 84, 80, 47, 49, 46, 49, 32, 50, 48, 48, 48, 32, 120]⟩, ⟨#[72, 84, 84, 80, 47, 49, 46, 49, 32, 43, 50, 48, 32, 120]⟩, ⟨#[72, 84, 84, 80, 47, 49, 46, 50, 32, 50, 48, 48, 32, 120]⟩, ⟨#[104, 116, 116, 112, 47, 49, 46, 49, 32, 50, 48, 48, 32, 120]⟩, ⟨#[72, 84, 84, 80, 47, 49, 46, 49, 32, 50, 48, 48, 32, 0]⟩]
theorem req_fin : ∀ j : Fin 14, start_Request.f 3 (rows14.getD j.val ByteArray.empty) = some (⟨#[]⟩, ⟨#[]⟩, 0, 5) := by decide +kernel
theorem stat_fin : ∀ j : Fin 11, start_Status.f (rows11.getD j.val ByteArray.empty) = some (0, 0, ⟨#[]⟩, 5) := by
  decide +kernel
theorem rows_at (l : List ByteArray) (j : Nat) (h : j < l.length) : ((l.map Value.string).toArray)[j]? = some (.string (l.getD j ByteArray.empty)) := by
  rw [List.getElem?_toArray, List.getElem?_map, List.getElem?_eq_getElem h, List.getD_eq_getElem?_getD, List.getElem?_eq_getElem h]; rfl
def repA (n : Nat) : ByteArray := mkB (List.replicate n 97)
theorem repA_size (n : Nat) : (repA n).size = n := by unfold repA; rw [mkB_size, List.length_replicate]
theorem repA_app (n m : Nat) (x : ByteArray) (h : x = repA m) : repA n ++ x = repA (n + m) := by
  subst h
  unfold repA
  rw [mkB_app, List.replicate_append_replicate]
theorem known_a : start_PutRequest.f ⟨#[71, 69, 84]⟩ (repA 499) 1 = some (mkB (lineQ [71, 69, 84] (List.replicate 499 97) 1), 0) := by
  have h := PutRequest_eq [71, 69, 84] (List.replicate 499 97) 1 (by decide) (by rw [List.length_replicate]; decide) (by unfold I64; omega)
  have e : putQ [71, 69, 84] (List.replicate 499 97) 1 = (lineQ [71, 69, 84] (List.replicate 499 97) 1, 0) := by decide +kernel
  rw [e] at h
  exact h
theorem known_a_size : (mkB (lineQ [71, 69, 84] (List.replicate 499 97) 1)).size = 512 := by rw [mkB_size]; decide +kernel
theorem known_f : start_PutRequest.f ⟨#[71, 69, 84]⟩ (repA 500) 1 = some (⟨#[]⟩, 1) := by
  have h := PutRequest_eq [71, 69, 84] (List.replicate 500 97) 1 (by decide) (by rw [List.length_replicate]; decide) (by unfold I64; omega)
  have e : putQ [71, 69, 84] (List.replicate 500 97) 1 = ([], 1) := by decide +kernel
  rw [e] at h
  exact h
theorem known_g : ∃ x, start_PutRequest.f ⟨#[65, 66, 67, 68, 69, 70, 71, 72, 73, 74, 75, 76, 77, 78, 79, 80, 81, 82, 83, 84, 85, 86, 87, 88, 89, 90, 65, 66, 67, 68, 69, 70]⟩ ⟨#[42]⟩ 0 = some (x, 0) := by
  have h := PutRequest_eq [65, 66, 67, 68, 69, 70, 71, 72, 73, 74, 75, 76, 77, 78, 79, 80, 81, 82, 83, 84, 85, 86, 87, 88, 89, 90, 65, 66, 67, 68, 69, 70] [42] 0 (by decide) (by decide) (by unfold I64; omega)
  have e : (putQ [65, 66, 67, 68, 69, 70, 71, 72, 73, 74, 75, 76, 77, 78, 79, 80, 81, 82, 83, 84, 85, 86, 87, 88, 89, 90, 65, 66, 67, 68, 69, 70] [42] 0).2 = 0 := by decide +kernel
  rw [e] at h
  exact ⟨_, h⟩
theorem known_h : start_PutRequest.f ⟨#[65, 66, 67, 68, 69, 70, 71, 72, 73, 74, 75, 76, 77, 78, 79, 80, 81, 82, 83, 84, 85, 86, 87, 88, 89, 90, 65, 66, 67, 68, 69, 70, 71]⟩ ⟨#[42]⟩ 0 = some (⟨#[]⟩, 1) := by
  have h := PutRequest_eq [65, 66, 67, 68, 69, 70, 71, 72, 73, 74, 75, 76, 77, 78, 79, 80, 81, 82, 83, 84, 85, 86, 87, 88, 89, 90, 65, 66, 67, 68, 69, 70, 71] [42] 0 (by decide) (by decide) (by unfold I64; omega)
  have e : putQ [65, 66, 67, 68, 69, 70, 71, 72, 73, 74, 75, 76, 77, 78, 79, 80, 81, 82, 83, 84, 85, 86, 87, 88, 89, 90, 65, 66, 67, 68, 69, 70, 71] [42] 0 = ([], 1) := by decide +kernel
  rw [e] at h
  exact h
theorem known_b : start_PutStatus.f 0 100 (repA 499) = some (mkB (lineS 0 100 (List.replicate 499 97)), 0) := by
  have h := PutStatus_eq 0 100 (List.replicate 499 97) (by rw [List.length_replicate]; decide) (by unfold I64; omega) (by unfold I64; omega)
  have e : putS 0 100 (List.replicate 499 97) = (lineS 0 100 (List.replicate 499 97), 0) := by decide +kernel
  rw [e] at h
  exact h
theorem known_b_size : (mkB (lineS 0 100 (List.replicate 499 97))).size = 512 := by rw [mkB_size]; decide +kernel
theorem known_j : start_PutStatus.f 0 599 (repA 500) = some (⟨#[]⟩, 1) := by
  have h := PutStatus_eq 0 599 (List.replicate 500 97) (by rw [List.length_replicate]; decide) (by unfold I64; omega) (by unfold I64; omega)
  have e : putS 0 599 (List.replicate 500 97) = ([], 1) := by decide +kernel
  rw [e] at h
  exact h
theorem known_k : start_Status.f ⟨#[72, 84, 84, 80, 47, 49, 46, 49, 32, 50, 48, 52, 32]⟩ = some (1, 204, ⟨#[]⟩, 0) := by decide +kernel
theorem known_r : start_Reason.f 204 = some ⟨#[]⟩ := by decide +kernel
def strLeft : Value → Nat
  | .string b => 498 - b.size
  | _ => 0
def tollhouselaw06_StartKnown.f : Option Bool := some true
theorem StartKnown_true : tollhouselaw06_StartKnown.f = some true := rfl
theorem new_row (w : World) (T : TypeId) (zs cs : Array Value) : ((w.alloc (.cells zs T)).setRow w.heap.size cs).heap[w.heap.size]? = some (.cells cs T (0, 0)) ∧ Below w.heap.size w ((w.alloc (.cells zs T)).setRow w.heap.size cs) := by
  have hz := blk_new w (.cells zs T)
  have hb : Below w.heap.size w (w.alloc (.cells zs T)) := below_alloc (Below.refl _ w) _
  refine ⟨setRow_heap _ _ _ _ _ _ hz, ?_⟩
  exact ⟨hb.os, hb.tape, hb.output, by rw [setRow_size]; exact hb.size, fun k hk => (setRow_other _ _ _ _ (Nat.ne_of_lt hk)).trans (hb.block k hk)⟩
/-- An array that was just made is written: its block holds it, the rest is as it was. -/
theorem wpList_store_new {P : Program} {ops : Array Oper} {rest : List Oper} {o : Oper} {a : Act} {w0 : World} {Q : Exit → Act → World → Prop} (hgd : o.guard = none) (ty : TypeId) (x y : Operand) (ho : o.op = .store ty x y)
    (hd : o.dst = none) (cells : Array Value) (hx : a.eval x = .pointer (some ⟨w0.heap.size, 0, none⟩)) (hy : a.eval y = .agg cells)
    (t : TypeId) (old : Array Value) (hi : (P.info? ty).map (·.size) = some cells.size)
    (hold : old.size = cells.size) (h1 : cells.all (·.oneCell') = true)
    (h : ∀ w', w'.heap[w0.heap.size]? = some (.cells cells t (0, 0)) → Below w0.heap.size w0 w' → wpList P ops Q rest a w') : wpList P ops Q (o :: rest) a (w0.alloc (.cells old t)) :=
  wpList_store_rowTo hgd ty x y ho hd _ cells hx hy t old (blk_new w0 _) hi hold h1 (h _ (new_row w0 t old cells).1 (new_row w0 t old cells).2)
set_option maxRecDepth 1000000 in
set_option maxHeartbeats 4000000 in
theorem tollhouselaw06_StartKnown.calls (r : Bool) (w : World) (hr_ : r = true) (hT : Tab w) (h : tollhouselaw06_StartKnown.f = some r) :
    Calls Tryd.prog 6 #[] w fun e w' => e = .returned (.bool r) ∧ Below w.heap.size w w' := by
  subst hr_
  clear h
  have HT := Aside0.mk hT
  clear hT
  obtain ⟨c14, e14⟩ : ∃ c : Array Value, c = (rows14.map Value.string).toArray := ⟨_, rfl⟩
  obtain ⟨c11, e11⟩ : ∃ c : Array Value, c = (rows11.map Value.string).toArray := ⟨_, rfl⟩
  have S14 := Aside0.mk (show c14.size = 14 ∧ c14.all (·.oneCell') = true by rw [e14]; exact ⟨rfl, by kernel_rfl⟩)
  have S11 := Aside0.mk (show c11.size = 11 ∧ c11.all (·.oneCell') = true by rw [e11]; exact ⟨rfl, by kernel_rfl⟩)
  have E14 := Aside0.mk e14
  have E11 := Aside0.mk e11
  clear e14 e11
  go_enter Tryd.func6, Tryd.ntmps6
  go_wp2_with (first | (refine wpList_buildTo rfl 43 _ rfl (some 30) rfl c14 (by rw [E14.out]; kernel_rfl) ?_) | (refine wpList_store_new rfl 43 _ _ rfl rfl c14 rfl rfl 43 _ (by rw [S14.out.1]; kernel_rfl) (by rw [S14.out.1]; rfl) S14.out.2 ?_; intro w1 hk1 hb1; have HK1 := Aside0.mk hk1; have HB1 := Aside0.mk hb1; clear hk1 hb1))
  go_loopw [2] (fun s2 wr => ∃ kk : Nat, s2 = .int .i64 kk ∧ kk ≤ 14 ∧ Aside0 (wr.heap[w.heap.size]? = some (.cells c14 43 (0, 0))) ∧ Aside0 (Below w.heap.size w wr)) (fun s2 _ => 14 - (intOf s2).toNat)
  case atStart => exact ⟨0, rfl, by omega, HK1, HB1⟩
  case round =>
    clear HK1 HB1
    rename_i s2
    obtain ⟨kk, rfl, hkk, HK, HB⟩ := hrel
    by_cases hlt : kk < 14
    · have hltz : (kk : Int) < 14 := by omega
      have hc : wr.cell? ⟨w.heap.size, kk, none⟩ = some (.string (rows14.getD kk ByteArray.empty)) := (blk_cell HK.out kk).trans (by rw [E14.out]; exact rows_at rows14 kk (by exact hlt))
      have HF := Aside0.mk (req_fin ⟨kk, hlt⟩)
      simp only at HF
      generalize rows14.getD kk ByteArray.empty = y at hc HF
      have HLT := Aside0.mk hlt
      have hlk := World.block_lt_of_cell? wr _ hc
      have HBK2 := Aside0.mk (fun (W : World) (hb : Below wr.heap.size wr W) => blk_below HK.out hb)
      clear hlt hkk
      go_wp2_with (go_at_call 7; refine (start_Request.calls 3 y _ _ _ _ _ (HT.out.below HB.out) HF.out).mono ?_; rintro e w2 ⟨rfl, hb⟩; have HB2 := Aside0.mk hb; clear hb)
      go_roundw
      case rel => exact ⟨kk + 1, by go_num, HLT.out, ⟨HBK2.out _ HB2.out⟩, ⟨HB.out.trans (HB2.out.mono HB.out.size)⟩⟩
      case measure => simp [intOf]; have := HLT.out; omega
    · have hke : kk = 14 := by omega
      subst hke
      clear hlt hkk HK
      go_wp2_with (first | (refine wpList_buildTo rfl 44 _ rfl (some 46) rfl c11 (by rw [E11.out]; kernel_rfl) ?_) | (refine wpList_store_new rfl 44 _ _ rfl rfl c11 rfl rfl 44 _ (by rw [S11.out.1]; kernel_rfl) (by rw [S11.out.1]; rfl) S11.out.2 ?_; intro w1 hk1 hb1; have HK1 := Aside0.mk hk1; have HB1 := Aside0.mk hb1; clear hk1 hb1))
      obtain ⟨wo, hwo⟩ : ∃ x : World, x = wr := ⟨wr, rfl⟩
      subst hwo
      go_loopw [8] (fun s8 wq => ∃ kk : Nat, s8 = .int .i64 kk ∧ kk ≤ 11 ∧ Aside0 (wq.heap[wo.heap.size]? = some (.cells c11 44 (0, 0))) ∧ Aside0 (Below wo.heap.size wo wq)) (fun s8 _ => 11 - (intOf s8).toNat)
      case atStart => exact ⟨0, rfl, by omega, HK1, HB1⟩
      case round =>
        clear HK1 HB1
        rename_i s8
        obtain ⟨kk, rfl, hkk, HK, HB2⟩ := hrel
        by_cases hlt : kk < 11
        · have hltz : (kk : Int) < 11 := by omega
          have hc : wr.cell? ⟨wo.heap.size, kk, none⟩ = some (.string (rows11.getD kk ByteArray.empty)) := (blk_cell HK.out kk).trans (by rw [E11.out]; exact rows_at rows11 kk (by exact hlt))
          have HF := Aside0.mk (stat_fin ⟨kk, hlt⟩)
          simp only at HF
          generalize rows11.getD kk ByteArray.empty = y at hc HF
          have HLT := Aside0.mk hlt
          have HBK2 := Aside0.mk (fun (W : World) (hb : Below wr.heap.size wr W) => blk_below HK.out hb)
          clear hlt hkk
          go_wp2_with (go_at_call 12; refine (start_Status.calls y _ _ _ _ _ ((HT.out.below HB.out).below HB2.out) HF.out).mono ?_; rintro e w2 ⟨rfl, hb⟩; have HB3 := Aside0.mk hb; clear hb)
          go_roundw
          case rel => exact ⟨kk + 1, by go_num, HLT.out, ⟨HBK2.out _ HB3.out⟩, ⟨HB2.out.trans (HB3.out.mono HB2.out.size)⟩⟩
          case measure => simp [intOf]; have := HLT.out; omega
        · have hke : kk = 11 := by omega
          subst hke
          have HBq := Aside0.mk (HB.out.trans (HB2.out.mono HB.out.size))
          clear hlt hkk HK HB HB2
          go_wp2
          go_loopw [13] (fun s13 wp => ∃ n : Nat, s13 = .string (repA n) ∧ n ≤ 498 ∧ Aside0 (Below w.heap.size w wp)) (fun s13 _ => strLeft s13)
          case atStart => exact ⟨0, rfl, by omega, HBq⟩
          case round =>
            clear HBq
            rename_i s13
            obtain ⟨n, rfl, hn, HB⟩ := hrel
            have hsz := repA_size n
            have ha := repA_app n 1 ⟨#[97]⟩ rfl
            have haa := repA_app n 2 ⟨#[97, 97]⟩ rfl
            by_cases hlt : n < 498
            · have HM := Aside0.mk (show strLeft (.string (repA (n + 1))) < strLeft (.string (repA n)) by show 498 - (repA (n + 1)).size < 498 - (repA n).size; rw [repA_size, repA_size]; omega)
              have HR := Aside0.mk (And.intro ha hlt)
              generalize repA n = s at hsz HM HR
              have d1 : decide ((s.size : Int) < 498) = true := decide_eq_true (by omega)
              have d2 : ((s.size : Int) < 498) = True := eq_true (by omega)
              have d3 : (s.size + 1 ≤ 9223372036854775807) = True := eq_true (by omega)
              have d4 : (9223372036854775807 < s.size + 1) = False := eq_false (by omega)
              clear hlt hn ha haa hsz
              go_wp2
              go_roundw
              case rel => exact ⟨n + 1, by rw [HR.out.1], HR.out.2, HB⟩
              case measure => rw [HR.out.1]; exact HM.out
            · have hne : n = 498 := by omega
              subst hne
              have FA := Aside0.mk (show start_PutRequest.f (⟨#[71, 69, 84]⟩ : ByteArray) (repA 498 ++ (⟨#[97]⟩ : ByteArray)) 1 = some (mkB (lineQ [71, 69, 84] (List.replicate 499 97) 1), 0) by rw [ha]; exact known_a)
              have FF := Aside0.mk (show start_PutRequest.f (⟨#[71, 69, 84]⟩ : ByteArray) (repA 498 ++ (⟨#[97, 97]⟩ : ByteArray)) 1 = some (⟨#[]⟩, 1) by rw [haa]; exact known_f)
              have FB := Aside0.mk (show start_PutStatus.f 0 100 (repA 498 ++ (⟨#[97]⟩ : ByteArray)) = some (mkB (lineS 0 100 (List.replicate 499 97)), 0) by rw [ha]; exact known_b)
              have FJ := Aside0.mk (show start_PutStatus.f 0 599 (repA 498 ++ (⟨#[97, 97]⟩ : ByteArray)) = some (⟨#[]⟩, 1) by rw [haa]; exact known_j)
              have za := known_a_size
              have zb := known_b_size
              obtain ⟨G, fg⟩ := known_g
              have FG := Aside0.mk fg
              generalize mkB (lineQ [71, 69, 84] (List.replicate 499 97) 1) = A at FA za
              generalize mkB (lineS 0 100 (List.replicate 499 97)) = B at FB zb
              generalize repA 498 = s at hsz FA FF FB FJ
              have d1 : decide ((s.size : Int) < 498) = false := decide_eq_false (by omega)
              have d2 : ((s.size : Int) < 498) = False := eq_false (by omega)
              have d3 : (s.size + 1 ≤ 9223372036854775807) = True := eq_true (by omega)
              have d4 : (9223372036854775807 < s.size + 1) = False := eq_false (by omega)
              have d5 : (s.size + 2 ≤ 9223372036854775807) = True := eq_true (by omega)
              have d6 : (9223372036854775807 < s.size + 2) = False := eq_false (by omega)
              have za2 : ((A.size : Int) == 512) = true := by simp; omega
              have zb2 : ((B.size : Int) == 512) = true := by simp; omega
              have ZA := Aside0.mk za
              have ZB := Aside0.mk zb
              clear hlt hn ha haa hsz fg za zb
              go_wp2_with (first | ((go_at_call 9); (with_reducible refine (start_PutRequest.calls (⟨#[71, 69, 84]⟩ : ByteArray) (s ++ (⟨#[97]⟩ : ByteArray)) 1 A 0 _ ?sideT FA.out).mono ?_); (case sideT => repeat (first | exact HT.out | exact (Tab.below HT.out HB.out) | (with_reducible first | refine Tab.alloc ?_ _ | refine Tab.drewN ?_ _ | refine Tab.drew ?_))); rintro e w_ ⟨rfl, hb⟩; have n0_ := Aside0.mk (below_step (by repeat (first | (with_reducible first | exact HB.out | apply below_alloc | apply pw_below_drewN | apply below_drew1) | exact HB.out)) hb); clear HB; have HB := n0_; clear n0_; (try clear hb)) | ((go_at_call 9); (with_reducible refine (start_PutRequest.calls (⟨#[71, 69, 84]⟩ : ByteArray) (s ++ (⟨#[97, 97]⟩ : ByteArray)) 1 (⟨#[]⟩ : ByteArray) 1 _ ?sideT FF.out).mono ?_); (case sideT => repeat (first | exact HT.out | exact (Tab.below HT.out HB.out) | (with_reducible first | refine Tab.alloc ?_ _ | refine Tab.drewN ?_ _ | refine Tab.drew ?_))); rintro e w_ ⟨rfl, hb⟩; have n0_ := Aside0.mk (below_step (by repeat (first | (with_reducible first | exact HB.out | apply below_alloc | apply pw_below_drewN | apply below_drew1) | exact HB.out)) hb); clear HB; have HB := n0_; clear n0_; (try clear hb)) | ((go_at_call 9); (with_reducible refine (start_PutRequest.calls (⟨#[65, 66, 67, 68, 69, 70, 71, 72, 73, 74, 75, 76, 77, 78, 79, 80, 81, 82, 83, 84, 85, 86, 87, 88, 89, 90, 65, 66, 67, 68, 69, 70]⟩ : ByteArray) (⟨#[42]⟩ : ByteArray) 0 G 0 _ ?sideT FG.out).mono ?_); (case sideT => repeat (first | exact HT.out | exact (Tab.below HT.out HB.out) | (with_reducible first | refine Tab.alloc ?_ _ | refine Tab.drewN ?_ _ | refine Tab.drew ?_))); rintro e w_ ⟨rfl, hb⟩; have n0_ := Aside0.mk (below_step (by repeat (first | (with_reducible first | exact HB.out | apply below_alloc | apply pw_below_drewN | apply below_drew1) | exact HB.out)) hb); clear HB; have HB := n0_; clear n0_; (try clear hb)) | ((go_at_call 9); (with_reducible refine (start_PutRequest.calls (⟨#[65, 66, 67, 68, 69, 70, 71, 72, 73, 74, 75, 76, 77, 78, 79, 80, 81, 82, 83, 84, 85, 86, 87, 88, 89, 90, 65, 66, 67, 68, 69, 70, 71]⟩ : ByteArray) (⟨#[42]⟩ : ByteArray) 0 (⟨#[]⟩ : ByteArray) 1 _ ?sideT known_h).mono ?_); (case sideT => repeat (first | exact HT.out | exact (Tab.below HT.out HB.out) | (with_reducible first | refine Tab.alloc ?_ _ | refine Tab.drewN ?_ _ | refine Tab.drew ?_))); rintro e w_ ⟨rfl, hb⟩; have n0_ := Aside0.mk (below_step (by repeat (first | (with_reducible first | exact HB.out | apply below_alloc | apply pw_below_drewN | apply below_drew1) | exact HB.out)) hb); clear HB; have HB := n0_; clear n0_; (try clear hb)) | ((go_at_call 14); (with_reducible refine (start_PutStatus.calls 0 100 (s ++ (⟨#[97]⟩ : ByteArray)) B 0 _ ?sideT FB.out).mono ?_); (case sideT => repeat (first | exact HT.out | exact (Tab.below HT.out HB.out) | (with_reducible first | refine Tab.alloc ?_ _ | refine Tab.drewN ?_ _ | refine Tab.drew ?_))); rintro e w_ ⟨rfl, hb⟩; have n0_ := Aside0.mk (below_step (by repeat (first | (with_reducible first | exact HB.out | apply below_alloc | apply pw_below_drewN | apply below_drew1) | exact HB.out)) hb); clear HB; have HB := n0_; clear n0_; (try clear hb)) | ((go_at_call 14); (with_reducible refine (start_PutStatus.calls 0 599 (s ++ (⟨#[97, 97]⟩ : ByteArray)) (⟨#[]⟩ : ByteArray) 1 _ ?sideT FJ.out).mono ?_); (case sideT => repeat (first | exact HT.out | exact (Tab.below HT.out HB.out) | (with_reducible first | refine Tab.alloc ?_ _ | refine Tab.drewN ?_ _ | refine Tab.drew ?_))); rintro e w_ ⟨rfl, hb⟩; have n0_ := Aside0.mk (below_step (by repeat (first | (with_reducible first | exact HB.out | apply below_alloc | apply pw_below_drewN | apply below_drew1) | exact HB.out)) hb); clear HB; have HB := n0_; clear n0_; (try clear hb)) | ((go_at_call 12); (with_reducible refine (start_Status.calls (⟨#[72, 84, 84, 80, 47, 49, 46, 49, 32, 50, 48, 52, 32]⟩ : ByteArray) 1 204 (⟨#[]⟩ : ByteArray) 0 _ ?sideT known_k).mono ?_); (case sideT => repeat (first | exact HT.out | exact (Tab.below HT.out HB.out) | (with_reducible first | refine Tab.alloc ?_ _ | refine Tab.drewN ?_ _ | refine Tab.drew ?_))); rintro e w_ ⟨rfl, hb⟩; have n0_ := Aside0.mk (below_step (by repeat (first | (with_reducible first | exact HB.out | apply below_alloc | apply pw_below_drewN | apply below_drew1) | exact HB.out)) hb); clear HB; have HB := n0_; clear n0_; (try clear hb)) | ((go_at_call 16); (with_reducible refine (start_Reason.calls 204 (⟨#[]⟩ : ByteArray) _ known_r).mono ?_); rintro e w_ ⟨rfl, hb⟩; have n0_ := Aside0.mk (below_step (by repeat (first | (with_reducible first | exact HB.out | apply below_alloc | apply pw_below_drewN | apply below_drew1) | exact HB.out)) hb); clear HB; have HB := n0_; clear n0_; (try clear hb)) | ((go_at_call 11); (with_reducible refine (tollhouselaw06_wakes.calls 60 true _ ?sideT tollhouselaw06_wakes.told).mono ?_); (case sideT => repeat (first | exact HT.out | exact (Tab.below HT.out HB.out) | (with_reducible first | refine Tab.alloc ?_ _ | refine Tab.drewN ?_ _ | refine Tab.drew ?_))); rintro e w_ ⟨rfl, hb⟩; have n0_ := Aside0.mk (below_step (by repeat (first | (with_reducible first | exact HB.out | apply below_alloc | apply pw_below_drewN | apply below_drew1) | exact HB.out)) hb); clear HB; have HB := n0_; clear n0_; (try clear hb)))
              go_ret
              exact ⟨rfl, HB.out⟩
end Go.Proofs.YtjmaobipfpiddaaDoor.P
