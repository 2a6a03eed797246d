/- start.Status: the parts of a response's line. -/
import Derived.Test.YtjmaobipfpiddaaDoorFstringsSplit
import Derived.Shelf.Strconv.AtoiAll
import Derived.Test.YtjmaobipfpiddaaDoorQstartPutStatus
import Derived.Test.YtjmaobipfpiddaaDoorQstartminorOf
import Derived.Deep.QuietTactic
import Derived.Shelf.Strconv.ErrVarAll
import Derived.BigQuiet
set_option linter.unusedVariables false
set_option linter.unusedSimpArgs false
namespace Go.Proofs.YtjmaobipfpiddaaDoor.P
open Go.RowKit Go.Proofs.YtjmaobipfpiddaaDoorW.PrintWords Go.Proofs.YtjmaobipfpiddaaDoorW.PrintLast Go.Proofs.YtjmaobipfpiddaaDoorW.PrintMore

/-- A text's number, as strconv.Atoi hands it back; and did it fail? -/
def atoiN (y : List UInt8) : Int := match Lib.atoiAll y with
  | .ok v => v
  | .range => Lib.atoiSat y
  | _ => 0
def atoiB (y : List UInt8) : Bool := match Lib.atoiAll y with
  | .ok _ => true
  | _ => false
def start_Status.f (a0 : ByteArray) : Option (Int × Int × ByteArray × Int) :=
  if a0.size ≤ 1073741824 then (match spn 32 2 a0.data.toList with
    | [x, y, z] => if x = [] then some (0, 0, ⟨#[]⟩, 5) else (start_minorOf.f ⟨x.toArray⟩).bind fun m => (start_PutStatus.f m (atoiN y) ⟨z.toArray⟩).bind fun p => if atoiB y = true ∧ p.2 = 0 ∧ p.1.toList = a0.toList then some (m, atoiN y, ⟨z.toArray⟩, 0) else some (0, 0, ⟨#[]⟩, 5)
    | _ => some (0, 0, ⟨#[]⟩, 5)) else none
/-- What strconv.Atoi hands back: the number, and an error or none. -/
theorem atoi_calls (s : ByteArray) (hs : s.size ≤ 281474976710656) (w : World) (hT : Tab w) : Calls Tryd.prog 28 #[.string s] w fun e w' => ∃ er : Value, e = .returned (.tuple #[.int .i64 (atoiN s.data.toList), er]) ∧ ((atoiB s.data.toList = true ∧ er = .nilIface) ∨ (atoiB s.data.toList = false ∧ ∃ N, er = .iface 68 (.pointer (some ⟨N, 0, none⟩)))) ∧ Below w.heap.size w w' := by
  cases h : Lib.atoiAll s.data.toList
  · rename_i v
    refine (Any.strconv_Atoi_ok Tryd.laysC172 s (by omega) v h w).mono ?_
    rintro e w' ⟨rfl, hw⟩
    refine ⟨_, by rw [atoiN, h], .inl ⟨by rw [atoiB, h], rfl⟩, ?_⟩
    rcases hw with rfl | ⟨t, rfl⟩
    · exact Below.refl _ _
    · exact bytes_below (Below.refl _ w) (Nat.le_refl _) 5 t
  · obtain ⟨tp, p, hv⟩ := hT.2.2.1
    refine (Any.strconv_Atoi_syntax_var Tryd.laysC172 s hs h tp p w hv).mono ?_
    rintro e w' ⟨N, rfl, _, _, hb⟩
    exact ⟨.iface 68 (.pointer (some ⟨N, 0, none⟩)), by rw [atoiN, h]; rfl, .inr ⟨by rw [atoiB, h], N, rfl⟩, hb⟩
  · obtain ⟨tp, p, hv⟩ := hT.2.2.2
    refine (Any.strconv_Atoi_range_var Tryd.laysC172 s hs h tp p w hv).mono ?_
    rintro e w' ⟨N, rfl, _, _, hb⟩
    exact ⟨.iface 68 (.pointer (some ⟨N, 0, none⟩)), by rw [atoiN, h]; rfl, .inr ⟨by rw [atoiB, h], N, rfl⟩, hb⟩
theorem spnB_few (s : ByteArray) : Lib.splitB ⟨#[32]⟩ 0 (min 3 (s.size + 1) - 1) s = spnB 32 2 s := by
  rw [splitB_spn, spnB, spnB]
  have hz : s.size = s.data.toList.length := by rw [Array.length_toList]; rfl
  have hc : s.data.toList.count 32 ≤ s.data.toList.length := List.count_le_length
  by_cases h : 2 ≤ s.size
  · rw [show min 3 (s.size + 1) - 1 = 2 by omega]
  · rw [spn_more 32 (min 3 (s.size + 1) - 1) 2 s.data.toList (by omega) (by omega)]
theorem splitN3_calls (s : ByteArray) (hs : s.size ≤ 1073741824) (w : World) (hT : Tab w) : Calls Tryd.prog 27 #[.string s, .string ⟨#[32]⟩, .int .i64 3] w fun e w' => ∃ c : Nat, e = .returned (.slice (some ⟨w.heap.size, 0, none⟩) (spnB 32 2 s).length c) ∧ (∀ k, k < (spnB 32 2 s).length → w'.cell? ⟨w.heap.size, k, none⟩ = some (.string ((spnB 32 2 s).getD k ⟨#[]⟩))) ∧ Below w.heap.size w w' := by
  obtain ⟨m, hm⟩ := hT.2.1
  refine (Tryd.strings_SplitN s ⟨#[32]⟩ 3 m w (by omega) hm (Nat.le_refl _) (by decide) (by decide)).mono ?_
  rintro e w' ⟨rfl, rfl⟩
  rw [spnB_few]
  refine ⟨_, rfl, fun k hk => ?_, below_alloc (Below.refl _ _) _⟩
  refine (blk_cell (blk_new w _) k).trans ?_
  rw [Lib.cellsOf, List.getElem?_toArray, List.getElem?_append_left (by simpa using hk), List.getElem?_map, List.getElem?_eq_getElem hk, List.getD_eq_getElem?_getD, List.getElem?_eq_getElem hk]
  rfl
set_option maxRecDepth 100000 in
set_option maxHeartbeats 4000000 in
theorem start_Status.calls (a0 : ByteArray) (r1 r2 : Int) (r3 : ByteArray) (r4 : Int) (w : World) (hT : Tab w) (h : start_Status.f a0 = some (r1, r2, r3, r4)) :
    Calls Tryd.prog 12 #[.string a0] w fun e w' => e = .returned (.tuple #[.int .i64 r1, .int .i64 r2, .string r3, .int .i64 r4]) ∧ Below w.heap.size w w' := by
  unfold start_Status.f at h
  split at h
  · rename_i hs
    have HC := Aside0.mk (splitN3_calls a0 hs w hT)
    have HT := Aside0.mk hT
    have HL := Aside0.mk (show (spnB 32 2 a0).length = (spn 32 2 a0.data.toList).length from List.length_map ..)
    have HE := Aside0.mk (show spnB 32 2 a0 = (spn 32 2 a0.data.toList).map (fun l => ⟨l.toArray⟩) from rfl)
    clear hT
    have HY0 := Aside0.mk (show ∀ p ∈ spn 32 2 a0.data.toList, p.length ≤ 281474976710656 from fun p hp => Nat.le_trans (spn_le 32 2 _ p hp) (by rw [Array.length_toList]; have : a0.data.size = a0.size := rfl; omega))
    generalize spn 32 2 a0.data.toList = pcs at h HL HE HY0
    generalize spnB 32 2 a0 = pb at HC HL HE
    have h3 : pcs.length = 3 ∨ pcs.length ≠ 3 := by omega
    rcases h3 with h3 | h3
    · match pcs, h3 with
      | [x, y, z], _ =>
      obtain rfl := HE.out
      have HX : (if x = [] then some ((0 : Int), (0 : Int), (⟨#[]⟩ : ByteArray), (5 : Int)) else (start_minorOf.f ⟨x.toArray⟩).bind fun m => (start_PutStatus.f m (atoiN y) ⟨z.toArray⟩).bind fun p => if atoiB y = true ∧ p.2 = 0 ∧ p.1.toList = a0.toList then some (m, atoiN y, ⟨z.toArray⟩, 0) else some (0, 0, ⟨#[]⟩, 5)) = some (r1, r2, r3, r4) := h
      clear h HE HL
      have HY := Aside0.mk (show y.length ≤ 281474976710656 from HY0.out y (by simp))
      by_cases hx : x = []
      · rw [if_pos hx] at HX
        subst hx
        simp only [Option.some.injEq, Prod.mk.injEq] at HX
        obtain ⟨rfl, rfl, rfl, rfl⟩ := HX
        go_enter Tryd.func12, Tryd.ntmps12
        go_wp2_with (go_at_call 27; refine HC.out.mono ?_; rintro e w1 ⟨c, rfl, hc, hb⟩; have c0 := hc 0 (by simp); have c1 := hc 1 (by simp); have c2 := hc 2 (by simp); simp only [List.map_cons, List.getD_cons_zero, List.getD_cons_succ] at c0 c1 c2; have HB := Aside0.mk hb; clear hc hb)
        refine bodyPost_ret (results_list (rs := [.tmp 2, .tmp 3, .tmp 4, .tmp 5]) rfl (by simp) (.tmp (.tmp (.tmp (.tmp .nil))))) rfl ?_
        exact ⟨rfl, HB.out⟩
      · rw [if_neg hx] at HX
        obtain ⟨m, hm, HX⟩ := Option.bind_eq_some_iff.mp HX
        obtain ⟨⟨ln, er⟩, hp, HX⟩ := Option.bind_eq_some_iff.mp HX
        replace HX : (if atoiB y = true ∧ er = 0 ∧ ln.toList = a0.toList then some (m, atoiN y, (⟨z.toArray⟩ : ByteArray), 0) else some (0, 0, ⟨#[]⟩, 5)) = some (r1, r2, r3, r4) := HX
        have HM := Aside0.mk hm
        have HP := Aside0.mk hp
        have HR := Aside0.mk HX
        clear hm hp HX
        have nx3 : x.isEmpty = false := by cases x with
          | nil => exact absurd rfl hx
          | cons _ _ => rfl
        clear hx
        cases hA : atoiB y with
        | false =>
          have HA := Aside0.mk hA
          obtain ⟨h1, h2, h3, h4⟩ : (0 : Int) = r1 ∧ (0 : Int) = r2 ∧ (⟨#[]⟩ : ByteArray) = r3 ∧ (5 : Int) = r4 := by
            have hr := HR.out
            rw [if_neg (by rw [hA]; simp)] at hr
            simpa using hr
          subst h1 h2 h3 h4
          clear hA
          go_enter Tryd.func12, Tryd.ntmps12
          go_wp2_with (first | (go_at_call 27; refine HC.out.mono ?_; rintro e w1 ⟨c, rfl, hc, hb⟩; have c0 := hc 0 (by simp); have c1 := hc 1 (by simp); have c2 := hc 2 (by simp); simp only [List.map_cons, List.getD_cons_zero, List.getD_cons_succ] at c0 c1 c2; have HB := Aside0.mk hb; clear hc hb) | (go_at_call 21; refine (start_minorOf.calls _ _ _ HM.out).mono ?_; rintro e w2 ⟨rfl, ⟨nd, rfl⟩⟩) | (go_at_call 28; refine (atoi_calls ⟨y.toArray⟩ HY.out _ ((HT.out.below HB.out).drewN _)).mono ?_; rintro e w3 ⟨er_, rfl, hk, hb⟩; obtain ⟨N_, rfl⟩ : ∃ N_, er_ = .iface 68 (.pointer (some ⟨N_, 0, none⟩)) := hk.elim (fun h_ => absurd (HA.out.symm.trans h_.1) (by simp)) (fun h_ => h_.2); clear hk; have c3 := (hb.cell (p := ⟨w.heap.size, 2, none⟩) (World.block_lt_of_cell? _ _ c2)).trans c2; have n1_ := Aside0.mk (below_step (pw_below_drewN HB.out _) hb); clear HB hb; have HB := n1_; clear n1_) | (go_at_call 14; refine (start_PutStatus.calls _ _ _ _ _ _ (HT.out.below HB.out) HP.out).mono ?_; rintro e w4 ⟨rfl, hb⟩; have c4 := (hb.cell (p := ⟨w.heap.size, 2, none⟩) (World.block_lt_of_cell? _ _ c3)).trans c3; have n1_ := Aside0.mk (below_step HB.out hb); clear HB hb; have HB := n1_; clear n1_))
          refine bodyPost_ret (results_list (rs := [.tmp 2, .tmp 3, .tmp 4, .tmp 5]) rfl (by simp) (.tmp (.tmp (.tmp (.tmp .nil))))) rfl ?_
          exact ⟨rfl, HB.out⟩
        | true =>
          have HA := Aside0.mk hA
          by_cases he : er = 0
          · by_cases hl : ln.toList = a0.toList
            · have hr := HR.out
              rw [if_pos ⟨hA, he, hl⟩] at hr
              simp only [Option.some.injEq, Prod.mk.injEq] at hr
              obtain ⟨rfl, rfl, rfl, rfl⟩ := hr
              subst he
              clear hA HR
              go_enter Tryd.func12, Tryd.ntmps12
              go_wp2_with (first | (go_at_call 27; refine HC.out.mono ?_; rintro e w1 ⟨c, rfl, hc, hb⟩; have c0 := hc 0 (by simp); have c1 := hc 1 (by simp); have c2 := hc 2 (by simp); simp only [List.map_cons, List.getD_cons_zero, List.getD_cons_succ] at c0 c1 c2; have HB := Aside0.mk hb; clear hc hb) | (go_at_call 21; refine (start_minorOf.calls _ _ _ HM.out).mono ?_; rintro e w2 ⟨rfl, ⟨nd, rfl⟩⟩) | (go_at_call 28; refine (atoi_calls ⟨y.toArray⟩ HY.out _ ((HT.out.below HB.out).drewN _)).mono ?_; rintro e w3 ⟨er_, rfl, hk, hb⟩; obtain rfl : er_ = .nilIface := hk.elim (fun h_ => h_.2) (fun h_ => absurd (HA.out.symm.trans h_.1) (by simp)); clear hk; have c3 := (hb.cell (p := ⟨w.heap.size, 2, none⟩) (World.block_lt_of_cell? _ _ c2)).trans c2; have n1_ := Aside0.mk (below_step (pw_below_drewN HB.out _) hb); clear HB hb; have HB := n1_; clear n1_) | (go_at_call 14; refine (start_PutStatus.calls _ _ _ _ _ _ (HT.out.below HB.out) HP.out).mono ?_; rintro e w4 ⟨rfl, hb⟩; have c4 := (hb.cell (p := ⟨w.heap.size, 2, none⟩) (World.block_lt_of_cell? _ _ c3)).trans c3; have n1_ := Aside0.mk (below_step HB.out hb); clear HB hb; have HB := n1_; clear n1_))
              clear c0 c1 c2 c3
              go_quiet (fail)
              all_goals go_wp2
              refine bodyPost_ret (results_list (rs := [.tmp 2, .tmp 3, .tmp 4, .tmp 5]) rfl (by simp) (.tmp (.tmp (.tmp (.tmp .nil))))) rfl ?_
              exact ⟨rfl, pw_below_drewN HB.out _⟩
            · obtain ⟨h1, h2, h3, h4⟩ : (0 : Int) = r1 ∧ (0 : Int) = r2 ∧ (⟨#[]⟩ : ByteArray) = r3 ∧ (5 : Int) = r4 := by
                have hr := HR.out
                rw [if_neg (fun e => hl e.2.2)] at hr
                simpa using hr
              subst h1 h2 h3 h4
              subst he
              have hl2 : (ln.toList == a0.toList) = false := by simpa using hl
              clear hA HR
              go_enter Tryd.func12, Tryd.ntmps12
              go_wp2_with (first | (go_at_call 27; refine HC.out.mono ?_; rintro e w1 ⟨c, rfl, hc, hb⟩; have c0 := hc 0 (by simp); have c1 := hc 1 (by simp); have c2 := hc 2 (by simp); simp only [List.map_cons, List.getD_cons_zero, List.getD_cons_succ] at c0 c1 c2; have HB := Aside0.mk hb; clear hc hb) | (go_at_call 21; refine (start_minorOf.calls _ _ _ HM.out).mono ?_; rintro e w2 ⟨rfl, ⟨nd, rfl⟩⟩) | (go_at_call 28; refine (atoi_calls ⟨y.toArray⟩ HY.out _ ((HT.out.below HB.out).drewN _)).mono ?_; rintro e w3 ⟨er_, rfl, hk, hb⟩; obtain rfl : er_ = .nilIface := hk.elim (fun h_ => h_.2) (fun h_ => absurd (HA.out.symm.trans h_.1) (by simp)); clear hk; have c3 := (hb.cell (p := ⟨w.heap.size, 2, none⟩) (World.block_lt_of_cell? _ _ c2)).trans c2; have n1_ := Aside0.mk (below_step (pw_below_drewN HB.out _) hb); clear HB hb; have HB := n1_; clear n1_) | (go_at_call 14; refine (start_PutStatus.calls _ _ _ _ _ _ (HT.out.below HB.out) HP.out).mono ?_; rintro e w4 ⟨rfl, hb⟩; have c4 := (hb.cell (p := ⟨w.heap.size, 2, none⟩) (World.block_lt_of_cell? _ _ c3)).trans c3; have n1_ := Aside0.mk (below_step HB.out hb); clear HB hb; have HB := n1_; clear n1_))
              refine bodyPost_ret (results_list (rs := [.tmp 2, .tmp 3, .tmp 4, .tmp 5]) rfl (by simp) (.tmp (.tmp (.tmp (.tmp .nil))))) rfl ?_
              exact ⟨rfl, HB.out⟩
          · obtain ⟨h1, h2, h3, h4⟩ : (0 : Int) = r1 ∧ (0 : Int) = r2 ∧ (⟨#[]⟩ : ByteArray) = r3 ∧ (5 : Int) = r4 := by
              have hr := HR.out
              rw [if_neg (fun e => he e.2.1)] at hr
              simpa using hr
            subst h1 h2 h3 h4
            have he1 : (er == 0) = false := by simpa using he
            have he2 : (er != 0) = true := by simpa using he
            clear hA HR he
            go_enter Tryd.func12, Tryd.ntmps12
            go_wp2_with (first | (go_at_call 27; refine HC.out.mono ?_; rintro e w1 ⟨c, rfl, hc, hb⟩; have c0 := hc 0 (by simp); have c1 := hc 1 (by simp); have c2 := hc 2 (by simp); simp only [List.map_cons, List.getD_cons_zero, List.getD_cons_succ] at c0 c1 c2; have HB := Aside0.mk hb; clear hc hb) | (go_at_call 21; refine (start_minorOf.calls _ _ _ HM.out).mono ?_; rintro e w2 ⟨rfl, ⟨nd, rfl⟩⟩) | (go_at_call 28; refine (atoi_calls ⟨y.toArray⟩ HY.out _ ((HT.out.below HB.out).drewN _)).mono ?_; rintro e w3 ⟨er_, rfl, hk, hb⟩; obtain rfl : er_ = .nilIface := hk.elim (fun h_ => h_.2) (fun h_ => absurd (HA.out.symm.trans h_.1) (by simp)); clear hk; have c3 := (hb.cell (p := ⟨w.heap.size, 2, none⟩) (World.block_lt_of_cell? _ _ c2)).trans c2; have n1_ := Aside0.mk (below_step (pw_below_drewN HB.out _) hb); clear HB hb; have HB := n1_; clear n1_) | (go_at_call 14; refine (start_PutStatus.calls _ _ _ _ _ _ (HT.out.below HB.out) HP.out).mono ?_; rintro e w4 ⟨rfl, hb⟩; have c4 := (hb.cell (p := ⟨w.heap.size, 2, none⟩) (World.block_lt_of_cell? _ _ c3)).trans c3; have n1_ := Aside0.mk (below_step HB.out hb); clear HB hb; have HB := n1_; clear n1_))
            refine bodyPost_ret (results_list (rs := [.tmp 2, .tmp 3, .tmp 4, .tmp 5]) rfl (by simp) (.tmp (.tmp (.tmp (.tmp .nil))))) rfl ?_
            exact ⟨rfl, HB.out⟩
    · have hr : some ((0 : Int), (0 : Int), (⟨#[]⟩ : ByteArray), (5 : Int)) = some (r1, r2, r3, r4) := by
        match pcs, h3 with
        | [], _ => exact h
        | [_], _ => exact h
        | [_, _], _ => exact h
        | [_, _, _], h3 => exact absurd rfl h3
        | _ :: _ :: _ :: _ :: _, _ => exact h
      simp only [Option.some.injEq, Prod.mk.injEq] at hr
      obtain ⟨rfl, rfl, rfl, rfl⟩ := hr
      have n3 : ((pb.length : Int) == 3) = false := by simp; have := HL.out; omega
      have n3' : ((pb.length : Int) != 3) = true := by simp; have := HL.out; omega
      clear h hs HE h3 HL
      go_enter Tryd.func12, Tryd.ntmps12
      go_wp2_with (go_at_call 27; refine HC.out.mono ?_; rintro e w1 ⟨c, rfl, hc, hb⟩; have HB := Aside0.mk hb; clear hc hb)
      refine bodyPost_ret (results_list (rs := [.tmp 2, .tmp 3, .tmp 4, .tmp 5]) rfl (by simp) (.tmp (.tmp (.tmp (.tmp .nil))))) rfl ?_
      exact ⟨rfl, HB.out⟩
  · exact absurd h (by simp)
end Go.Proofs.YtjmaobipfpiddaaDoor.P
