/- vary.Select: of each name its values, put together. -/
import Derived.Test.YtalolopngekgbaaDoorFBulk
import Derived.Test.YtalolopngekgbaaDoorShelf
import Derived.WalkSpells
import Derived.Lib.Join
set_option linter.unusedVariables false
set_option linter.unusedSimpArgs false
namespace Go.Proofs.YtalolopngekgbaaDoor.P
open Go.RowKit Go.Proofs.YtalolopngekgbaaDoorW.PrintWords Go.Proofs.YtalolopngekgbaaDoorW.PrintLast Go.Proofs.YtalolopngekgbaaDoorW.PrintMore

def sepS : ByteArray := ⟨#[44, 32]⟩
/-- Texts put together, a comma and a blank between. -/
def joinS (vs : List ByteArray) : ByteArray := ⟨(Lib.join (vs.map (·.data.toList)) sepS.data.toList).toArray⟩
def selOne (l : List S32) (n : ByteArray) : List S32 := if (getB l n).isEmpty then [] else [⟨n, joinS (getB l n)⟩]
def selB (ns : List ByteArray) (l : List S32) : List S32 := ns.flatMap (selOne l)
def vary_Select.f (l0 : List ByteArray) (l1 : List S32) : Option (List S32) := if bulkL l1 ≤ 1073741824 ∧ sumS l0 ≤ 1073741824 then some (selB l0 l1) else none

theorem strs_cells {e base : Nat} {ok : Nat → Prop} {W : World} {v : Value} {xs : List ByteArray} (h : Kd.R Kd.string e W base ok v xs) (hn : 0 < xs.length) : ∃ g c : Nat, v = .slice (some ⟨g, 0, none⟩) xs.length c ∧ (∀ (j : Nat) x, xs[j]? = some x → W.cell? ⟨g, 0 + j, none⟩ = some (.string x)) ∧ g < W.heap.size := by
  have ho := Kd.own_of_R h
  rcases ho.2 with ⟨rfl, hz⟩ | ⟨g, cap, cur, rfl, hb, hh, hr⟩
  · omega
  · refine ⟨g, cap, rfl, fun j x hj => ?_, blk_lt hh⟩
    obtain ⟨hl, rfl⟩ := List.getElem?_eq_some_iff.1 hj
    have := ho.cells (g := g) rfl j (.string xs[j]) (by simp [encs, hl])
    rw [add_plain] at this
    rw [Nat.zero_add]
    exact this
theorem join_two (x y : List UInt8) (r : List (List UInt8)) (sep : List UInt8) : Lib.join (x :: y :: r) sep = x ++ (sep ++ Lib.join (y :: r) sep) := by
  simp [Lib.join, List.intercalate, List.intersperse, List.flatten]
theorem join_len (sep : List UInt8) : ∀ xs : List (List UInt8), (Lib.join xs sep).length ≤ (xs.map fun x => x.length + sep.length).sum
  | [] => by simp [Lib.join, List.intercalate]
  | [x] => by simp [Lib.join, List.intercalate]
  | x :: y :: r => by
    have := join_len sep (y :: r)
    rw [join_two, List.length_append, List.length_append, List.map_cons, List.sum_cons]
    omega
theorem join_fits (l : List S32) (n : ByteArray) (h : bulkL l ≤ 1073741824) : (Lib.join ((getB l n).map (·.data.toList)) sepS.data.toList).length ≤ 140737488355328 := by
  have h1 := join_len sepS.data.toList ((getB l n).map (·.data.toList))
  have h2 := getB_sum l n
  have h3 : ∀ vs : List ByteArray, ((vs.map (·.data.toList)).map fun x => x.length + sepS.data.toList.length).sum ≤ 3 * sumS vs := fun vs => by
    induction vs with
    | nil => simp [sumS]
    | cons x r ih =>
      rw [sumS_cons, List.map_cons, List.map_cons, List.sum_cons]
      have e1 : x.data.toList.length = x.size := by rw [Array.length_toList]; rfl
      have e2 : sepS.data.toList.length = 2 := rfl
      rw [e1, e2]
      rw [e2] at ih
      omega
  have h4 := h3 (getB l n)
  omega
/-- What lies in memory: the request's fields, what was selected. -/
structure SlMem (w0 : World) (Bl Bo : Nat) (A1 : Option Addr) (c1 : Nat) (l : List S32) (v : Value) (acc : List S32) (W : World) : Prop where
  bl : W.heap[Bl]? = some (.cells #[.slice A1 l.length c1] 22 (0, 0))
  bo : W.heap[Bo]? = some (.cells #[v] 22 (0, 0))
  row : Kd.R k32 32 W w0.heap.size (fun k => k ≠ Bl ∧ k ≠ Bo) v acc
  below : Below w0.heap.size w0 W
  gl : w0.heap.size ≤ Bl
  go : w0.heap.size ≤ Bo
  ne : Bl ≠ Bo
theorem SlMem.later {w0 W W1 : World} {Bl Bo c1 : Nat} {A1 : Option Addr} {l acc : List S32} {v : Value} (M : SlMem w0 Bl Bo A1 c1 l v acc W) (hb : Below W.heap.size W W1) : SlMem w0 Bl Bo A1 c1 l v acc W1 :=
  ⟨(hb.block Bl (blk_lt M.bl)).trans M.bl, (hb.block Bo (blk_lt M.bo)).trans M.bo, Kd.R_below M.row hb, M.below.trans (hb.mono M.below.size), M.gl, M.go, M.ne⟩
theorem SlMem.setOut {w0 W W1 : World} {Bl Bo c1 : Nat} {A1 : Option Addr} {l acc l1 : List S32} {v v1 : Value} (M : SlMem w0 Bl Bo A1 c1 l v acc W) (hg : W.grownBy W1 v.ownBlock) (hb : Below w0.heap.size w0 W1) (ho : Kd.R k32 32 W1 w0.heap.size (fun k => k ≠ Bl ∧ k ≠ Bo) v1 l1) : SlMem w0 Bl Bo A1 c1 l v1 l1 (W1.setCell ⟨Bo, 0, none⟩ v1) := by
  have k := M.row.1
  exact ⟨blk_far (blk_grown M.bl hg (fun e => (k Bl e.symm).1 rfl)) M.ne _, (blk_set (blk_grown M.bo hg (fun e => (k Bo e.symm).2 rfl)) 0 _).trans (by simp), Kd.R_far ho (fun k hk => hk.2) _, hb.setCell M.go _, M.gl, M.go, M.ne⟩

set_option maxRecDepth 100000 in
set_option maxHeartbeats 2000000 in
theorem selWant (w0 : World) (Bl Bo : Nat) (A1 : Option Addr) (c1 : Nat) (l : List S32) (hr1 : Kd.C k32 w0 A1 l.length l) (hc1 : l.length ≤ c1) (n : ByteArray) (v : Value) (acc : List S32) (W : World) (M : SlMem w0 Bl Bo A1 c1 l v acc W) (hl : bulkL l ≤ 1073741824) (hn : n.size ≤ 1073741824) (ha : acc.length ≤ 1073741824) :
    Calls Tryd.prog 23 (#[.string n] ++ #[.pointer (some ⟨Bl, 0, none⟩), .pointer (some ⟨Bo, 0, none⟩)]) W fun e w' => e = .returned (.tuple #[]) ∧ ∃ v', SlMem w0 Bl Bo A1 c1 l v' (acc ++ selOne l n) w' := by
  have c0 : W.cell? ⟨Bl, 0, none⟩ = some (.slice A1 l.length c1) := (blk_cell M.bl 0).trans rfl
  have hG := head_Get.calls (l.length + 1) A1 c1 l n (getB l n) W (Kd.C_below hr1 (M.below)) hc1 (get_ok _ l n (by have := bulkL_len l; omega) (fun x hx => by have := bulkL_mem hx; omega) (by omega) (by omega))
  have HG := Aside0.mk hG
  have HM := Aside0.mk M
  have HN := Aside0.mk (And.intro hl (And.intro hn ha))
  clear hG M hl hn ha
  go_enter Tryd.func23, Tryd.ntmps23
  go_wp2_with fail
  refine HG.out.mono ?_
  rintro e w1 ⟨vG, rfl, hG, hb⟩
  have HM1 := Aside0.mk (HM.out.later hb)
  have HGo := Aside0.mk hG
  obtain ⟨Ag, cg, eg⟩ := Kd.R_slice hG
  subst eg
  clear HM hG hb c0 HG
  have f1 := blk_frozen HM1.out.bo 0
  have c2 : w1.cell? ⟨Bo, 0, none⟩ = some v := (blk_cell HM1.out.bo 0).trans rfl
  cases he : (getB l n).isEmpty with
  | true =>
    have e0 : (getB l n).length = 0 := by rw [List.isEmpty_iff] at he; rw [he]; rfl
    rw [e0] at *
    go_wp2
    go_end0
    exact ⟨rfl, v, by unfold selOne; rw [he, if_pos rfl, List.append_nil]; exact HM1.out⟩
  | false =>
    have e0 : 0 < (getB l n).length := by cases hg : getB l n with | nil => rw [hg] at he; cases he | cons x r => simp
    have e1 : (0 : Int) < ((getB l n).length : Int) := by omega
    obtain ⟨g, cg', eg, hcells, had⟩ := strs_cells HGo.out e0
    injection eg with eg1 _ eg2
    subst eg1 eg2
    have HJ := Aside0.mk (fun (W2 : World) (hb : Below w1.heap.size w1 W2) => Tryd.strings_Join g 0 cg (getB l n) sepS W2 (fun j x hj => by rw [← hcells j x hj]; exact hb.cell (p := ⟨g, 0 + j, none⟩) had) (Nat.lt_of_lt_of_le had hb.size) (by have := HN.out.1; have h1 := getB_length l n; have h2 := bulkL_len l; omega) (by have := Kd.R_reads' HGo.out; omega) (join_fits l n HN.out.1))
    obtain ⟨An, cn, en⟩ := Kd.R_slice HM1.out.row
    subst en
    have hsz : w1.heap.size ≤ w1.drew.heap.size := Nat.le_refl _
    have lb : ∀ (W : World), w1.heap.size ≤ W.heap.size → ∀ k, W.heap.size ≤ k → k ≠ Bl ∧ k ≠ Bo := fun W hW k hk => by
      have a1 := blk_lt HM1.out.bl; have a2 := blk_lt HM1.out.bo
      exact ⟨by omega, by omega⟩
    have LB := Aside0.mk lb
    clear lb hcells had hsz
    go_wp2
    go_region_law (first | (refine Kd.R_append_step k32 (w0 := w0) w0.heap.size rfl (.tmp 11) (.tmp 16) 22 32 (.agg #[(.string ⟨#[]⟩), (.string ⟨#[]⟩)]) 32 rfl Tryd.underlying22 info32 rfl (by decide) (by decide) (.slice An acc.length cn) acc (⟨n, joinS (getB l n)⟩ : S32) [.string n, .string (joinS (getB l n))] (fun k => k ≠ Bl ∧ k ≠ Bo) (fun _ => False) rfl rfl ?aP (fun _ hk => hk.elim) ?aF ?aO ?aB ?aS ?aL ?_; (case aP => exact k32_mkM _ _ _ (⟨n, joinS (getB l n)⟩ : S32)); (case aB => exact HM2.out.below); (case aF => exact LB.out _ HZ.out); (case aO => exact HM2.out.row); (case aS => exact HM2.out.below.size); (case aL => have := HN.out; omega); intro v1 w3 ho hb3 hg hat; obtain ⟨Ao, co, eo⟩ := Kd.R_slice ho; subst eo; rw [List.length_append, List.length_singleton] at ho; have HS3 := Aside0.mk (HM2.out.setOut hg hb3 ho); have f4 := blk_frozen (blk_grown HM2.out.bo hg (fun e => (HM2.out.row.1 Bo e.symm).2 rfl)) 0; have c4 : w3.cell? ⟨Bo, 0, none⟩ = some (.slice An acc.length cn) := (blk_cell (blk_grown HM2.out.bo hg (fun e => (HM2.out.row.1 Bo e.symm).2 rfl)) 0).trans rfl; clear ho hb3 hg hat) | (go_simp; go_at_call 24; refine (HJ.out _ (below_drew1 (Below.refl _ _))).mono ?_; rintro e w2 ⟨rfl, hb⟩; have HZ := Aside0.mk (show w1.heap.size ≤ w2.heap.size from hb.size); have HM2 := Aside0.mk ((HM1.out.later (below_drew1 (Below.refl _ _))).later hb); have f3 := blk_frozen HM2.out.bo 0; have c3 : w2.cell? ⟨Bo, 0, none⟩ = some (.slice An acc.length cn) := (blk_cell HM2.out.bo 0).trans rfl; have c3a : ∀ o : Obj, (w2.alloc o).cell? ⟨Bo, 0, none⟩ = some (.slice An acc.length cn) := fun o => (blk_cell (blk_alloc HM2.out.bo o) 0).trans rfl; clear hb))
    all_goals
      go_wp2
      go_end0
      exact ⟨rfl, _, by unfold selOne; rw [he, if_neg (by decide)]; exact HS3.out⟩

theorem selB_len (l : List S32) : ∀ ns : List ByteArray, (selB ns l).length ≤ ns.length
  | [] => by simp [selB]
  | n :: r => by
    have := selB_len l r
    unfold selB at this ⊢
    rw [List.flatMap_cons, List.length_append, List.length_cons]
    have h1 : (selOne l n).length ≤ 1 := by unfold selOne; split <;> simp
    omega
/-- What holds at the loop's head. -/
def SlRel (w0 : World) (A1 : Option Addr) (c1 : Nat) (l : List S32) (ns : List ByteArray) (kk : Nat) (wr : World) : Prop := ∃ v, SlMem w0 w0.heap.size (w0.heap.size + 1) A1 c1 l v (selB (ns.take kk) l) wr
set_option maxRecDepth 1000000 in
set_option maxHeartbeats 4000000 in
theorem vary_Select.calls (A0 : Option Addr) (c0 : Nat) (l0 : List ByteArray) (A1 : Option Addr) (c1 : Nat) (l1 : List S32) (r : List S32) (w : World) (hr0 : Kd.C Kd.string w A0 l0.length l0) (hc0 : l0.length ≤ c0) (hr1 : Kd.C k32 w A1 l1.length l1) (hc1 : l1.length ≤ c1) (h : vary_Select.f l0 l1 = some r) :
    Calls Tryd.prog 14 #[.slice A0 l0.length c0, .slice A1 l1.length c1] w fun e w' => ∃ v0_ : Value, e = .returned (v0_) ∧ Kd.R k32 32 w' w.heap.size (fun _ => True) v0_ r ∧ Below w.heap.size w w' := by
  unfold vary_Select.f at h
  split at h
  · rename_i hs
    have HRR := Aside0.mk (Option.some.inj h)
    have HS := Aside0.mk hs
    have HR0 := Aside0.mk hr0
    have HR1 := Aside0.mk hr1
    have hlen : l0.length ≤ sumS l0 := by
      have : ∀ l : List ByteArray, l.length ≤ sumS l := fun l => by
        induction l with
        | nil => simp
        | cons x r ih => rw [sumS_cons, List.length_cons]; omega
      exact this l0
    have hll : (l0.length : Int) ≤ 1073741824 := by have := hs.2; omega
    clear h hs hr0 hr1 hlen
    have eg : ∀ args w, (callFunc 23 args).run Tryd.prog w = .ok (.enter 23 args) w := enters_of Tryd.func23 (by kernel_rfl) rfl
    go_enter Tryd.func14, Tryd.ntmps14
    go_wp2
    go_loopw [12] (fun s12 wr => ∃ kk : Nat, s12 = .int .i64 kk ∧ kk ≤ l0.length ∧ Aside0 (SlRel w A1 c1 l1 l0 kk wr)) (fun s12 _ => l0.length - (intOf s12).toNat)
    case atStart =>
      have z : ∀ (W : World) (o : Obj), (W.alloc o).heap.size = W.heap.size + 1 := fun W o => by simp
      have b0 := blk_new w (.cells #[.slice A1 l1.length c1] 22 (0, 0))
      have b1 := blk_new (w.alloc (.cells #[.slice A1 l1.length c1] 22 (0, 0))) (.cells #[.slice none 0 0] 22 (0, 0))
      rw [z] at b1
      exact ⟨0, rfl, Nat.zero_le _, ⟨⟨.slice none 0 0, blk_alloc b0 _, b1, Kd.R_nil _ _ _ _ _, below_alloc (below_alloc (Below.refl _ w) _) _, Nat.le_refl _, by omega, by omega⟩⟩⟩
    case round =>
      rename_i s12
      obtain ⟨kk, rfl, hkk, HREL⟩ := hrel
      obtain ⟨v, M⟩ := HREL.out
      clear HREL
      by_cases hlt : kk < l0.length
      · have hltz : (kk : Int) < (l0.length : Int) := by omega
        obtain ⟨ad, cs, hA, hcs, hK, hcell⟩ := Kd.C_get HR0.out ByteArray.empty (kk : Int) (by omega) hltz
        subst hA
        have hK' : cs = [.string (l0.getD kk ByteArray.empty)] := hK
        have hx := hcell 0 (.string (l0.getD kk ByteArray.empty)) (by rw [hK']; rfl)
        have hx' : w.cell? (ad.add kk) = some (.string (l0.getD kk ByteArray.empty)) := by simpa [Kd.string, Kd.scalar] using hx
        have l2 := (M.below.cell (World.block_lt_of_cell? w _ hx')).trans hx'
        clear hcell hK hK' hx hcs hx'
        have hsum : (l0.getD kk ByteArray.empty).size + 1 ≤ sumS l0 := by
          have : ∀ (l : List ByteArray) (x : ByteArray), x ∈ l → x.size + 1 ≤ sumS l := fun l => by
            induction l with
            | nil => intro x hx; cases hx
            | cons y r ih => intro x hx; rw [sumS_cons]; rcases List.mem_cons.1 hx with rfl | hx; omega; have := ih x hx; omega
          exact this l0 _ (by rw [List.getD_eq_getElem?_getD, List.getElem?_eq_getElem hlt]; exact List.getElem_mem hlt)
        have hsn : selB (l0.take (kk + 1)) l1 = selB (l0.take kk) l1 ++ selOne l1 (l0.getD kk ByteArray.empty) := by
          unfold selB
          rw [List.take_succ_eq_append_getElem hlt, List.flatMap_append, List.getD_eq_getElem?_getD, List.getElem?_eq_getElem hlt]; simp
        have hacc : (selB (l0.take kk) l1).length ≤ 1073741824 := by have := selB_len l1 (l0.take kk); rw [List.length_take] at this; omega
        generalize l0.getD kk ByteArray.empty = y at l2 hsum hsn
        have HW := Aside0.mk (selWant w w.heap.size (w.heap.size + 1) A1 c1 l1 HR1.out hc1 y v _ wr M HS.out.1 (by have := HS.out.2; omega) hacc)
        have HSN := Aside0.mk hsn
        have HLT := Aside0.mk hlt
        clear M hsum hsn hacc
        go_wp2_with fail
        refine HW.out.mono ?_
        rintro e w' ⟨rfl, v', M'⟩
        have HM := Aside0.mk M'
        clear M' HW
        go_wp2
        go_roundw
        case rel => exact ⟨kk + 1, by go_num, HLT.out, ⟨⟨v', by rw [HSN.out]; exact HM.out⟩⟩⟩
        case measure => simp [intOf]; have := HLT.out; omega
      · have hke : kk = l0.length := by omega
        subst hke
        obtain ⟨An, cn, en⟩ := Kd.R_slice M.row
        rw [List.take_length, HRR.out] at M en
        subst en
        have c2 : wr.cell? ⟨w.heap.size + 1, 0, none⟩ = some (.slice An r.length cn) := (blk_cell M.bo 0).trans rfl
        have HM := Aside0.mk M
        clear M
        go_wp2
        go_ret
        exact ⟨_, rfl, Kd.R_mono HM.out.row (fun _ _ => trivial), HM.out.below⟩
  · exact absurd h (by simp)
end Go.Proofs.YtalolopngekgbaaDoor.P
