/- head.Parse: the walk, a part. -/
import Derived.Test.YtdofgilfmgdpkaaDoorFheadParseB
set_option linter.unusedVariables false
set_option linter.unusedSimpArgs false
namespace Go.Proofs.YtdofgilfmgdpkaaDoor.P
open Go.RowKit Go.Proofs.YtdofgilfmgdpkaaDoorW.PrintWords Go.Proofs.YtdofgilfmgdpkaaDoorW.PrintLast Go.Proofs.YtdofgilfmgdpkaaDoorW.PrintMore
theorem sub_reads {b : List Int} {ad : Addr} {c0 : Nat} {w wx : World} (HC : PC b (some ad) c0 w) (i m : Nat) (h : i + m ≤ b.length) (hb : Below w.heap.size w wx) : ReadsInt wx .u8 (some (ad.add i)) m ((b.drop i).take m) := by
  have hsm := HC.small
  refine ⟨by rw [List.length_take, List.length_drop]; omega, by omega, fun _ => ⟨_, rfl, fun j hj => ?_⟩⟩
  obtain ⟨ad', cs, hA, hcs, hK, hcell⟩ := Kd.C_get HC.reads (0 : Int) ((i + j : Nat) : Int) (by omega) (by omega)
  obtain rfl := Option.some.inj hA
  have hK' : cs = [.int .u8 (b.getD (i + j) 0)] := hK
  have hx := hcell 0 (.int .u8 (b.getD (i + j) 0)) (by rw [hK']; rfl)
  have hx' : w.cell? (ad.add (i + j)) = some (.int .u8 (b.getD (i + j) 0)) := by
    rw [Int.toNat_natCast, show (i + j) * (Kd.int IntKind.u8).sz + 0 = i + j from by show (i + j) * 1 + 0 = i + j; omega] at hx
    exact hx
  have hbl := World.block_lt_of_cell? w _ hx'
  have hx2 := (hb.cell hbl).trans hx'
  have ea : (ad.add i).add j = ad.add (i + j) := Addr.add_add ad i j
  have eg : ((b.drop i).take m).getD j 0 = b.getD (i + j) 0 := by
    rw [List.getD_eq_getElem?_getD, List.getD_eq_getElem?_getD, List.getElem?_take, if_pos hj, List.getElem?_drop]
  rw [ea, eg]
  exact hx2
theorem sub_converts {b : List Int} {ad : Addr} {c0 : Nat} {w wx : World} (HC : PC b (some ad) c0 w) (i m cap : Nat) (h : i + m ≤ b.length) (hb : Below w.heap.size w wx) : (convert 22 9 (.slice (some (ad.add i)) m cap)).run Tryd.prog wx = .ok (.string (strOfNums ((b.drop i).take m))) wx :=
  string_of_reads (P := Tryd.prog) Tryd.underlying22 Tryd.underlying5 Tryd.underlying9 (sub_reads HC i m h hb)
theorem sub_slices (ad : Addr) (n cap : Nat) (lo hi : Int) (h0 : 0 ≤ lo) (h1 : lo ≤ hi) (h2 : hi ≤ cap) (h3 : lo < cap) (hp : 0 < lo ∨ True) (W : World) : (Instr.sliceAt 22 (.slice (some ad) n cap) (some (.int .i64 lo)) (some (.int .i64 hi)) none).run Tryd.prog W = .ok (.slice (some (ad.add lo.toNat)) (hi.toNat - lo.toNat) (cap - lo.toNat)) W := by
  rw [run_sliceAt_slice W 22 _ _ _ _ (by kernel_rfl), run_slice_lh W 22 (some ad) n cap (by kernel_rfl) .i64 .i64 lo hi h0 h1 h2]
  have hz : (sizeOf (Tryd.prog.elem 22)).run Tryd.prog W = .ok 1 W := by kernel_rfl
  rw [hz]
  show Result.ok (sliced _ _ _ _ _) _ = _
  unfold sliced
  rw [if_neg (by omega)]
  simp

set_option maxHeartbeats 4000000 in
set_option maxRecDepth 100000 in
theorem lab_ended (b : List Int) (R : PR) (A : Option Addr) (c0 : Nat) (w : World) (k : Nat) (a : Act) (wr : World) (HC : Aside0 (PC b A c0 w)) (fall : FallsYtdofgilfmgdpkaaDoor Tryd.prog parseScope (PJ b R A c0 w) (PEnd R w) (fun g' => g' < k))
    (pl from' to' : Nat) (c : Int) (l : List S45) (v6 : Value) (e9 : Int) (hF : PFr A b.length c0 w.heap.size v6 from' to' e9 a) (HS : Aside0 (PS b A c0 w wr pl c v6 l)) (hp : pGo b k .ended pl from' to' c l = some R) (q1 : from' + 1 < to') (q2 : to' + 1 ≤ pl) (q3 : l.length < 32) :
    PPass b R A c0 w k 7 a wr := by
  have FALL := Aside0.mk fall
  clear fall
  refine ⟨_, rfl, ?_⟩
  obtain ⟨f, rfl⟩ := hF
  match k, hp, FALL with
  | 0, hp, _ => exact absurd hp (by simp [pGo])
  | k + 1, hp, FALL =>
    rw [pGo] at hp
    unfold PEnd
    have hsm := HC.out.small
    have hcap := HC.out.cap
    have hal := HS.out.at_le
    obtain ⟨ad, cs, rfl, _, _, _⟩ := Kd.C_get HC.out.reads (0 : Int) 0 (by omega) (by omega)
    obtain ⟨r0, r1, r2, _, _⟩ := HS.out.rd.cells
    obtain ⟨A6, c6, rfl⟩ := own_shape HS.out.own
    have e1 : IntKind.i64.wrap ((to' : Int) - 1) = (to' : Int) - 1 := by rw [IntKind.wrap_i64]; omega
    have e2 : IntKind.i64.wrap ((pl : Int) - 1) = (pl : Int) - 1 := by rw [IntKind.wrap_i64]; omega
    have k1 := fun W => sub_slices ad b.length c0 from' ((to' : Int) - 1) (by omega) (by omega) (by omega) (by omega) (.inr trivial) W
    have k2 := fun W => sub_slices ad b.length c0 to' ((pl : Int) - 1) (by omega) (by omega) (by omega) (by omega) (.inr trivial) W
    rw [Int.toNat_natCast] at k1 k2
    have HB := HS.out.below
    have k3 := fun (W : World) (hW : Below wr.heap.size wr W) => sub_converts HC.out from' (to' - 1 - from') (c0 - from') (by omega) (HB.trans (hW.mono HB.size))
    have k4 := fun (W : World) (hW : Below wr.heap.size wr W) => sub_converts HC.out to' (pl - 1 - to') (c0 - to') (by omega) (HB.trans (hW.mono HB.size))
    have k3a := k3 wr.drew (below_drew1 (Below.refl _ _))
    have k4a := k4 wr.drew (below_drew1 (Below.refl _ _))
    have TRIM : Aside0 (text_Trim.f (strOfNums ((b.drop to').take (pl - 1 - to'))) = some (trimB (strOfNums ((b.drop to').take (pl - 1 - to'))))) := ⟨by
      unfold text_Trim.f
      rw [if_pos]
      have : (strOfNums ((b.drop to').take (pl - 1 - to'))).size = ((b.drop to').take (pl - 1 - to')).length := by simp [strOfNums, ByteArray.size]
      rw [this, List.length_take, List.length_drop]
      omega⟩
    have K3 := Aside0.mk k3
    have K4 := Aside0.mk k4
    clear k3 k4
    go_wp2_with fail
    have hslt : w.heap.size < wr.heap.size := (Array.getElem?_eq_some_iff.1 HS.out.rd).1
    clear r0 r1 r2 HB
    obtain ⟨r0, r1, r2, _, _⟩ := HS.out.rd.cells
    go_region_law (first | (refine Kd.R_append_step k45 (w0 := w) w.heap.size rfl (.tmp 100) (.tmp 118) 23 45 (.agg #[(.string ⟨#[]⟩), (.string ⟨#[]⟩)]) 32 rfl Tryd.underlying23 info45 rfl (by decide) (by omega) (.slice A6 l.length c6) l (pField b from' to' pl) [.string (pField b from' to' pl).f0, .string (pField b from' to' pl).f1] (fun k => k ≠ w.heap.size) (fun _ => False) rfl rfl ?aP (fun _ hk => hk.elim) ?aF ?aO ?aB ?aS ?aL ?_; (case aP => exact k45_mkM _ _ _ _); (case aB => exact HS2.out.below); (case aF => exact fun k hk => by have := HB2.out.size; omega); (case aO => exact HS2.out.own); (case aS => exact HS2.out.below.size); (case aL => omega); intro v1 w3 ho hb3 hg hat; have HS3 := Aside0.mk (HS2.out.grown hg ho hb3 q3); clear ho hb3 hg hat) | (go_simp; go_at_call 27; refine (text_Trim.calls _ _ _ TRIM.out).mono ?_; rintro e w2 ⟨rfl, hb⟩; have k3c := K3.out w2 (below_step (below_drew1 (Below.refl _ _)) hb); have HB2 := Aside0.mk (below_step (below_drew1 (Below.refl wr.heap.size wr)) hb); have HS2 := Aside0.mk (HS.out.later HB2.out); clear hb))
    all_goals
      clear r0 r1 r2
      clear k1 k2 k3a k3c k4a
      go_wp2_with fail
      refine (next_tells HC.out HS3.out).mono ?_
      rintro e w' ⟨e9', rfl, hN⟩
      rcases hN with ⟨h1, rfl, hS⟩ | ⟨h1, h2, rfl, hS⟩ | ⟨h1, h2, h3, rfl, x, hx, hby, hS⟩
      · rw [if_pos h1] at hp
        have hp := Option.some.inj hp
        go_wp2
        refine wp_goto ?_; refine Exists.intro k ⟨Nat.lt_succ_self k, _, _, _, _, _, _, _, PFr.of _ _ rfl rfl, .inr (.inr (.inr (.inr (.inr (.inr (.inr ⟨rfl, hp.symm⟩)))))), hS⟩
      · rw [if_neg h1, if_pos h2] at hp
        have hp := Option.some.inj hp
        go_wp2
        refine wp_goto ?_; refine Exists.intro k ⟨Nat.lt_succ_self k, _, _, _, _, _, _, _, PFr.of _ _ rfl rfl, .inr (.inr (.inr (.inr (.inr (.inr (.inr ⟨rfl, hp.symm⟩)))))), hS⟩
      · rw [if_neg h1, if_neg h2] at hp
        simp only [hx] at hp
        have HS4 := Aside0.mk hS
        obtain ⟨r0, r1, r2, _, _⟩ := hS.rd.cells
        clear hS hx
        by_cases h4 : x = 10
        · rw [if_pos h4] at hp
          rw [h4] at r2
          go_wp2
          refine wp_goto ?_; refine Exists.intro k ⟨Nat.lt_succ_self k, _, _, _, _, _, _, _, PFr.of _ _ rfl rfl, .inl ⟨rfl, h4 ▸ hp⟩, HS4.out⟩
        · rw [if_neg h4] at hp
          have hp := Option.some.inj hp
          have e4 : (x == (10 : Int)) = false := beq_eq_false_iff_ne.2 h4
          go_wp2
          refine wp_goto ?_; refine Exists.intro k ⟨Nat.lt_succ_self k, _, _, _, _, _, _, _, PFr.of _ _ rfl rfl, .inr (.inr (.inr (.inr (.inr (.inr (.inl ⟨rfl, hp.symm⟩)))))), HS4.out⟩
end Go.Proofs.YtdofgilfmgdpkaaDoor.P
