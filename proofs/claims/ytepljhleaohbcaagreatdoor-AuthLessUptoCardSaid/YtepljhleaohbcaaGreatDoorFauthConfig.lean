/- auth.Config: may a configuration be? -/
import Derived.Test.YtepljhleaohbcaaGreatDoorFauthTenant
import Derived.Test.YtepljhleaohbcaaGreatDoorPBase
import Derived.Maps.Own
import Derived.Maps.OwnOps
import Derived.Maps.Views
set_option linter.unusedVariables false
set_option linter.unusedSimpArgs false
namespace Go.Proofs.YtepljhleaohbcaaGreatDoor.P
open Go.RowKit Go.Proofs.YtepljhleaohbcaaGreatDoorW.PrintWords Go.Proofs.YtepljhleaohbcaaGreatDoorW.PrintLast Go.Proofs.YtepljhleaohbcaaGreatDoorW.PrintMore Go.Maps Go.WideMaps

instance memText (a : ByteArray) (l : List ByteArray) : Decidable (a ∈ l) := decidable_of_iff (l.any (fun y => decide (y = a)) = true) (by simp)
def tenantO (x : S27) : Option Bool := auth_Tenant.f x.f0 x.f1 x.f2 x.f3 x.f4 x.f5 x.f6 x.f7 x.f8
/-- Each tenant may be, each token stands once. -/
def cfgAll : List S27 → List ByteArray → Option Bool
  | [], _ => some true
  | x :: r, met => (tenantO x).bind fun b => if b = true ∧ x.f0 ∉ met then cfgAll r (x.f0 :: met) else some false
def cfgEnd (n : Nat) (s t : Int) : Bool := (decide (1 ≤ (n : Int)) && decide ((n : Int) ≤ 8)) && (decide (0 ≤ s) && (decide (s ≤ 16) && (decide (1 ≤ t) && decide (t ≤ 1099511627776))))
def auth_Config.f (l0_0 : List (S27)) (a0_1 : Int) (a0_2 : Int) : Option Bool := if l0_0.length ≤ 1073741824 then (cfgAll l0_0 []).bind fun b => some (b && cfgEnd l0_0.length a0_1 a0_2) else none

theorem tenant_size {x : S27} {b : Bool} (h : tenantO x = some b) : x.f0.size ≤ 1073741824 := by
  unfold tenantO auth_Tenant.f at h
  obtain ⟨m, hm, _⟩ := Option.bind_eq_some_iff.1 h
  unfold auth_May.f at hm
  split at hm
  · assumption
  · exact absurd hm (by simp)
theorem strKeyed : Keyed Tryz.prog 9 := string_keyed Tryz.underlying9
theorem zeroInt (w : World) : (zeroValue 3).run Tryz.prog w = .ok (.int .i64 0) w := by kernel_rfl
/-- A text as a key. -/
def keyS (s : ByteArray) : Lit := .string s.data.toList
theorem keyS_inj {a b : ByteArray} (h : keyS a = keyS b) : a = b := by
  unfold keyS at h
  injection h with h
  cases a; cases b
  congr 1
  exact Array.toList_inj.1 h
/-- What the map tells of each key: was it met? -/
structure MetInv (D : DataW Unit) (met : List ByteArray) : Prop where
  isMap : IsMap D
  tells : ∀ s : ByteArray, D.atKey (keyS s) (.lit (.int .i64 0)) = .lit (.int .i64 (if s ∈ met then 1 else 0))
theorem MetInv.start : MetInv (.map []) [] := ⟨isMap_empty, fun s => by simp [DataW.atKey]⟩
theorem MetInv.step {D : DataW Unit} {met : List ByteArray} (h : MetInv D met) (x : ByteArray) : MetInv (D.put (keyS x) (.lit (.int .i64 1))) (x :: met) := by
  refine ⟨h.isMap.put _ _, fun s => ?_⟩
  by_cases e : s = x
  · subst e
    rw [atKey_put_same (k := keyS s) h.isMap (by unfold keyS; trivial), if_pos List.mem_cons_self]
  · rw [atKey_put_other (fun e' => e (keyS_inj e')), h.tells s]
    have : (s ∈ x :: met) ↔ s ∈ met := by simp [e]
    simp only [this]
/-- What lies in memory: the map, the configuration. -/
structure CfMem (w : World) (cv : Array Value) (n : Nat) (D : DataW Unit) (W : World) : Prop where
  map : W.ownsMap Tryz.prog 9 (plainElem Tryz.prog 3) (w.heap.size + 1) n D
  bc : W.heap[w.heap.size]? = some (.cells cv 24 (0, 0))
  below : Below w.heap.size w W
theorem grown_below {W W1 : World} (hb : Below W.heap.size W W1) (row : Option Nat) : W.grownBy W1 row := ⟨hb.os, hb.tape, hb.output, hb.size, fun k hk _ => hb.block k hk⟩
theorem CfMem.later {w W W1 : World} {cv : Array Value} {n : Nat} {D : DataW Unit} (M : CfMem w cv n D W) (hb : Below W.heap.size W W1) : CfMem w cv n D W1 :=
  ⟨M.map.kept (grown_below hb none) (by simp), blk_below M.bc hb, M.below.trans (hb.mono M.below.size)⟩
theorem CfMem.put {w W W1 : World} {cv : Array Value} {n : Nat} {D D1 : DataW Unit} (M : CfMem w cv n D W) (hg : W.grownBy W1 (some (w.heap.size + 1))) (hm : W1.ownsMap Tryz.prog 9 (plainElem Tryz.prog 3) (w.heap.size + 1) (n + 1) D1) : CfMem w cv (n + 1) D1 W1 :=
  ⟨hm, (hg.block _ (blk_lt M.bc) (by intro e; injection e with e; omega)).trans M.bc, M.below.grown hg M.below.size (fun j hj => by cases hj; exact Nat.le_succ _)⟩
/-- What holds at the loop's head. -/
def CfRel (w : World) (cv : Array Value) (l : List S27) (kk : Nat) (b0 : Bool) (W : World) : Prop :=
  ∃ (met : List ByteArray) (D : DataW Unit), CfMem w cv kk D W ∧ MetInv D met ∧ cfgAll (l.drop kk) met = some b0

set_option maxRecDepth 1000000 in
set_option maxHeartbeats 4000000 in
theorem auth_Config.calls (A0_0 : Option Addr) (c0_0 : Nat) (l0_0 : List (S27)) (a0_1 : Int) (a0_2 : Int) (r : Bool) (w : World) (hr0_0 : Kd.C k27 w A0_0 l0_0.length l0_0) (hc0_0 : l0_0.length ≤ c0_0) (hT : Tab w) (h : auth_Config.f l0_0 a0_1 a0_2 = some r) :
    Calls Tryz.prog 9 #[.agg #[.slice A0_0 l0_0.length c0_0, .int .i64 a0_1, .int .i64 a0_2]] w fun e w' => e = .returned (.bool r) ∧ Below w.heap.size w w' := by
  unfold auth_Config.f at h
  split at h
  · rename_i hs
    obtain ⟨b0, hall, h⟩ := Option.bind_eq_some_iff.1 h
    have HR := Aside0.mk (Option.some.inj h)
    have HC := Aside0.mk hr0_0
    have HT := Aside0.mk hT
    have HS := Aside0.mk hs
    have hmm := @run_makeMap Tryz.prog
    have hz : (w.alloc (.cells #[.slice A0_0 l0_0.length c0_0, .int .i64 a0_1, .int .i64 a0_2] 24 (0, 0))).heap.size = w.heap.size + 1 := by simp
    have hM0 : CfMem w #[.slice A0_0 l0_0.length c0_0, .int .i64 a0_1, .int .i64 a0_2] 0 (.map []) ((w.alloc (.cells #[.slice A0_0 l0_0.length c0_0, .int .i64 a0_1, .int .i64 a0_2] 24 (0, 0))).alloc (.map #[] 0)) := by
      refine ⟨?_, blk_alloc (blk_new w _) _, below_alloc (below_alloc (Below.refl _ w) _) _⟩
      have := World.ownsMap_made (H := Unit) (P := Tryz.prog) (w.alloc (.cells #[.slice A0_0 l0_0.length c0_0, .int .i64 a0_1, .int .i64 a0_2] 24 (0, 0))) 9 (plainElem Tryz.prog 3)
      rw [hz] at this
      exact this
    have HM0 := Aside0.mk (show CfRel w #[.slice A0_0 l0_0.length c0_0, .int .i64 a0_1, .int .i64 a0_2] l0_0 0 b0 ((w.alloc (.cells #[.slice A0_0 l0_0.length c0_0, .int .i64 a0_1, .int .i64 a0_2] 24 (0, 0))).alloc (.map #[] 0)) from ⟨[], .map [], hM0, MetInv.start, by rw [List.drop_zero]; exact hall⟩)
    clear h hs hall hr0_0 hT hc0_0 hM0 hz
    go_enter Tryz.func9, Tryz.ntmps9
    go_wp2
    go_loopw [11] (fun v11 wr => ∃ kk : Nat, v11 = .int .i64 kk ∧ kk ≤ l0_0.length ∧ Aside0 (CfRel w #[.slice A0_0 l0_0.length c0_0, .int .i64 a0_1, .int .i64 a0_2] l0_0 kk b0 wr)) (fun s11 _ => l0_0.length - (intOf s11).toNat)
    case atStart => exact ⟨0, rfl, Nat.zero_le _, HM0⟩
    case round =>
      rename_i s11
      obtain ⟨kk, rfl, hkk, HREL⟩ := hrel
      obtain ⟨met, D, M, I, hdr⟩ := HREL.out
      clear HREL HM0 hmm
      by_cases hlt : kk < l0_0.length
      · have hltz : (kk : Int) < (l0_0.length : Int) := by omega
        obtain ⟨ad, A1, c1, hA, hx0, hx1, hx2, hx3, hx4, hx5, hx6, hx7, hx8, hl1, hi1⟩ := at_T27 HC.out (kk : Int) (by omega) hltz
        subst hA
        have l0 := (M.below.cell (World.block_lt_of_cell? w _ hx0)).trans hx0
        have l1 := (M.below.cell (World.block_lt_of_cell? w _ hx1)).trans hx1
        have l2 := (M.below.cell (World.block_lt_of_cell? w _ hx2)).trans hx2
        have l3 := (M.below.cell (World.block_lt_of_cell? w _ hx3)).trans hx3
        have l4 := (M.below.cell (World.block_lt_of_cell? w _ hx4)).trans hx4
        have l5 := (M.below.cell (World.block_lt_of_cell? w _ hx5)).trans hx5
        have l6 := (M.below.cell (World.block_lt_of_cell? w _ hx6)).trans hx6
        have l7 := (M.below.cell (World.block_lt_of_cell? w _ hx7)).trans hx7
        have l8 := (M.below.cell (World.block_lt_of_cell? w _ hx8)).trans hx8
        rw [show rd_T27 l0_0 (kk : Int) = l0_0.getD kk z27 from rfl] at l0 l1 l2 l3 l4 l5 l6 l7 l8 hl1 hi1
        simp only [Int.toNat_natCast] at l0 l1 l2 l3 l4 l5 l6 l7 l8
        clear hx0 hx1 hx2 hx3 hx4 hx5 hx6 hx7 hx8
        have hgd : l0_0.getD kk z27 = l0_0[kk] := by rw [List.getD_eq_getElem?_getD, List.getElem?_eq_getElem hlt]; rfl
        rw [List.drop_eq_getElem_cons hlt, ← hgd, cfgAll] at hdr
        clear hgd
        generalize l0_0.getD kk z27 = y at l0 l1 l2 l3 l4 l5 l6 l7 l8 hl1 hi1 hdr
        obtain ⟨b, hb, hdr⟩ := Option.bind_eq_some_iff.1 hdr
        have hsz := tenant_size hb
        have HKEY := Aside0.mk (show keyOf Tryz.prog 9 (.string y.f0) = some (keyS y.f0) from keyOf_string_mk Tryz.underlying9 (by unfold maxLen; omega))
        have hbw := below_alloc M.below (.cells #[.string y.f0, .slice A1 y.f1.length c1, .int .i64 y.f2, .int .i64 y.f3, .int .i64 y.f4, .int .i64 y.f5, .int .i64 y.f6, .int .i64 y.f7, .int .i64 y.f8] 27 (0, 0))
        have HA := Aside0.mk (auth_Tenant.calls y.f0 A1 c1 y.f1 y.f2 y.f3 y.f4 y.f5 y.f6 y.f7 y.f8 b (wr.alloc (.cells #[.string y.f0, .slice A1 y.f1.length c1, .int .i64 y.f2, .int .i64 y.f3, .int .i64 y.f4, .int .i64 y.f5, .int .i64 y.f6, .int .i64 y.f7, .int .i64 y.f8] 27 (0, 0))) (Kd.C_below hi1 hbw) hl1 (HT.out.below hbw) hb)
        have HN := Aside0.mk (show (wr.alloc (.cells #[.string y.f0, .slice A1 y.f1.length c1, .int .i64 y.f2, .int .i64 y.f3, .int .i64 y.f4, .int .i64 y.f5, .int .i64 y.f6, .int .i64 y.f7, .int .i64 y.f8] 27 (0, 0))).heap[wr.heap.size]? = some (.cells #[.string y.f0, .slice A1 y.f1.length c1, .int .i64 y.f2, .int .i64 y.f3, .int .i64 y.f4, .int .i64 y.f5, .int .i64 y.f6, .int .i64 y.f7, .int .i64 y.f8] 27 (0, 0)) from blk_new wr _)
        have HMA := Aside0.mk (M.later (below_alloc (Below.refl wr.heap.size wr) (.cells #[.string y.f0, .slice A1 y.f1.length c1, .int .i64 y.f2, .int .i64 y.f3, .int .i64 y.f4, .int .i64 y.f5, .int .i64 y.f6, .int .i64 y.f7, .int .i64 y.f8] 27 (0, 0))))
        have HI := Aside0.mk I
        have HKB := Aside0.mk (show kk < maxLen by unfold maxLen; have := HS.out; omega)
        have HLT := Aside0.mk hlt
        have HQ := Aside0.mk (I.tells y.f0)
        have hlz : (l0_0.length : Int) ≤ 1073741824 := by have := HS.out; omega
        clear hi1 hl1 hb hsz hbw M I hlt
        cases b with
        | false =>
          rw [if_neg (by rintro ⟨h, _⟩; cases h)] at hdr
          have hb0 := Option.some.inj hdr
          subst hb0
          clear hdr
          go_wp2_with fail
          refine HA.out.mono ?_
          rintro e w2 ⟨rfl, hb⟩
          have HM2 := Aside0.mk (HMA.out.later hb)
          clear hb
          go_wp2
          go_ret
          exact ⟨congrArg (fun b => Ending.returned (Value.bool b)) HR.out, HM2.out.below⟩
        | true =>
          by_cases hm : y.f0 ∈ met
          · rw [if_neg (fun h => h.2 hm)] at hdr
            have hb0 := Option.some.inj hdr
            subst hb0
            rw [if_pos hm] at HQ
            have HC0 := HQ
            clear hdr HQ hm
            go_wp2_with fail
            refine HA.out.mono ?_
            rintro e w2 ⟨rfl, hb⟩
            have HM2 := Aside0.mk (HMA.out.later hb)
            have bt := blk_below HN.out hb
            have ct := (blk_cell bt 0).trans rfl
            clear hb bt
            obtain ⟨c, hrun, hat, _⟩ := HM2.out.map.lookup_int strKeyed Tryz.underlying52 Tryz.underlying3 (zeroInt _) HKEY.out
            obtain rfl : c = 1 := by rw [HC0.out] at hat; injection hat with hat; injection hat with _ hat; exact hat.symm
            clear hat
            go_wp2_with fail
            go_ret
            exact ⟨congrArg (fun b => Ending.returned (Value.bool b)) HR.out, HM2.out.below⟩
          · rw [if_pos ⟨rfl, hm⟩] at hdr
            rw [if_neg hm] at HQ
            have HC0 := HQ
            have HD := Aside0.mk hdr
            clear hdr HQ hm
            go_wp2_with fail
            refine HA.out.mono ?_
            rintro e w2 ⟨rfl, hb⟩
            have HM2 := Aside0.mk (HMA.out.later hb)
            have bt := blk_below HN.out hb
            have ct := (blk_cell bt 0).trans rfl
            clear hb bt
            obtain ⟨c, hrun, hat, _⟩ := HM2.out.map.lookup_int strKeyed Tryz.underlying52 Tryz.underlying3 (zeroInt _) HKEY.out
            obtain rfl : c = 0 := by rw [HC0.out] at hat; injection hat with hat; injection hat with _ hat; exact hat.symm
            clear hat
            go_wp2_with (first | (at_mapUpdate; refine wpList_mapUpdate_own _ rfl _ _ _ 52 rfl 9 3 strKeyed Tryz.underlying52 _ (w.heap.size + 1) kk _ rfl HM2.out.map HKB.out _ _ _ rfl rfl HKEY.out _ [] (plainElem_int Tryz.underlying3 (by decide)) ?_; intro w3 hm3 hg3; have HM4 := Aside0.mk (HM2.out.put hg3 hm3); clear hm3 hg3))
            go_roundw
            case rel => exact ⟨kk + 1, by go_num, HLT.out, ⟨⟨_, _, HM4.out, HI.out.step y.f0, HD.out⟩⟩⟩
            case measure => simp [intOf]; have := HLT.out; omega
      · have hke : kk = l0_0.length := by omega
        subst hke
        rw [List.drop_length] at hdr
        have hb0 := Option.some.inj hdr
        subst hb0
        have HM := Aside0.mk M
        have HR2 := Aside0.mk (show cfgEnd l0_0.length a0_1 a0_2 = r by have := HR.out; rw [Bool.true_and] at this; exact this)
        have c0 := (blk_cell M.bc 0).trans rfl
        have c1 := (blk_cell M.bc 1).trans rfl
        have c2 := (blk_cell M.bc 2).trans rfl
        clear hdr M I HR hkk hlt
        unfold cfgEnd at HR2
        go_wp2
        all_goals go_ret
        all_goals refine ⟨congrArg (fun b => Ending.returned (Value.bool b)) ?_, HM.out.below⟩
        all_goals rw [← HR2.out]
        all_goals clear HR2 HM HC HT HS
        all_goals first
          | (simp [*]; done)
          | (rw [Bool.eq_iff_iff]; simp [*]; done)
          | (rw [Bool.eq_iff_iff]; simp; omega)
          | (simp; omega)
  · exact absurd h (by simp)
end Go.Proofs.YtepljhleaohbcaaGreatDoor.P
