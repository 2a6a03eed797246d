/- auth.Tenant: may a tenant be? -/
import Derived.Test.YtepljhleaohbcaaGreatDoorFLow
import Derived.Test.YtepljhleaohbcaaGreatDoorQaclAll
set_option linter.unusedVariables false
set_option linter.unusedSimpArgs false
namespace Go.Proofs.YtepljhleaohbcaaGreatDoor.P
open Go.RowKit Go.Proofs.YtepljhleaohbcaaGreatDoorW.PrintWords Go.Proofs.YtepljhleaohbcaaGreatDoorW.PrintLast Go.Proofs.YtepljhleaohbcaaGreatDoorW.PrintMore

/-- Is a number in its bounds, and was all else? -/
def inB (m : Bool) (n lo hi : Int) : Bool := m && (decide (lo ≤ n) && decide (n ≤ hi))
/-- What lies in memory: the tenant, and whether it may be so far. -/
structure TenMem (w : World) (g : Nat) (tv : Array Value) (m : Bool) (W : World) : Prop where
  bt : W.heap[w.heap.size]? = some (.cells tv 27 (0, 0))
  bm : W.heap[g]? = some (.cells #[.bool m] 4 (0, 0))
  ne : w.heap.size ≠ g
  ge : w.heap.size ≤ g
  below : Below w.heap.size w W
theorem TenMem.set {w W : World} {g : Nat} {tv : Array Value} {m : Bool} (M : TenMem w g tv m W) (b : Bool) : TenMem w g tv b (W.setCell ⟨g, 0, none⟩ (.bool b)) :=
  ⟨blk_far M.bt M.ne _, (blk_set M.bm 0 _).trans (by simp), M.ne, M.ge, M.below.setCell M.ge _⟩
set_option maxHeartbeats 2000000 in
theorem inClosure (w : World) (g : Nat) (tv : Array Value) (m : Bool) (n lo hi : Int) (W : World) (M : TenMem w g tv m W) :
    Calls Tryz.prog 25 (#[.int .i64 n, .int .i64 lo, .int .i64 hi] ++ #[.pointer (some ⟨g, 0, none⟩)]) W fun e w' => e = .returned (.tuple #[]) ∧ TenMem w g tv (inB m n lo hi) w' := by
  have c0 : W.cell? ⟨g, 0, none⟩ = some (.bool m) := (blk_cell M.bm 0).trans rfl
  have f0 := blk_frozen M.bm 0
  have HM := Aside0.mk M
  clear M
  unfold inB
  cases m
  · rw [Bool.false_and]
    have hM := HM.out.set (false)
    clear HM
    go_enter Tryz.func25, Tryz.ntmps25
    go_wp2_with fail
    go_end0
    exact ⟨rfl, hM⟩
  · rw [Bool.true_and]
    by_cases h1 : lo ≤ n
    · have e1 : decide (lo ≤ n) = true := decide_eq_true h1
      rw [e1, Bool.true_and]
      by_cases h2 : n ≤ hi
      · have e2 : decide (n ≤ hi) = true := decide_eq_true h2
        rw [e2]
        have hM := HM.out.set (true)
        clear HM
        go_enter Tryz.func25, Tryz.ntmps25
        go_wp2_with fail
        go_end0
        exact ⟨rfl, hM⟩
      · have e2 : decide (n ≤ hi) = false := decide_eq_false h2
        rw [e2]
        have hM := HM.out.set (false)
        clear HM
        go_enter Tryz.func25, Tryz.ntmps25
        go_wp2_with fail
        go_end0
        exact ⟨rfl, hM⟩
    · have e1 : decide (lo ≤ n) = false := decide_eq_false h1
      rw [e1, Bool.false_and]
      have hM := HM.out.set (false)
      clear HM
      go_enter Tryz.func25, Tryz.ntmps25
      go_wp2_with fail
      go_end0
      exact ⟨rfl, hM⟩
def tenB (x : Bool) (a0_2 a0_3 a0_4 a0_5 a0_6 a0_7 a0_8 : Int) : Bool := inB (inB (inB (inB (inB (inB (inB x a0_2 0 262144) a0_3 0 64) a0_4 1 16) a0_5 1 8) a0_6 0 16) a0_7 1 1000) a0_8 1 1000
def auth_Tenant.f (a0_0 : ByteArray) (l0_1 : List S46) (a0_2 a0_3 a0_4 a0_5 a0_6 a0_7 a0_8 : Int) : Option Bool := (auth_May.f a0_0).bind fun m => (if m = true then acl_All.f l0_1 else some false).bind fun x => some (tenB x a0_2 a0_3 a0_4 a0_5 a0_6 a0_7 a0_8)
set_option maxHeartbeats 4000000 in
theorem auth_Tenant.calls (a0_0 : ByteArray) (A0_1 : Option Addr) (c0_1 : Nat) (l0_1 : List S46) (a0_2 a0_3 a0_4 a0_5 a0_6 a0_7 a0_8 : Int) (r : Bool) (w : World) (hr0_1 : Kd.C k46 w A0_1 l0_1.length l0_1) (hc0_1 : l0_1.length ≤ c0_1) (hT : Tab w) (h : auth_Tenant.f a0_0 l0_1 a0_2 a0_3 a0_4 a0_5 a0_6 a0_7 a0_8 = some r) :
    Calls Tryz.prog 11 #[.agg #[.string a0_0, .slice A0_1 l0_1.length c0_1, .int .i64 a0_2, .int .i64 a0_3, .int .i64 a0_4, .int .i64 a0_5, .int .i64 a0_6, .int .i64 a0_7, .int .i64 a0_8]] w fun e w' => e = .returned (.bool r) ∧ Below w.heap.size w w' := by
  unfold auth_Tenant.f at h
  obtain ⟨m, hm, h⟩ := Option.bind_eq_some_iff.1 h
  obtain ⟨x, hx, h⟩ := Option.bind_eq_some_iff.1 h
  have HR := Aside0.mk (Option.some.inj h)
  have HM := Aside0.mk (fun W => auth_May.calls a0_0 m W hm)
  have HA := Aside0.mk (fun (W : World) (hb : Below w.heap.size w W) (b : Bool) (hb2 : acl_All.f l0_1 = some b) => acl_All.calls A0_1 c0_1 l0_1 b W (Kd.C_below hr0_1 hb) hc0_1 (hT.below hb) hb2)
  have HX := Aside0.mk hx
  have hmf : ∀ (fn : Fn) (first cap : Array Value) (w : World), (Instr.makeFunc fn first cap).run Tryz.prog w = .ok (.func fn first cap) w := fun _ _ _ _ => rfl
  have HT0 := Aside0.mk (show (w.alloc (.cells #[.string a0_0, .slice A0_1 l0_1.length c0_1, .int .i64 a0_2, .int .i64 a0_3, .int .i64 a0_4, .int .i64 a0_5, .int .i64 a0_6, .int .i64 a0_7, .int .i64 a0_8] 27 (0, 0))).heap[w.heap.size]? = some (.cells #[.string a0_0, .slice A0_1 l0_1.length c0_1, .int .i64 a0_2, .int .i64 a0_3, .int .i64 a0_4, .int .i64 a0_5, .int .i64 a0_6, .int .i64 a0_7, .int .i64 a0_8] 27 (0, 0)) from blk_new w _)
  have HB0 := Aside0.mk (below_alloc (Below.refl w.heap.size w) (.cells #[.string a0_0, .slice A0_1 l0_1.length c0_1, .int .i64 a0_2, .int .i64 a0_3, .int .i64 a0_4, .int .i64 a0_5, .int .i64 a0_6, .int .i64 a0_7, .int .i64 a0_8] 27 (0, 0)))
  clear h hm hx hr0_1 hT hc0_1
  cases m with
  | true =>
    rw [if_pos rfl] at HX
    go_enter Tryz.func11, Tryz.ntmps11
    go_wp2_with fail
    refine (HM.out _).mono ?_
    rintro e w1 ⟨rfl, hb1⟩
    have BT1 := blk_below HT0.out hb1
    have HB1 := Aside0.mk (HB0.out.trans (hb1.mono HB0.out.size))
    have ca := (blk_cell BT1 1).trans rfl
    clear hb1
    have HBT := Aside0.mk BT1
    clear BT1
    go_wp2_with fail
    refine (HA.out _ HB1.out x HX.out).mono ?_
    rintro e w2 ⟨rfl, hb2⟩
    have BT := blk_below HBT.out hb2
    have HB := Aside0.mk (HB1.out.trans (hb2.mono HB1.out.size))
    clear hb2 HB1 HBT ca
    have hm0 : TenMem w w2.heap.size #[.string a0_0, .slice A0_1 l0_1.length c0_1, .int .i64 a0_2, .int .i64 a0_3, .int .i64 a0_4, .int .i64 a0_5, .int .i64 a0_6, .int .i64 a0_7, .int .i64 a0_8] x (w2.alloc (.cells #[.bool x] 4 (0, 0))) := by
      have z := blk_lt BT
      have n0 : w.heap.size ≠ w2.heap.size := Nat.ne_of_lt z
      exact ⟨blk_alloc BT _, blk_new w2 _, n0, Nat.le_of_lt z, below_alloc HB.out _⟩
    have HM0 := Aside0.mk hm0
    clear hm0
    clear BT HA HM HT0 HB0
    have ct0 := (blk_cell HM0.out.bt 2).trans rfl
    go_wp2_with fail
    refine (inClosure w _ _ _ _ _ _ _ HM0.out).mono ?_
    rintro e u1 ⟨rfl, hm⟩
    have HM1 := Aside0.mk hm
    clear hm ct0 HM0
    have ct1 := (blk_cell HM1.out.bt 3).trans rfl
    go_wp2_with fail
    refine (inClosure w _ _ _ _ _ _ _ HM1.out).mono ?_
    rintro e u2 ⟨rfl, hm⟩
    have HM2 := Aside0.mk hm
    clear hm ct1 HM1
    have ct2 := (blk_cell HM2.out.bt 4).trans rfl
    go_wp2_with fail
    refine (inClosure w _ _ _ _ _ _ _ HM2.out).mono ?_
    rintro e u3 ⟨rfl, hm⟩
    have HM3 := Aside0.mk hm
    clear hm ct2 HM2
    have ct3 := (blk_cell HM3.out.bt 5).trans rfl
    go_wp2_with fail
    refine (inClosure w _ _ _ _ _ _ _ HM3.out).mono ?_
    rintro e u4 ⟨rfl, hm⟩
    have HM4 := Aside0.mk hm
    clear hm ct3 HM3
    have ct4 := (blk_cell HM4.out.bt 6).trans rfl
    go_wp2_with fail
    refine (inClosure w _ _ _ _ _ _ _ HM4.out).mono ?_
    rintro e u5 ⟨rfl, hm⟩
    have HM5 := Aside0.mk hm
    clear hm ct4 HM4
    have ct5 := (blk_cell HM5.out.bt 7).trans rfl
    go_wp2_with fail
    refine (inClosure w _ _ _ _ _ _ _ HM5.out).mono ?_
    rintro e u6 ⟨rfl, hm⟩
    have HM6 := Aside0.mk hm
    clear hm ct5 HM5
    have ct6 := (blk_cell HM6.out.bt 8).trans rfl
    go_wp2_with fail
    refine (inClosure w _ _ _ _ _ _ _ HM6.out).mono ?_
    rintro e u7 ⟨rfl, hm⟩
    have HM7 := Aside0.mk hm
    clear hm ct6 HM6
    have cm := (blk_cell HM7.out.bm 0).trans rfl
    go_wp2_with fail
    go_ret
    exact ⟨congrArg (fun b => Ending.returned (Value.bool b)) HR.out, HM7.out.below⟩
  | false =>
    rw [if_neg (by decide)] at HX
    have hx0 : x = false := (Option.some.inj HX.out).symm
    subst hx0
    go_enter Tryz.func11, Tryz.ntmps11
    go_wp2_with fail
    refine (HM.out _).mono ?_
    rintro e w1 ⟨rfl, hb1⟩
    have BT := blk_below HT0.out hb1
    have HB := Aside0.mk (HB0.out.trans (hb1.mono HB0.out.size))
    clear hb1
    have hm0 : TenMem w w1.heap.size #[.string a0_0, .slice A0_1 l0_1.length c0_1, .int .i64 a0_2, .int .i64 a0_3, .int .i64 a0_4, .int .i64 a0_5, .int .i64 a0_6, .int .i64 a0_7, .int .i64 a0_8] false (w1.alloc (.cells #[.bool false] 4 (0, 0))) := by
      have z := blk_lt BT
      have n0 : w.heap.size ≠ w1.heap.size := Nat.ne_of_lt z
      exact ⟨blk_alloc BT _, blk_new w1 _, n0, Nat.le_of_lt z, below_alloc HB.out _⟩
    have HM0 := Aside0.mk hm0
    clear hm0
    clear BT HA HM HT0 HB0
    have ct0 := (blk_cell HM0.out.bt 2).trans rfl
    go_wp2_with fail
    refine (inClosure w _ _ _ _ _ _ _ HM0.out).mono ?_
    rintro e u1 ⟨rfl, hm⟩
    have HM1 := Aside0.mk hm
    clear hm ct0 HM0
    have ct1 := (blk_cell HM1.out.bt 3).trans rfl
    go_wp2_with fail
    refine (inClosure w _ _ _ _ _ _ _ HM1.out).mono ?_
    rintro e u2 ⟨rfl, hm⟩
    have HM2 := Aside0.mk hm
    clear hm ct1 HM1
    have ct2 := (blk_cell HM2.out.bt 4).trans rfl
    go_wp2_with fail
    refine (inClosure w _ _ _ _ _ _ _ HM2.out).mono ?_
    rintro e u3 ⟨rfl, hm⟩
    have HM3 := Aside0.mk hm
    clear hm ct2 HM2
    have ct3 := (blk_cell HM3.out.bt 5).trans rfl
    go_wp2_with fail
    refine (inClosure w _ _ _ _ _ _ _ HM3.out).mono ?_
    rintro e u4 ⟨rfl, hm⟩
    have HM4 := Aside0.mk hm
    clear hm ct3 HM3
    have ct4 := (blk_cell HM4.out.bt 6).trans rfl
    go_wp2_with fail
    refine (inClosure w _ _ _ _ _ _ _ HM4.out).mono ?_
    rintro e u5 ⟨rfl, hm⟩
    have HM5 := Aside0.mk hm
    clear hm ct4 HM4
    have ct5 := (blk_cell HM5.out.bt 7).trans rfl
    go_wp2_with fail
    refine (inClosure w _ _ _ _ _ _ _ HM5.out).mono ?_
    rintro e u6 ⟨rfl, hm⟩
    have HM6 := Aside0.mk hm
    clear hm ct5 HM5
    have ct6 := (blk_cell HM6.out.bt 8).trans rfl
    go_wp2_with fail
    refine (inClosure w _ _ _ _ _ _ _ HM6.out).mono ?_
    rintro e u7 ⟨rfl, hm⟩
    have HM7 := Aside0.mk hm
    clear hm ct6 HM6
    have cm := (blk_cell HM7.out.bm 0).trans rfl
    go_wp2_with fail
    go_ret
    exact ⟨congrArg (fun b => Ending.returned (Value.bool b)) HR.out, HM7.out.below⟩
end Go.Proofs.YtepljhleaohbcaaGreatDoor.P
