/- Contracts of small functions and plain laws, laid together. Conditions: none but those that each theorem names. -/
import Derived.Test.YtepljhleaohbcaaGreatDoorQ0
import Derived.Test.YtepljhleaohbcaaGreatDoorFLow
import Derived.Shelf.Abstract
import Derived.Test.YtepljhleaohbcaaGreatDoorShelf
import Derived.Lib.ItoaNum
import Derived.Lib.AppendIntMem
import Derived.BigCall
import Derived.Shelf.Pu.ErrVarParseUint
import Derived.Lib.Split
import Derived.Lib.SplitLaws
set_option linter.unusedVariables false
set_option linter.unusedSimpArgs false

section
/- slices.ContainsFunc over rules, for every predicate that answers at the slice's rules. -/
namespace Go.Proofs.YtepljhleaohbcaaGreatDoor.P
open Go.RowKit Go.Proofs.YtepljhleaohbcaaGreatDoorW.PrintWords Go.Proofs.YtepljhleaohbcaaGreatDoorW.PrintLast Go.Proofs.YtepljhleaohbcaaGreatDoorW.PrintMore

/-- What is asked of a predicate handed over: at each rule, in every later world, it answers and leaves what was. -/
def PredOnR (g : Nat) (lb : Array Value) (p : S46 → Bool) (l : List S46) (w : World) : Prop :=
  ∀ (W : World) (x : S46) (A : Option Addr) (c : Nat), x ∈ l → Kd.C Kd.string w A x.f4.length x.f4 → x.f4.length ≤ c → Below w.heap.size w W → Calls Tryz.prog g (#[.agg #[.bool x.f0, .string x.f1, .int .i64 x.f2, .int .i64 x.f3, .slice A x.f4.length c]] ++ lb) W fun e w' => e = .returned (.bool (p x)) ∧ Below W.heap.size W w'
/-- What the search answers: the first place at which p holds, or -1. -/
def IdxRules (p : S46 → Bool) (l : List S46) (i : Int) : Prop := (i = -1 ∧ l.any p = false) ∨ ∃ k : Nat, i = (k : Int) ∧ l.any p = true
theorem IdxRules.sign {p : S46 → Bool} {l : List S46} {i : Int} (h : IdxRules p l i) : decide (0 ≤ i) = l.any p := by
  rcases h with ⟨rfl, h⟩ | ⟨k, rfl, h⟩
  · rw [h]; rfl
  · rw [h]; simp

set_option maxHeartbeats 2000000 in
theorem indexRules (A : Option Addr) (c : Nat) (l : List S46) (g : Nat) (lb : Array Value) (eg : ∀ args w, (callFunc g args).run Tryz.prog w = .ok (.enter g args) w) (p : S46 → Bool) (w : World)
    (hr : Kd.C k46 w A l.length l) (hp : PredOnR g lb p l w) :
    Calls Tryz.prog 59 #[.slice A l.length c, .func (.func g) #[] lb] w fun e w' => ∃ i : Int, e = .returned (.int .i64 i) ∧ Aside0 (IdxRules p l i) ∧ Below w.heap.size w w' := by
  have hm : l.length ≤ 9223372036854775807 := hr.2.1
  have HR := Aside0.mk hr
  clear hr
  go_enter Tryz.func59, Tryz.ntmps59
  go_wp2
  go_loopg [5, 8] l.length (fun gg _ s8 wr => ∃ kk : Nat, kk ≤ l.length ∧ l.length - kk ≤ gg ∧ s8 = .int .i64 kk ∧ Aside0 (Below w.heap.size w wr) ∧ Aside0 ((l.take kk).any p = false))
  case atStart => exact ⟨0, Nat.zero_le _, by omega, rfl, ⟨Below.refl _ w⟩, ⟨by simp⟩⟩
  case round =>
    obtain ⟨kk, hkk, hg, rfl, BW, AN⟩ := hrel
    by_cases hlt : kk < l.length
    · have hltz : (kk : Int) < (l.length : Int) := by omega
      obtain ⟨ad, A4, c4, hA, hx0, hx1, hx2, hx3, hx4, hl4, hi4⟩ := at_T46 HR.out (kk : Int) (by omega) hltz
      subst hA
      have l0 := (BW.out.cell (World.block_lt_of_cell? w _ hx0)).trans hx0
      have l1 := (BW.out.cell (World.block_lt_of_cell? w _ hx1)).trans hx1
      have l2 := (BW.out.cell (World.block_lt_of_cell? w _ hx2)).trans hx2
      have l3 := (BW.out.cell (World.block_lt_of_cell? w _ hx3)).trans hx3
      have l4 := (BW.out.cell (World.block_lt_of_cell? w _ hx4)).trans hx4
      rw [show rd_T46 l (kk : Int) = l.getD kk z46 from rfl] at l0 l1 l2 l3 l4 hl4 hi4
      simp only [Int.toNat_natCast] at l0 l1 l2 l3 l4
      clear hx0 hx1 hx2 hx3 hx4
      have hmem : l.getD kk z46 ∈ l := by rw [List.getD_eq_getElem?_getD, List.getElem?_eq_getElem hlt]; exact List.getElem_mem hlt
      have hcall := hp wr (l.getD kk z46) A4 c4 hmem hi4 hl4 BW.out
      have hsn : l.take (kk + 1) = l.take kk ++ [l.getD kk z46] := by
        rw [List.take_succ_eq_append_getElem hlt, List.getD_eq_getElem?_getD, List.getElem?_eq_getElem hlt]; rfl
      have HSN := Aside0.mk hsn
      clear hsn hp hl4 hi4
      generalize hy : l.getD kk z46 = y at l0 l1 l2 l3 l4 hcall hmem HSN
      have HY := Aside0.mk hmem
      clear hy hmem
      cases hq : p y with
      | true =>
        rw [hq] at hcall
        have HQ := Aside0.mk hq
        clear hq
        go_wp2_with fail
        refine hcall.mono ?_
        rintro e w' ⟨rfl, hb'⟩
        go_wp2
        go_ret
        exact ⟨_, rfl, ⟨.inr ⟨kk, rfl, List.any_eq_true.2 ⟨y, HY.out, HQ.out⟩⟩⟩, BW.out.trans (hb'.mono BW.out.size)⟩
      | false =>
        rw [hq] at hcall
        have HQ := Aside0.mk hq
        clear hq
        go_wp2_with fail
        refine hcall.mono ?_
        rintro e w' ⟨rfl, hb'⟩
        go_wp2
        go_roundg (l.length - (kk + 1))
        case measure => omega
        case rel => exact ⟨kk + 1, by omega, by omega, by go_num, ⟨BW.out.trans (hb'.mono BW.out.size)⟩, ⟨by rw [HSN.out, List.any_append, AN.out]; simp [HQ.out]⟩⟩
    · have hltz : ¬ (kk : Int) < (l.length : Int) := by omega
      have hkl : kk = l.length := by omega
      have HN := Aside0.mk (show l.any p = false by have := AN.out; rwa [hkl, List.take_length] at this)
      subst hkl
      clear AN hltz
      go_wp2
      go_ret
      exact ⟨_, rfl, ⟨.inl ⟨rfl, HN.out⟩⟩, BW.out⟩
theorem containsRules (A : Option Addr) (c : Nat) (l : List S46) (g : Nat) (lb : Array Value) (eg : ∀ args w, (callFunc g args).run Tryz.prog w = .ok (.enter g args) w) (p : S46 → Bool) (w : World)
    (hr : Kd.C k46 w A l.length l) (hp : PredOnR g lb p l w) :
    Calls Tryz.prog 42 #[.slice A l.length c, .func (.func g) #[] lb] w fun e w' => e = .returned (.bool (l.any p)) ∧ Below w.heap.size w w' := by
  go_enter Tryz.func42, Tryz.ntmps42
  go_wp2_with fail
  refine (indexRules A c l g lb eg p w hr hp).mono ?_
  rintro e w' ⟨i, rfl, hi, hb⟩
  go_wp2
  go_ret
  refine ⟨?_, hb⟩
  rw [← hi.out.sign]
  rfl
end Go.Proofs.YtepljhleaohbcaaGreatDoor.P
end

section
/- uri.all, for every predicate. -/
namespace Go.Proofs.YtepljhleaohbcaaGreatDoor.P
open Go.RowKit Go.Proofs.YtepljhleaohbcaaGreatDoorW.PrintWords Go.Proofs.YtepljhleaohbcaaGreatDoorW.PrintLast Go.Proofs.YtepljhleaohbcaaGreatDoorW.PrintMore

theorem any_notU (l : List Int) (p : Int → Bool) : (!(l.any fun x => !p x)) = l.all p := by
  induction l with
  | nil => rfl
  | cons x r ih => simp only [List.any_cons, List.all_cons, Bool.not_or, Bool.not_not, ih]

set_option maxHeartbeats 1000000 in
theorem notClosureU (B g : Nat) (lb : Array Value) (eg : ∀ args w, (callFunc g args).run Tryz.prog w = .ok (.enter g args) w) (p : Int → Bool) (x : Int) (W : World)
    (hc : W.cell? ⟨B, 0, none⟩ = some (.func (.func g) #[] lb))
    (hp : Calls Tryz.prog g (#[.int .u8 x] ++ lb) W fun e w' => e = .returned (.bool (p x)) ∧ Below W.heap.size W w') :
    Calls Tryz.prog 91 (#[.int .u8 x] ++ #[.pointer (some ⟨B, 0, none⟩)]) W fun e w' => e = .returned (.bool (!p x)) ∧ Below W.heap.size W w' := by
  go_enter Tryz.func91, Tryz.ntmps91
  go_wp2_with fail
  refine hp.mono ?_
  rintro e w' ⟨rfl, hb⟩
  go_wp2
  go_ret
  exact ⟨rfl, hb⟩

set_option maxHeartbeats 1000000 in
theorem allU_calls (s : ByteArray) (g : Nat) (lb : Array Value) (eg : ∀ args w, (callFunc g args).run Tryz.prog w = .ok (.enter g args) w) (p : Int → Bool) (w : World) (hs : s.size ≤ 9223372036854775807)
    (hp : PredOn g lb (.int .u8) p (bytesOf s) w) :
    Calls Tryz.prog 73 #[.string s, .func (.func g) #[] lb] w fun e w' => e = .returned (.bool ((bytesOf s).all p)) ∧ Below w.heap.size w w' := by
  have kc := fun W => Lib.run_convert_string_bytes (P := Tryz.prog) W 9 42 5 s Tryz.underlying9 Tryz.underlying42 Tryz.underlying5
  have hmf : ∀ (fn : Fn) (first cap : Array Value) (w : World), (Instr.makeFunc fn first cap).run Tryz.prog w = .ok (.func fn first cap) w := fun _ _ _ _ => rfl
  have e57 : ∀ args w, (callFunc 91 args).run Tryz.prog w = .ok (.enter 91 args) w := enters_of Tryz.func91 (by kernel_rfl) rfl
  have hsz : ∀ o : Obj, (w.alloc o).heap.size = w.heap.size + 1 := fun o => by simp
  have hr := reads_bytes (w.alloc (.cells #[.func (.func g) #[] lb] 57)) s hs
  rw [hsz] at hr
  have hB1 : Below w.heap.size w (Lib.bytesWorld (w.alloc (.cells #[.func (.func g) #[] lb] 57)) 5 s) := bytes_below ((Below.refl _ w).alloc (Nat.le_refl _) _) (by simp) 5 s
  have hcell : (Lib.bytesWorld (w.alloc (.cells #[.func (.func g) #[] lb] 57)) 5 s).cell? ⟨w.heap.size, 0, none⟩ = some (.func (.func g) #[] lb) := by
    rw [Lib.bytesWorld_old _ _ _ _ (by simp)]
    exact (blk_cell (blk_new w _) 0).trans rfl
  have hC := containsBytes (some ⟨w.heap.size + 1, 0, none⟩) (grownCap (w.alloc (.cells #[.func (.func g) #[] lb] 57)) s.size 0 5) (bytesOf s) 91 #[.pointer (some ⟨w.heap.size, 0, none⟩)] e57 (fun x => !p x) _ hr
    (fun W x hx hb => (notClosureU w.heap.size g lb eg p x W ((hb.cell (p := ⟨w.heap.size, 0, none⟩) (by rw [Lib.bytesWorld_size]; simp; omega)).trans hcell) (hp W x hx (hB1.trans (hb.mono hB1.size)))))
  rw [bytesOf_length] at hC
  have HB1 := Aside0.mk hB1
  have HC := Aside0.mk hC
  clear hC hr hB1 hcell hsz hp eg
  go_enter Tryz.func73, Tryz.ntmps73
  go_wp2_with fail
  refine HC.out.mono ?_
  rintro e w' ⟨rfl, hb⟩
  go_wp2
  go_ret
  refine ⟨?_, HB1.out.trans (hb.mono HB1.out.size)⟩
  rw [← any_notU]
  rfl
end Go.Proofs.YtepljhleaohbcaaGreatDoor.P
end

section
/- What uri's functions hand on: which bytes of labels and numbers are right. -/
namespace Go.Proofs.YtepljhleaohbcaaGreatDoor.P
open Go.RowKit Go.Proofs.YtepljhleaohbcaaGreatDoorW.PrintWords Go.Proofs.YtepljhleaohbcaaGreatDoorW.PrintLast Go.Proofs.YtepljhleaohbcaaGreatDoorW.PrintMore

/-- A small letter, or a digit? -/
def plainI (c : Int) : Bool := (decide (97 ≤ c) && decide (c ≤ 122)) || (decide (48 ≤ c) && decide (c ≤ 57))
/-- A byte of a label? -/
def labelI (c : Int) : Bool := plainI c || decide (c = 45)
def digitI (c : Int) : Bool := decide (48 ≤ c) && decide (c ≤ 57)
def hexSigns : List UInt8 := [48, 49, 50, 51, 52, 53, 54, 55, 56, 57, 97, 98, 99, 100, 101, 102, 65, 66, 67, 68, 69, 70]
def hexI (c : Int) : Bool := decide (0 ≤ Lib.indexByte hexSigns c.toNat.toUInt8)
set_option maxHeartbeats 1000000 in
theorem plainClosure (x : Int) (W : World) : Calls Tryz.prog 75 #[.int .u8 x] W fun e w' => e = .returned (.bool (plainI x)) ∧ w' = W := by
  unfold plainI
  go_enter Tryz.func75, Tryz.ntmps75
  go_wp2
  all_goals go_ret
  all_goals refine ⟨congrArg (fun b => Ending.returned (Value.bool b)) ?_, rfl⟩
  all_goals first | (simp [*]; done) | (rw [Bool.eq_iff_iff]; simp [*]; done) | (rw [Bool.eq_iff_iff]; simp; omega)
set_option maxHeartbeats 1000000 in
theorem labelClosure (x : Int) (W : World) : Calls Tryz.prog 74 #[.int .u8 x] W fun e w' => e = .returned (.bool (labelI x)) ∧ w' = W := by
  have HP := Aside0.mk (plainClosure x)
  unfold labelI
  generalize plainI x = p at HP ⊢
  go_enter Tryz.func74, Tryz.ntmps74
  go_wp2_with (go_at_call 75; refine (HP.out _).mono ?_; rintro e w' ⟨rfl, rfl⟩)
  all_goals go_ret
  all_goals refine ⟨congrArg (fun b => Ending.returned (Value.bool b)) ?_, rfl⟩
  all_goals first | rfl | (simp [*]; done) | (rw [Bool.eq_iff_iff]; simp [*]; done)
set_option maxHeartbeats 1000000 in
theorem digitClosure (x : Int) (W : World) : Calls Tryz.prog 94 #[.int .u8 x] W fun e w' => e = .returned (.bool (digitI x)) ∧ w' = W := by
  unfold digitI
  go_enter Tryz.func94, Tryz.ntmps94
  go_wp2
  all_goals go_ret
  all_goals refine ⟨congrArg (fun b => Ending.returned (Value.bool b)) ?_, rfl⟩
  all_goals first | rfl | (simp [*]; done) | (rw [Bool.eq_iff_iff]; simp [*]; done) | (rw [Bool.eq_iff_iff]; simp; omega)
set_option maxHeartbeats 1000000 in
theorem hexClosure (x : Int) (W : World) : Calls Tryz.prog 93 #[.int .u8 x] W fun e w' => e = .returned (.bool (hexI x)) ∧ w' = W := by
  have hIx : ∀ w, Calls Tryz.prog 29 #[.string ⟨#[48, 49, 50, 51, 52, 53, 54, 55, 56, 57, 97, 98, 99, 100, 101, 102, 65, 66, 67, 68, 69, 70]⟩, .int .u8 x] w fun e w' => e = .returned (.int .i64 (Lib.indexByte hexSigns x.toNat.toUInt8)) ∧ w' = w := fun w => Tryz.strings_IndexByte ⟨#[48, 49, 50, 51, 52, 53, 54, 55, 56, 57, 97, 98, 99, 100, 101, 102, 65, 66, 67, 68, 69, 70]⟩ x w
  unfold hexI
  generalize Lib.indexByte hexSigns x.toNat.toUInt8 = ix at hIx ⊢
  have HX := Aside0.mk hIx
  clear hIx
  go_enter Tryz.func93, Tryz.ntmps93
  go_wp2_with (go_at_call 29; refine (HX.out _).mono ?_; rintro e w' ⟨rfl, rfl⟩)
  all_goals go_ret
  all_goals refine ⟨congrArg (fun b => Ending.returned (Value.bool b)) ?_, rfl⟩
  all_goals first | rfl | (simp [*]; done) | (rw [Bool.eq_iff_iff]; simp; omega)
theorem pred_of (g : Nat) (p : Int → Bool) (h : ∀ x W, Calls Tryz.prog g #[.int .u8 x] W fun e w' => e = .returned (.bool (p x)) ∧ w' = W) (l : List Int) (w : World) : PredOn g #[] (.int .u8) p l w :=
  fun W x _ _ => (h x W).mono fun e w' ⟨he, hw⟩ => ⟨he, by subst hw; exact Below.refl _ _⟩
def uri_all_uri_Named_1.f (a0 : ByteArray) : Option (Bool) := if a0.size ≤ 9223372036854775807 then some ((bytesOf a0).all labelI) else none
theorem uri_all_uri_Named_1.calls (a0 : ByteArray) (r : Bool) (w : World) (h : uri_all_uri_Named_1.f a0 = some r) :
    Calls Tryz.prog 73 #[.string a0, .func (.func 74) #[] #[]] w fun e w' => e = .returned (.bool r) ∧ Below w.heap.size w w' := by
  unfold uri_all_uri_Named_1.f at h
  split at h
  · rename_i hs
    rw [← Option.some.inj h]
    exact allU_calls a0 74 #[] (enters_of Tryz.func74 (by kernel_rfl) rfl) labelI w hs (pred_of _ _ labelClosure _ w)
  · exact absurd h (by simp)
def uri_all_uri_numeric_1.f (a0 : ByteArray) : Option (Bool) := if a0.size ≤ 9223372036854775807 then some ((bytesOf a0).all hexI) else none
theorem uri_all_uri_numeric_1.calls (a0 : ByteArray) (r : Bool) (w : World) (h : uri_all_uri_numeric_1.f a0 = some r) :
    Calls Tryz.prog 73 #[.string a0, .func (.func 93) #[] #[]] w fun e w' => e = .returned (.bool r) ∧ Below w.heap.size w w' := by
  unfold uri_all_uri_numeric_1.f at h
  split at h
  · rename_i hs
    rw [← Option.some.inj h]
    exact allU_calls a0 93 #[] (enters_of Tryz.func93 (by kernel_rfl) rfl) hexI w hs (pred_of _ _ hexClosure _ w)
  · exact absurd h (by simp)
def uri_all_uri_numeric_2.f (a0 : ByteArray) : Option (Bool) := if a0.size ≤ 9223372036854775807 then some ((bytesOf a0).all digitI) else none
theorem uri_all_uri_numeric_2.calls (a0 : ByteArray) (r : Bool) (w : World) (h : uri_all_uri_numeric_2.f a0 = some r) :
    Calls Tryz.prog 73 #[.string a0, .func (.func 94) #[] #[]] w fun e w' => e = .returned (.bool r) ∧ Below w.heap.size w w' := by
  unfold uri_all_uri_numeric_2.f at h
  split at h
  · rename_i hs
    rw [← Option.some.inj h]
    exact allU_calls a0 94 #[] (enters_of Tryz.func94 (by kernel_rfl) rfl) digitI w hs (pred_of _ _ digitClosure _ w)
  · exact absurd h (by simp)
end Go.Proofs.YtepljhleaohbcaaGreatDoor.P
end

section
/- slices.ContainsFunc over strings, for every predicate that answers at the slice's bytes. -/
namespace Go.Proofs.YtepljhleaohbcaaGreatDoor.P
open Go.RowKit Go.Proofs.YtepljhleaohbcaaGreatDoorW.PrintWords Go.Proofs.YtepljhleaohbcaaGreatDoorW.PrintLast Go.Proofs.YtepljhleaohbcaaGreatDoorW.PrintMore

/-- What is asked of a predicate handed over: at each element, in every later world, it answers and leaves what was. -/
def PredOnS (g : Nat) (lb : Array Value) (enc : ByteArray → Value) (p : ByteArray → Bool) (l : List ByteArray) (w : World) : Prop :=
  ∀ (W : World) (x : ByteArray), x ∈ l → Below w.heap.size w W → Calls Tryz.prog g (#[enc x] ++ lb) W fun e w' => e = .returned (.bool (p x)) ∧ Below W.heap.size W w'

/-- What the search answers: the first place at which p holds, or -1. -/
def IdxStrs (p : ByteArray → Bool) (l : List ByteArray) (i : Int) : Prop := (i = -1 ∧ l.any p = false) ∨ ∃ k : Nat, i = (k : Int) ∧ k < l.length ∧ (l.take k).any p = false ∧ p (l.getD k ByteArray.empty) = true
theorem IdxStrs.sign {p : ByteArray → Bool} {l : List ByteArray} {i : Int} (h : IdxStrs p l i) : decide (0 ≤ i) = l.any p := by
  rcases h with ⟨rfl, h⟩ | ⟨k, rfl, hk, _, h⟩
  · rw [h]; rfl
  · have : l.any p = true := by
      rw [List.any_eq_true]
      refine ⟨l.getD k ByteArray.empty, ?_, h⟩
      rw [List.getD_eq_getElem?_getD, List.getElem?_eq_getElem hk]; exact List.getElem_mem hk
    rw [this]; simp

set_option maxHeartbeats 1000000 in
theorem indexStrs (A : Option Addr) (c : Nat) (l : List ByteArray) (g : Nat) (lb : Array Value) (eg : ∀ args w, (callFunc g args).run Tryz.prog w = .ok (.enter g args) w) (p : ByteArray → Bool) (w : World)
    (hr : Kd.C Kd.string w A l.length l) (hp : PredOnS g lb Value.string p l w) :
    Calls Tryz.prog 58 #[.slice A l.length c, .func (.func g) #[] lb] w fun e w' => ∃ i : Int, e = .returned (.int .i64 i) ∧ Aside0 (IdxStrs p l i) ∧ Below w.heap.size w w' := by
  have hm : l.length ≤ 9223372036854775807 := hr.2.1
  have HR := Aside0.mk hr
  clear hr
  go_enter Tryz.func58, Tryz.ntmps58
  go_wp2
  go_loopg [5, 8] l.length (fun gg _ s8 wr => ∃ kk : Nat, kk ≤ l.length ∧ l.length - kk ≤ gg ∧ s8 = .int .i64 kk ∧ Aside0 (Below w.heap.size w wr) ∧ Aside0 ((l.take kk).any p = false))
  case atStart => exact ⟨0, Nat.zero_le _, by omega, rfl, ⟨Below.refl _ w⟩, ⟨by simp⟩⟩
  case round =>
    obtain ⟨kk, hkk, hg, rfl, BW, AN⟩ := hrel
    by_cases hlt : kk < l.length
    · have hltz : (kk : Int) < (l.length : Int) := by omega
      obtain ⟨ad, cs, hA, hcs, hK, hcell⟩ := Kd.C_get HR.out ByteArray.empty (kk : Int) (by omega) hltz
      subst hA
      have hK' : cs = [.string (l.getD kk ByteArray.empty)] := hK
      have hx := hcell 0 (.string (l.getD kk ByteArray.empty)) (by rw [hK']; rfl)
      have hx' : w.cell? (ad.add kk) = some (.string (l.getD kk ByteArray.empty)) := by simpa [Kd.string, Kd.scalar] using hx
      have l2 := (BW.out.cell (World.block_lt_of_cell? w _ hx')).trans hx'
      clear hcell hK hK' hx hx' hcs
      have hmem : l.getD kk ByteArray.empty ∈ l := by rw [List.getD_eq_getElem?_getD, List.getElem?_eq_getElem hlt]; exact List.getElem_mem hlt
      have hcall := hp wr (l.getD kk ByteArray.empty) hmem BW.out
      have hsn : l.take (kk + 1) = l.take kk ++ [l.getD kk ByteArray.empty] := by
        rw [List.take_succ_eq_append_getElem hlt, List.getD_eq_getElem?_getD, List.getElem?_eq_getElem hlt]; rfl
      have HSN := Aside0.mk hsn
      clear hsn hp
      generalize hy : l.getD kk ByteArray.empty = y at l2 hcall hmem HSN
      have HY := Aside0.mk hy
      clear hy
      cases hq : p y with
      | true =>
        rw [hq] at hcall
        have HQ := Aside0.mk hq
        clear hq
        go_wp2_with fail
        refine hcall.mono ?_
        rintro e w' ⟨rfl, hb'⟩
        go_wp2
        go_ret
        exact ⟨_, rfl, ⟨.inr ⟨kk, rfl, hlt, AN.out, by rw [HY.out]; exact HQ.out⟩⟩, BW.out.trans (hb'.mono BW.out.size)⟩
      | false =>
        rw [hq] at hcall
        have HQ := Aside0.mk hq
        clear hq
        go_wp2_with fail
        refine hcall.mono ?_
        rintro e w' ⟨rfl, hb'⟩
        go_wp2
        go_roundg (l.length - (kk + 1))
        case measure => omega
        case rel => exact ⟨kk + 1, by omega, by omega, by go_num, ⟨BW.out.trans (hb'.mono BW.out.size)⟩, ⟨by rw [HSN.out, List.any_append, AN.out]; simp [HQ.out]⟩⟩
    · have hltz : ¬ (kk : Int) < (l.length : Int) := by omega
      have hkl : kk = l.length := by omega
      have HN := Aside0.mk (show l.any p = false by have := AN.out; rwa [hkl, List.take_length] at this)
      subst hkl
      go_wp2
      go_ret
      exact ⟨_, rfl, ⟨.inl ⟨rfl, HN.out⟩⟩, BW.out⟩
end Go.Proofs.YtepljhleaohbcaaGreatDoor.P
end

section
/- slices.ContainsFunc over strings, for every predicate that answers at the slice's bytes. -/
namespace Go.Proofs.YtepljhleaohbcaaGreatDoor.P
open Go.RowKit Go.Proofs.YtepljhleaohbcaaGreatDoorW.PrintWords Go.Proofs.YtepljhleaohbcaaGreatDoorW.PrintLast Go.Proofs.YtepljhleaohbcaaGreatDoorW.PrintMore

theorem containsStrs (A : Option Addr) (c : Nat) (l : List ByteArray) (g : Nat) (lb : Array Value) (eg : ∀ args w, (callFunc g args).run Tryz.prog w = .ok (.enter g args) w) (p : ByteArray → Bool) (w : World)
    (hr : Kd.C Kd.string w A l.length l) (hp : PredOnS g lb Value.string p l w) :
    Calls Tryz.prog 39 #[.slice A l.length c, .func (.func g) #[] lb] w fun e w' => e = .returned (.bool (l.any p)) ∧ Below w.heap.size w w' := by
  go_enter Tryz.func39, Tryz.ntmps39
  go_wp2_with fail
  refine (indexStrs A c l g lb eg p w hr hp).mono ?_
  rintro e w' ⟨i, rfl, hi, hb⟩
  go_wp2
  go_ret
  refine ⟨?_, hb⟩
  rw [← hi.out.sign]
  rfl
end Go.Proofs.YtepljhleaohbcaaGreatDoor.P
end

section
/- strconv.FormatUint to the base 10: the decimal numeral. -/
namespace Go.Proofs.YtepljhleaohbcaaGreatDoor.P
open Go.RowKit Go.Sort Go.Proofs.YtepljhleaohbcaaGreatDoorW.PrintWords Go.Proofs.YtepljhleaohbcaaGreatDoorW.PrintLast Go.Proofs.YtepljhleaohbcaaGreatDoorW.PrintMore

theorem FormatUintI_small (n : Nat) (hn : n < 100) (w : World) : Calls Tryz.prog 108 #[.int .u64 n, .int .i64 10] w fun e w' => e = .returned (.string ⟨(Lib.decDigits n).toArray⟩) ∧ Below w.heap.size w w' := by
  have HC := Aside0.mk (Tryz.internal_strconv_small n hn w)
  go_enter Tryz.func108, Tryz.ntmps108
  go_wp2_with fail
  refine HC.out.mono ?_
  rintro e w' ⟨rfl, rfl⟩
  go_wp2
  go_ret
  exact ⟨rfl, Below.refl _ _⟩
set_option maxRecDepth 100000 in
set_option maxHeartbeats 4000000 in
theorem FormatUintI_big (u : Nat) (hu : 100 ≤ u) (hu64 : u < 18446744073709551616) (w : World) (htab : Lib.TabIs Tryz.prog w "internal/strconv.uint64pow10" .u64 Lib.pow10Tab) :
    Calls Tryz.prog 108 #[.int .u64 u, .int .i64 10] w fun e w' => e = .returned (.string ⟨(Lib.decDigits u).toArray⟩) ∧ Below w.heap.size w w' := by
  have hu1 : 1 ≤ u := by omega
  have hnd20 : Lib.nDigits u ≤ 20 := by have := Lib.numDigits_eq u hu1 hu64; split at this <;> omega
  have hal : Tryz.prog.arrayLen 116 = 24 := by simp [Program.arrayLen, Tryz.underlying116]
  have hsl : ∀ W, (Instr.sliceAt 116 (.pointer (some ⟨w.heap.size, 0, none⟩)) none (some (.int .i64 (Lib.nDigits u : Int))) none).run Tryz.prog W = .ok (.slice (some ⟨w.heap.size, 0, none⟩) (Lib.nDigits u) 24) W := fun W => by
    rw [run_sliceAt_array_h W 116 ⟨w.heap.size, 0, none⟩ (by simp [Program.arrayLen, Program.elem, Tryz.underlying116]) .i64 (Lib.nDigits u : Int) (by omega) (by rw [hal]; omega)]
    go_simp
  have hH0 := Lib.holds_zero0 w 116 (Lib.nDigits u) (by omega)
  have hfmt := Tryz.internal_strconv_formatBase10 w.heap.size 0 24 u (Array.replicate (Lib.nDigits u) 0) (w.alloc (.cells Lib.zeros24 116)) hH0 (by rw [Array.size_replicate]; exact Lib.lt_pow_nDigits u) hu64 (by rw [Array.size_replicate]; omega)
  rw [Array.size_replicate] at hfmt
  have HH0 := Lib.hid hH0
  have HF := Aside0.mk hfmt
  have iu : (100 : Int) ≤ (u : Int) := by omega
  clear hH0 hal hfmt
  go_enter Tryz.func108, Tryz.ntmps108
  go_wp2_with (go_at_call 118; refine (Tryz.internal_strconv_numDigits u hu1 hu64 _ (Lib.tabIs_alloc htab _)).mono ?_; rintro e w' ⟨rfl, rfl⟩)
  refine HF.out.mono ?_
  rintro e w' ⟨rfl, k, v', dk, rfl, hF⟩
  have hcv : (convert 42 9 (.slice (some ⟨w.heap.size, 0, none⟩) (Lib.nDigits u) 24)).run Tryz.prog ((putRow (fun (b : UInt8) => Value.int .u8 (b.toNat : Int)) (w.alloc (.cells Lib.zeros24 116)) w.heap.size 0 dk).drewN k) = .ok (.string ⟨(Lib.decDigits u).toArray⟩) ((putRow (fun (b : UInt8) => Value.int .u8 (b.toNat : Int)) (w.alloc (.cells Lib.zeros24 116)) w.heap.size 0 dk).drewN k) := by
    have h := run_convert_bytes_back (P := Tryz.prog) ((putRow (fun (b : UInt8) => Value.int .u8 (b.toNat : Int)) (w.alloc (.cells Lib.zeros24 116)) w.heap.size 0 dk).drewN k) 42 9 5 ⟨w.heap.size, 0, none⟩ 24 (Lib.decDigits u) Tryz.underlying42 Tryz.underlying5 Tryz.underlying9 (fun j hj => by
      rw [Lib.row_is_numeral hF j hj, Lib.add_plain, World.cell?_drewN]
      exact cell?_putRow (fun (b : UInt8) => Value.int .u8 (b.toNat : Int)) _ w.heap.size 0 _ dk HH0.out (by rw [hF.size, Array.size_replicate]) j (by rw [hF.size]; rw [Lib.decDigits_length] at hj; exact hj))
    rw [Lib.decDigits_length] at h
    exact h
  obtain ⟨os, eo⟩ := Lib.fin_at w (.cells Lib.zeros24 116) dk k 0
  have hnx2 : Below w.heap.size w ((putRow (fun (b : UInt8) => Value.int .u8 (b.toNat : Int)) (w.alloc (.cells Lib.zeros24 116)) w.heap.size 0 dk).drewN k) := by rw [eo]; exact Lib.below_grow _ w (Nat.le_refl _) k os
  generalize (putRow (fun (b : UInt8) => Value.int .u8 (b.toNat : Int)) (w.alloc (.cells Lib.zeros24 116)) w.heap.size 0 dk).drewN k = W2 at hcv hnx2 ⊢
  have HN := Aside0.mk hnx2
  clear eo HH0 hnx2 hF HF
  go_wp2
  go_ret
  exact ⟨rfl, HN.out⟩
end Go.Proofs.YtepljhleaohbcaaGreatDoor.P
end

section
/- Is a label no number from 0 to 255? Any of several. -/
namespace Go.Proofs.YtepljhleaohbcaaGreatDoor.P
open Go.RowKit Go.Proofs.YtepljhleaohbcaaGreatDoorW.PrintWords Go.Proofs.YtepljhleaohbcaaGreatDoorW.PrintLast Go.Proofs.YtepljhleaohbcaaGreatDoorW.PrintMore

/-- A number from 0 to 255, as it is written? -/
def octetL (l : List UInt8) : Bool := match Lib.parseUintB 8 l with
  | .ok u => Lib.decDigits u == l
  | _ => false
theorem parse8_calls (s : ByteArray) (hs : s.size ≤ 281474976710656) (w : World) (hT : Tab w) : Calls Tryz.prog 96 #[.string s, .int .i64 10, .int .i64 8] w fun e w' => ∃ (u : Nat) (er : Value), u ≤ 255 ∧ e = .returned (.tuple #[.int .u64 u, er]) ∧ ((er = .nilIface ∧ octetL s.data.toList = (Lib.decDigits u == s.data.toList)) ∨ ((∃ N, er = .iface 112 (.pointer (some ⟨N, 0, none⟩))) ∧ octetL s.data.toList = false)) ∧ Below w.heap.size w w' := by
  cases h : Lib.parseUintB 8 s.data.toList
  · rename_i u
    refine (Any.strconv_ParseUint_10_at8_ok Tryz.laysPu14 s (by omega) u h w).mono ?_
    rintro e w' ⟨rfl, hw⟩
    refine ⟨u, _, by have := Lib.parseUintB_le h; exact this, rfl, .inl ⟨rfl, by rw [octetL, h]⟩, ?_⟩
    rcases hw with rfl | rfl
    · exact Below.refl _ _
    · exact bytes_below (Below.refl _ w) (Nat.le_refl _) 5 s
  · obtain ⟨tp, p, hv⟩ := hT.2.2.1
    refine (Any.strconv_ParseUint_10_at8_syntax_var Tryz.laysPu14 s hs h tp p w hv).mono ?_
    rintro e w' ⟨N, rfl, _, _, hb⟩
    exact ⟨0, .iface 112 (.pointer (some ⟨N, 0, none⟩)), by decide, rfl, .inr ⟨⟨N, rfl⟩, by rw [octetL, h]⟩, hb⟩
  · obtain ⟨tp, p, hv⟩ := hT.2.2.2
    refine (Any.strconv_ParseUint_10_at8_range_var Tryz.laysPu14 s hs h tp p w hv).mono ?_
    rintro e w' ⟨N, rfl, _, _, hb⟩
    exact ⟨255, .iface 112 (.pointer (some ⟨N, 0, none⟩)), by decide, rfl, .inr ⟨⟨N, rfl⟩, by rw [octetL, h]⟩, hb⟩
theorem FormatUintI_any (u : Nat) (hu : u ≤ 255) (w : World) (hT : Tab w) : Calls Tryz.prog 108 #[.int .u64 u, .int .i64 10] w fun e w' => e = .returned (.string ⟨(Lib.decDigits u).toArray⟩) ∧ Below w.heap.size w w' := by
  by_cases h : u < 100
  · exact FormatUintI_small u h w
  · exact FormatUintI_big u (by omega) (by omega) w hT.1
theorem fmt255 (u : Nat) (hu : u ≤ 255) (w : World) (hT : Tab w) : Calls Tryz.prog 97 #[.int .u64 u, .int .i64 10] w fun e w' => e = .returned (.string ⟨(Lib.decDigits u).toArray⟩) ∧ Below w.heap.size w w' := by
  have HC := Aside0.mk (FormatUintI_any u hu w hT)
  clear hT
  generalize Lib.decDigits u = l at HC
  go_enter Tryz.func97, Tryz.ntmps97
  go_wp2_with fail
  refine HC.out.mono ?_
  rintro e w' ⟨rfl, hb⟩
  go_wp2
  go_ret
  exact ⟨rfl, hb⟩
set_option maxHeartbeats 2000000 in
theorem octetClosure (s : ByteArray) (hs : s.size ≤ 281474976710656) (w : World) (hT : Tab w) : Calls Tryz.prog 95 #[.string s] w fun e w' => e = .returned (.bool (!octetL s.data.toList)) ∧ Below w.heap.size w w' := by
  have HP := Aside0.mk (parse8_calls s hs w hT)
  have HT := Aside0.mk hT
  have HE := Aside0.mk (fun l : List UInt8 => show ((⟨l.toArray⟩ : ByteArray).toList == s.toList) = (l == s.data.toList) by rw [ByteArray.toList_eq, ByteArray.toList_eq])
  clear hs hT
  generalize octetL s.data.toList = o at HP ⊢
  go_enter Tryz.func95, Tryz.ntmps95
  go_wp2_with fail
  refine HP.out.mono ?_
  rintro e w1 ⟨u, er, hu, rfl, hk, hb⟩
  have HB := Aside0.mk hb
  have HU := Aside0.mk hu
  clear hb hu HP
  rcases hk with ⟨rfl, ho⟩ | ⟨⟨N, rfl⟩, rfl⟩
  · have HF := Aside0.mk (fmt255 u HU.out)
    have HO := Aside0.mk ho
    clear ho
    generalize Lib.decDigits u = l at HF HO
    have hE := HE.out l
    rw [← HO.out] at hE
    go_wp2_with (go_at_call 97; refine (HF.out _ (HT.out.below HB.out)).mono ?_; rintro e w2 ⟨rfl, hb⟩; have n_ := Aside0.mk (HB.out.trans (hb.mono HB.out.size)); clear HB hb; have HB := n_; clear n_)
    all_goals go_ret
    all_goals refine ⟨congrArg (fun b => Ending.returned (Value.bool b)) ?_, HB.out⟩
    all_goals (rw [HO.out, Bool.eq_iff_iff]; simp [ByteArray.toList_eq])
  · go_wp2
    all_goals go_ret
    all_goals exact ⟨rfl, HB.out⟩
def slices_ContainsFunc_uri_quad_1.f (l0 : List ByteArray) : Option (Bool) := if (l0.all fun x => decide (x.size ≤ 281474976710656)) = true then some (l0.any fun x => !octetL x.data.toList) else none
theorem slices_ContainsFunc_uri_quad_1.calls (A0 : Option Addr) (c0 : Nat) (l0 : List ByteArray) (r : Bool) (w : World) (hr0 : Kd.C Kd.string w A0 l0.length l0) (hc0 : l0.length ≤ c0) (hT : Tab w) (h : slices_ContainsFunc_uri_quad_1.f l0 = some r) :
    Calls Tryz.prog 39 #[.slice A0 l0.length c0, .func (.func 95) #[] #[]] w fun e w' => e = .returned (.bool r) ∧ Below w.heap.size w w' := by
  unfold slices_ContainsFunc_uri_quad_1.f at h
  split at h
  · rename_i hs
    rw [← Option.some.inj h]
    exact containsStrs A0 c0 l0 95 #[] (enters_of Tryz.func95 (by kernel_rfl) rfl) (fun x => !octetL x.data.toList) w hr0 (fun W x hx hb => octetClosure x (of_decide_eq_true (List.all_eq_true.1 hs x hx)) W (hT.below hb))
  · exact absurd h (by simp)
end Go.Proofs.YtepljhleaohbcaaGreatDoor.P
end

section
/- Texts cut at a byte: the first k places. -/
namespace Go.Proofs.YtepljhleaohbcaaGreatDoor.P
open Go

/-- A byte ahead of the first piece. -/
def ahead (b : UInt8) : List (List UInt8) → List (List UInt8)
  | [] => [[b]]
  | h :: t => (b :: h) :: t
/-- A text cut at the first k places of a byte. -/
def spn (c : UInt8) : Nat → List UInt8 → List (List UInt8)
  | _, [] => [[]]
  | 0, b :: l => ahead b (spn c 0 l)
  | k + 1, b :: l => if b == c then [] :: spn c k l else ahead b (spn c (k + 1) l)
theorem spn_ne (c : UInt8) : ∀ (k : Nat) (l : List UInt8), spn c k l ≠ []
  | _, [], h => by simp [spn] at h
  | 0, b :: l, h => by
    rw [spn] at h
    cases hs : spn c 0 l <;> rw [hs] at h <;> simp [ahead] at h
  | k + 1, b :: l, h => by
    rw [spn] at h
    split at h
    · simp at h
    · cases hs : spn c (k + 1) l <;> rw [hs] at h <;> simp [ahead] at h
theorem spn_zero (c : UInt8) : ∀ l : List UInt8, spn c 0 l = [l]
  | [] => rfl
  | b :: l => by rw [spn, spn_zero c l]; rfl
theorem spn_none (c : UInt8) : ∀ (k : Nat) (l : List UInt8), c ∉ l → spn c k l = [l]
  | k, [], _ => by cases k <;> rfl
  | 0, b :: l, _ => spn_zero c _
  | k + 1, b :: l, h => by
    simp only [List.mem_cons, not_or] at h
    rw [spn, if_neg (by simpa using fun e => h.1 e.symm), spn_none c (k + 1) l h.2]; rfl
theorem spn_app (c : UInt8) (k : Nat) (y : List UInt8) : ∀ x : List UInt8, c ∉ x → spn c (k + 1) (x ++ c :: y) = x :: spn c k y
  | [], _ => by rw [List.nil_append, spn, if_pos (by simp)]
  | b :: x, h => by
    simp only [List.mem_cons, not_or] at h
    rw [List.cons_append, spn, if_neg (by simpa using fun e => h.1 e.symm), spn_app c k y x h.2]; rfl
theorem cut_cases (c : UInt8) (s : List UInt8) : c ∉ s ∨ ∃ x y, s = x ++ c :: y ∧ c ∉ x := by
  by_cases h : c ∈ s
  · exact .inr (List.eq_append_cons_of_mem h)
  · exact .inl h
theorem spn_le (c : UInt8) : ∀ (k : Nat) (l p : List UInt8), p ∈ spn c k l → p.length ≤ l.length := by
  intro k l
  induction l generalizing k with
  | nil => intro p hp; cases k <;> simp [spn] at hp <;> simp [hp]
  | cons b l ih =>
    have ha : ∀ (j : Nat) (p : List UInt8), p ∈ ahead b (spn c j l) → p.length ≤ (b :: l).length := by
      intro j p hp
      cases hs : spn c j l with
      | nil => exact absurd hs (spn_ne c j l)
      | cons h t =>
        rw [hs, ahead] at hp
        rcases List.mem_cons.1 hp with rfl | hp
        · have := ih j h (by rw [hs]; simp)
          simp only [List.length_cons]; omega
        · have := ih j p (by rw [hs]; simp [hp])
          simp only [List.length_cons]; omega
    intro p hp
    cases k with
    | zero => exact ha 0 p (by rwa [spn] at hp)
    | succ k =>
      rw [spn] at hp
      split at hp
      · rcases List.mem_cons.1 hp with rfl | hp
        · simp
        · have := ih k p hp
          simp only [List.length_cons]; omega
      · exact ha (k + 1) p hp
/-- More places than there are change nothing. -/
theorem spn_more (c : UInt8) : ∀ (k j : Nat) (s : List UInt8), s.count c ≤ k → s.count c ≤ j → spn c k s = spn c j s := by
  intro k
  induction k with
  | zero =>
    intro j s h1 _
    have : c ∉ s := fun hm => by have := List.count_pos_iff.2 hm; omega
    rw [spn_none c 0 s this, spn_none c j s this]
  | succ k ih =>
    intro j s h1 h2
    rcases cut_cases c s with hn | ⟨x, y, rfl, hx⟩
    · rw [spn_none c _ s hn, spn_none c j s hn]
    · have hc : (x ++ c :: y).count c = y.count c + 1 := by
        rw [List.count_append, List.count_eq_zero.2 hx, List.count_cons_self]; omega
      obtain ⟨j', rfl⟩ : ∃ j', j = j' + 1 := ⟨j - 1, by omega⟩
      rw [spn_app c k y x hx, spn_app c j' y x hx, ih j' y (by omega) (by omega)]
theorem splitK_spn (c : UInt8) : ∀ (s : List UInt8) (k : Nat), Lib.splitK [c] 0 k s = spn c k s
  | s, 0 => by rw [spn_zero]; rfl
  | [], k + 1 => by rw [Lib.splitK]; simp [Lib.index, spn]
  | b :: l, k + 1 => by
    have ih := splitK_spn c l (k + 1)
    by_cases h : b = c
    · subst h
      have hix : Lib.index (b :: l) [b] = 0 := by rw [Lib.index]; simp [List.isPrefixOf]
      rw [Lib.splitK, if_neg (by rw [hix]; decide), hix, spn, if_pos (by simp)]
      simp [splitK_spn b l k]
    · have hp : ([c] : List UInt8).isPrefixOf (b :: l) = false := by simp [List.isPrefixOf, Ne.symm h]
      have hix : Lib.index (b :: l) [c] = if Lib.index l [c] == -1 then -1 else Lib.index l [c] + 1 := by rw [Lib.index, hp]; simp
      rw [spn, if_neg (by simpa using h), ← ih]
      by_cases hm : Lib.index l [c] = -1
      · rw [if_pos (beq_iff_eq.2 hm)] at hix
        rw [Lib.splitK, if_pos (by rw [hix]; rfl), Lib.splitK, if_pos (by rw [hm]; rfl)]
        rfl
      · have hge := Lib.index_ge l [c]
        obtain ⟨j, hj⟩ : ∃ j : Nat, Lib.index l [c] = j := ⟨(Lib.index l [c]).toNat, by omega⟩
        rw [if_neg (by simpa using hm)] at hix
        rw [Lib.splitK, if_neg (by rw [hix]; simp; omega), Lib.splitK, if_neg (by simpa using hm), hix, hj]
        have e : ((j : Int) + 1).toNat = j + 1 := by omega
        rw [e]
        simp [ahead]
/-- The pieces, as texts. -/
def spnB (c : UInt8) (k : Nat) (s : ByteArray) : List ByteArray := (spn c k s.data.toList).map fun l => ⟨l.toArray⟩
theorem splitB_spn (c : UInt8) (k : Nat) (s : ByteArray) : Lib.splitB ⟨#[c]⟩ 0 k s = spnB c k s := by
  have h := Lib.splitB_data ⟨#[c]⟩ 0 k s
  rw [show (⟨#[c]⟩ : ByteArray).data.toList = [c] from rfl, splitK_spn] at h
  rw [spnB, ← h, List.map_map]
  conv => lhs; rw [← List.map_id (Lib.splitB ⟨#[c]⟩ 0 k s)]
  exact List.map_congr_left fun x _ => rfl
theorem spnB_all (c : UInt8) (s : ByteArray) : Lib.splitB ⟨#[c]⟩ 0 (Lib.countB s ⟨#[c]⟩) s = spnB c s.data.toList.length s := by
  rw [splitB_spn, spnB, spnB]
  have h : Lib.countB s ⟨#[c]⟩ = s.data.toList.count c := Lib.count_one c _
  rw [h, spn_more c _ s.data.toList.length s.data.toList (Nat.le_refl _) List.count_le_length]
theorem spnB_len (c : UInt8) (s : ByteArray) : (spnB c s.data.toList.length s).length = Lib.countB s ⟨#[c]⟩ + 1 := by
  rw [← spnB_all]
  exact Lib.splitB_all _ (Nat.le_refl _) 0 _ s rfl
end Go.Proofs.YtepljhleaohbcaaGreatDoor.P
end

section
/- strings.Split at a separator of one byte. -/
namespace Go.Proofs.YtepljhleaohbcaaGreatDoor.P
open Go.RowKit Go.Proofs.YtepljhleaohbcaaGreatDoorW.PrintWords Go.Proofs.YtepljhleaohbcaaGreatDoorW.PrintLast Go.Proofs.YtepljhleaohbcaaGreatDoorW.PrintMore

/-- A new row of texts. -/
theorem R_texts (w : World) (l : List ByteArray) (hl : l.length ≤ maxLen) : Kd.R Kd.string 9 (w.alloc (.cells (l.map Value.string).toArray 9 (0, 0))) w.heap.size (fun _ => True) (.slice (some ⟨w.heap.size, 0, none⟩) l.length l.length) l := by
  refine Kd.R_of_own ?_ (fun _ _ => trivial)
  refine ⟨by rw [encs_length, Nat.mul_one], .inr ⟨w.heap.size, l.length, (l.map Value.string).toArray, rfl, Nat.le_refl _, blk_new w _, Nat.le_refl _, hl, by simp, ?_⟩⟩
  rw [Nat.mul_one]
  show ((l.map Value.string).toArray.toList).take l.length = l.map Value.string
  rw [List.take_of_length_le (by simp)]
def strings_Split.f (a0 a1 : ByteArray) : Option (List ByteArray) := if a0.size ≤ 1073741824 ∧ a1.size = 1 then some (spnB (a1.get! 0) a0.data.toList.length a0) else none
theorem strings_Split.calls (a0 a1 : ByteArray) (r : List ByteArray) (w : World) (hT : Tab w) (h : strings_Split.f a0 a1 = some r) :
    Calls Tryz.prog 72 #[.string a0, .string a1] w fun e w' => ∃ v0_ : Value, e = .returned (v0_) ∧ Kd.R Kd.string 9 w' w.heap.size (fun _ => True) v0_ r ∧ Below w.heap.size w w' := by
  unfold strings_Split.f at h
  split at h
  · rename_i hc
    obtain ⟨c, rfl⟩ := Lib.one_byte a1 hc.2
    have hr := Option.some.inj h
    have e0 : (⟨#[c]⟩ : ByteArray).get! 0 = c := rfl
    rw [e0] at hr
    obtain ⟨m, hm⟩ := hT.2.1
    refine (Tryz.strings_Split a0 ⟨#[c]⟩ m w (by omega) hm (Nat.le_refl _)).mono ?_
    rintro e w' ⟨rfl, rfl⟩
    rw [spnB_all, hr, ← spnB_len, hr]
    refine ⟨_, rfl, R_texts w r ?_, below_alloc (Below.refl _ _) _⟩
    rw [← hr, spnB_len]
    have h1 := Lib.countB_le ⟨#[c]⟩ (Nat.le_refl _) a0.size a0 (Nat.le_refl _)
    have h2 : maxLen = 9223372036854775807 := rfl
    omega
  · exact absurd h (by simp)
end Go.Proofs.YtepljhleaohbcaaGreatDoor.P
end

section
/- text.all, for every predicate. -/
namespace Go.Proofs.YtepljhleaohbcaaGreatDoor.P
open Go.RowKit Go.Proofs.YtepljhleaohbcaaGreatDoorW.PrintWords Go.Proofs.YtepljhleaohbcaaGreatDoorW.PrintLast Go.Proofs.YtepljhleaohbcaaGreatDoorW.PrintMore

theorem any_not (l : List Int) (p : Int → Bool) : (!(l.any fun x => !p x)) = l.all p := by
  induction l with
  | nil => rfl
  | cons x r ih => simp only [List.any_cons, List.all_cons, Bool.not_or, Bool.not_not, ih]

set_option maxHeartbeats 1000000 in
theorem notClosure (B g : Nat) (lb : Array Value) (eg : ∀ args w, (callFunc g args).run Tryz.prog w = .ok (.enter g args) w) (p : Int → Bool) (x : Int) (W : World)
    (hc : W.cell? ⟨B, 0, none⟩ = some (.func (.func g) #[] lb))
    (hp : Calls Tryz.prog g (#[.int .u8 x] ++ lb) W fun e w' => e = .returned (.bool (p x)) ∧ Below W.heap.size W w') :
    Calls Tryz.prog 99 (#[.int .u8 x] ++ #[.pointer (some ⟨B, 0, none⟩)]) W fun e w' => e = .returned (.bool (!p x)) ∧ Below W.heap.size W w' := by
  go_enter Tryz.func99, Tryz.ntmps99
  go_wp2_with fail
  refine hp.mono ?_
  rintro e w' ⟨rfl, hb⟩
  go_wp2
  go_ret
  exact ⟨rfl, hb⟩

set_option maxHeartbeats 1000000 in
theorem all_calls (s : ByteArray) (g : Nat) (lb : Array Value) (eg : ∀ args w, (callFunc g args).run Tryz.prog w = .ok (.enter g args) w) (p : Int → Bool) (w : World) (hs : s.size ≤ 9223372036854775807)
    (hp : PredOn g lb (.int .u8) p (bytesOf s) w) :
    Calls Tryz.prog 79 #[.string s, .func (.func g) #[] lb] w fun e w' => e = .returned (.bool ((bytesOf s).all p)) ∧ Below w.heap.size w w' := by
  have kc := fun W => Lib.run_convert_string_bytes (P := Tryz.prog) W 9 42 5 s Tryz.underlying9 Tryz.underlying42 Tryz.underlying5
  have hmf : ∀ (fn : Fn) (first cap : Array Value) (w : World), (Instr.makeFunc fn first cap).run Tryz.prog w = .ok (.func fn first cap) w := fun _ _ _ _ => rfl
  have e57 : ∀ args w, (callFunc 99 args).run Tryz.prog w = .ok (.enter 99 args) w := enters_of Tryz.func99 (by kernel_rfl) rfl
  have hsz : ∀ o : Obj, (w.alloc o).heap.size = w.heap.size + 1 := fun o => by simp
  have hr := reads_bytes (w.alloc (.cells #[.func (.func g) #[] lb] 57)) s hs
  rw [hsz] at hr
  have hB1 : Below w.heap.size w (Lib.bytesWorld (w.alloc (.cells #[.func (.func g) #[] lb] 57)) 5 s) := bytes_below ((Below.refl _ w).alloc (Nat.le_refl _) _) (by simp) 5 s
  have hcell : (Lib.bytesWorld (w.alloc (.cells #[.func (.func g) #[] lb] 57)) 5 s).cell? ⟨w.heap.size, 0, none⟩ = some (.func (.func g) #[] lb) := by
    rw [Lib.bytesWorld_old _ _ _ _ (by simp)]
    exact (blk_cell (blk_new w _) 0).trans rfl
  have hC := containsBytes (some ⟨w.heap.size + 1, 0, none⟩) (grownCap (w.alloc (.cells #[.func (.func g) #[] lb] 57)) s.size 0 5) (bytesOf s) 99 #[.pointer (some ⟨w.heap.size, 0, none⟩)] e57 (fun x => !p x) _ hr
    (fun W x hx hb => (notClosure w.heap.size g lb eg p x W ((hb.cell (p := ⟨w.heap.size, 0, none⟩) (by rw [Lib.bytesWorld_size]; simp; omega)).trans hcell) (hp W x hx (hB1.trans (hb.mono hB1.size)))))
  rw [bytesOf_length] at hC
  have HB1 := Aside0.mk hB1
  have HC := Aside0.mk hC
  clear hC hr hB1 hcell hsz hp eg
  go_enter Tryz.func79, Tryz.ntmps79
  go_wp2_with fail
  refine HC.out.mono ?_
  rintro e w' ⟨rfl, hb⟩
  go_wp2
  go_ret
  refine ⟨?_, HB1.out.trans (hb.mono HB1.out.size)⟩
  rw [← any_not]
  rfl
end Go.Proofs.YtepljhleaohbcaaGreatDoor.P
end

section
/- text.Token: all bytes are letters, digits or signs, and there is one. -/
namespace Go.Proofs.YtepljhleaohbcaaGreatDoor.P
open Go.RowKit Go.Proofs.YtepljhleaohbcaaGreatDoorW.PrintWords Go.Proofs.YtepljhleaohbcaaGreatDoorW.PrintLast Go.Proofs.YtepljhleaohbcaaGreatDoorW.PrintMore

def tokSigns : List UInt8 := [33, 35, 36, 37, 38, 39, 42, 43, 45, 46, 94, 95, 96, 124, 126]
/-- May a byte stand in a token? -/
def tokI (c : Int) : Bool := (decide (97 ≤ c) && decide (c ≤ 122)) || (decide (65 ≤ c) && decide (c ≤ 90)) || (decide (48 ≤ c) && decide (c ≤ 57)) || tokSigns.contains c.toNat.toUInt8
def text_Token.f (a0 : ByteArray) : Option Bool := if a0.size ≤ 9223372036854775807 then some (!a0.data.toList.isEmpty && (bytesOf a0).all tokI) else none

theorem tok_low : ∀ n : Fin 256, ((decide ((97 : Int) ≤ Go.bits .or .u8 ((n.val : Nat) : Int) 32) && decide (Go.bits .or .u8 ((n.val : Nat) : Int) 32 ≤ 122)) = ((decide ((97 : Int) ≤ ((n.val : Nat) : Int)) && decide (((n.val : Nat) : Int) ≤ 122)) || (decide ((65 : Int) ≤ ((n.val : Nat) : Int)) && decide (((n.val : Nat) : Int) ≤ 90)))) := by decide +kernel
theorem tok_sign : ∀ n : Fin 256, decide (0 ≤ Lib.indexByte tokSigns ((n.val : Nat) : Int).toNat.toUInt8) = tokSigns.contains ((n.val : Nat) : Int).toNat.toUInt8 := by decide +kernel

theorem bytesOf_range {s : ByteArray} {x : Int} (h : x ∈ bytesOf s) : ∃ n : Fin 256, x = ((n.val : Nat) : Int) := by
  unfold bytesOf at h
  obtain ⟨b, _, rfl⟩ := List.mem_map.1 h
  exact ⟨⟨b.toNat, b.toNat_lt⟩, rfl⟩

set_option maxHeartbeats 1000000 in
theorem tokClosure (x : Int) (hx : ∃ n : Fin 256, x = ((n.val : Nat) : Int)) (W : World) :
    Calls Tryz.prog 80 #[.int .u8 x] W fun e w' => e = .returned (.bool (tokI x)) ∧ w' = W := by
  obtain ⟨n, hn⟩ := hx
  have h1 := tok_low n
  have h2 := tok_sign n
  rw [← hn] at h1 h2
  have hIx : ∀ w, Calls Tryz.prog 29 #[.string ⟨#[33, 35, 36, 37, 38, 39, 42, 43, 45, 46, 94, 95, 96, 124, 126]⟩, .int .u8 x] w fun e w' => e = .returned (.int .i64 (Lib.indexByte tokSigns x.toNat.toUInt8)) ∧ w' = w := fun w => Tryz.strings_IndexByte ⟨#[33, 35, 36, 37, 38, 39, 42, 43, 45, 46, 94, 95, 96, 124, 126]⟩ x w
  have hv : tokI x = ((decide (97 ≤ Go.bits .or .u8 x 32) && decide (Go.bits .or .u8 x 32 ≤ 122)) || (decide (48 ≤ x) && decide (x ≤ 57)) || decide (0 ≤ Lib.indexByte tokSigns x.toNat.toUInt8)) := by
    rw [h1, h2]; unfold tokI; rfl
  rw [hv]
  clear hv h1 h2 hn
  generalize Lib.indexByte tokSigns x.toNat.toUInt8 = ix at hIx ⊢
  have HX := Aside0.mk hIx
  clear hIx
  go_enter Tryz.func80, Tryz.ntmps80
  go_wp2_with (go_at_call 29; refine (HX.out _).mono ?_; rintro e w' ⟨rfl, rfl⟩)
  all_goals go_ret
  all_goals refine ⟨congrArg (fun b => Ending.returned (Value.bool b)) ?_, rfl⟩
  all_goals first | (simp [*]; done) | (rw [Bool.eq_iff_iff]; simp; omega)

theorem tokPred (l : List Int) (hl : ∀ x ∈ l, ∃ n : Fin 256, x = ((n.val : Nat) : Int)) (w : World) : PredOn 80 #[] (.int .u8) tokI l w :=
  fun W x hx _ => (tokClosure x (hl x hx) W).mono fun e w' ⟨he, hw⟩ => ⟨he, by subst hw; exact Below.refl _ _⟩

set_option maxHeartbeats 1000000 in
theorem text_Token.calls (a0 : ByteArray) (r : Bool) (w : World) (h : text_Token.f a0 = some r) :
    Calls Tryz.prog 63 #[.string a0] w fun e w' => e = .returned (.bool r) ∧ Below w.heap.size w w' := by
  unfold text_Token.f at h
  split at h
  · rename_i hs
    have hr := Option.some.inj h
    have hA := all_calls a0 80 #[] (enters_of Tryz.func80 (by kernel_rfl) rfl) tokI w hs (tokPred _ (fun x hx => bytesOf_range hx) w)
    clear h hs
    cases he : a0.data.toList.isEmpty with
    | true =>
      have he' : a0.toList.isEmpty = true := by rw [ByteArray.toList_eq]; exact he
      obtain rfl : r = false := by rw [← hr, he]; rfl
      clear hr hA he
      go_enter Tryz.func63, Tryz.ntmps63
      go_wp2_with fail
      go_ret
      exact ⟨rfl, Below.refl _ _⟩
    | false =>
      have he' : a0.toList.isEmpty = false := by rw [ByteArray.toList_eq]; exact he
      rw [he] at hr
      subst hr
      clear he
      have HA := Aside0.mk hA
      clear hA
      go_enter Tryz.func63, Tryz.ntmps63
      go_wp2_with fail
      refine HA.out.mono ?_
      rintro e w' ⟨rfl, hb⟩
      go_wp2
      go_ret
      exact ⟨rfl, hb⟩
  · exact absurd h (by simp)
end Go.Proofs.YtepljhleaohbcaaGreatDoor.P
end

section
/- Is a method no token? Any of several. -/
namespace Go.Proofs.YtepljhleaohbcaaGreatDoor.P
open Go.RowKit Go.Proofs.YtepljhleaohbcaaGreatDoorW.PrintWords Go.Proofs.YtepljhleaohbcaaGreatDoorW.PrintLast Go.Proofs.YtepljhleaohbcaaGreatDoorW.PrintMore

def tokenS (s : ByteArray) : Bool := !s.data.toList.isEmpty && (bytesOf s).all tokI
theorem noTokenClosure (s : ByteArray) (hs : s.size ≤ 9223372036854775807) (w : World) : Calls Tryz.prog 62 #[.string s] w fun e w' => e = .returned (.bool (!tokenS s)) ∧ Below w.heap.size w w' := by
  have HC := Aside0.mk (text_Token.calls s (tokenS s) w (by unfold text_Token.f; rw [if_pos hs]; rfl))
  generalize tokenS s = t at HC ⊢
  go_enter Tryz.func62, Tryz.ntmps62
  go_wp2_with fail
  refine HC.out.mono ?_
  rintro e w' ⟨rfl, hb⟩
  go_wp2
  go_ret
  exact ⟨rfl, hb⟩
def slices_ContainsFunc_acl_May_1.f (l0 : List ByteArray) : Option (Bool) := if (l0.all fun x => decide (x.size ≤ 9223372036854775807)) = true then some (l0.any fun x => !tokenS x) else none
theorem slices_ContainsFunc_acl_May_1.calls (A0 : Option Addr) (c0 : Nat) (l0 : List ByteArray) (r : Bool) (w : World) (hr0 : Kd.C Kd.string w A0 l0.length l0) (hc0 : l0.length ≤ c0) (h : slices_ContainsFunc_acl_May_1.f l0 = some r) :
    Calls Tryz.prog 39 #[.slice A0 l0.length c0, .func (.func 62) #[] #[]] w fun e w' => e = .returned (.bool r) ∧ Below w.heap.size w w' := by
  unfold slices_ContainsFunc_acl_May_1.f at h
  split at h
  · rename_i hs
    rw [← Option.some.inj h]
    exact containsStrs A0 c0 l0 62 #[] (enters_of Tryz.func62 (by kernel_rfl) rfl) (fun x => !tokenS x) w hr0 (fun W x hx hb => noTokenClosure x (of_decide_eq_true (List.all_eq_true.1 hs x hx)) W)
  · exact absurd h (by simp)
end Go.Proofs.YtepljhleaohbcaaGreatDoor.P
end
