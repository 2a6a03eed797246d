/- tollhouse, the law 'HeadSets': part 1 of 4 of its proof: walks of functions that it reaches, and plain laws of what they compute. Conditions: none but those that each theorem names. -/
import Derived.Test.YtdofgilfmgdpkaaDoorProg
import Derived.Below
import Derived.Deep.Draws
import Derived.Deep.AppendLies
import Derived.Maps.AppendAt
import Derived.OwnWalk
import Derived.Laws.BytesArg
import Derived.Laws.MakeOwn
import Derived.Laws.OwnMore
import Derived.Deep.OwnRows
import Derived.Tactics
import Derived.Lib.ConvBytes
import Derived.Laws.Slices
import Derived.WalkKit
import Derived.KernelRfl
import Derived.RowKit3
import Derived.Deep.LoopGhost
import Derived.Deep.QuietTactic
import Derived.BigQuiet
import Derived.WideLaws
import Derived.Deep.DeepCutAuto
import Derived.Deep.CutBlock
import Derived.Deep.RegionHeld3
import Derived.Laws.Rows
import Derived.Lib.AppendStr
import Derived.ArgAppend
import Derived.Laws.IdiomCopy
import Derived.OrdersHeld
import Derived.Laws.BitsLemmas
import Derived.RowKit
import Derived.Test.YtdofgilfmgdpkaaDoorWWords
import Derived.Test.YtdofgilfmgdpkaaDoorWLast
import Derived.Test.YtdofgilfmgdpkaaDoorWTab
import Derived.Test.YtdofgilfmgdpkaaDoorWFour
import Derived.Test.YtdofgilfmgdpkaaDoorWQPut
import Derived.Test.YtdofgilfmgdpkaaDoorWApart
import Derived.Test.YtdofgilfmgdpkaaDoorWArr
import Derived.Test.YtdofgilfmgdpkaaDoorWZeros
import Derived.Test.YtdofgilfmgdpkaaDoorWFoot
import Derived.Test.YtdofgilfmgdpkaaDoorWKept
import Derived.Test.YtdofgilfmgdpkaaDoorWShare
import Derived.Test.YtdofgilfmgdpkaaDoorWN
import Derived.Test.YtdofgilfmgdpkaaDoorWFootNe
import Derived.Test.YtdofgilfmgdpkaaDoorWAt
import Derived.Test.YtdofgilfmgdpkaaDoorWEqStruct
import Derived.Test.YtdofgilfmgdpkaaDoorWRepsOne
import Derived.Test.YtdofgilfmgdpkaaDoorWInv
import Derived.Test.YtdofgilfmgdpkaaDoorWInvWords
import Derived.Test.YtdofgilfmgdpkaaDoorWGuard
import Derived.Test.YtdofgilfmgdpkaaDoorWNEv
import Derived.Test.YtdofgilfmgdpkaaDoorWMore
import Derived.Shelf.Abstract
import Derived.Lib.SliceRun
import Derived.WalkSpells
import Derived.Shelf.Strings.Trim
import Derived.Shelf.Small.Utf8
import Derived.Shelf.Small.Strs
import Derived.Shelf.Strings.Search1
import Derived.Shelf.Strings.Runes
import Derived.Shelf.Strings.AsciiSet
import Derived.Shelf.Strings.SlTrimAscii
set_option linter.unusedVariables false
set_option linter.unusedSimpArgs false

namespace Go.Proofs.YtdofgilfmgdpkaaDoor.P
open Go.RowKit Go.Proofs.YtdofgilfmgdpkaaDoorW.PrintWords Go.Proofs.YtdofgilfmgdpkaaDoorW.PrintLast Go.Proofs.YtdofgilfmgdpkaaDoorW.PrintMore
attribute [local go_sem] max2_int min2_int max_two min_two max_three min_three max_four min_four
set_option linter.unusedVariables false
set_option linter.unusedSimpArgs false



def errW : Option Int → Value
  | none => .nilIface
  | some c => .iface 0 (.int .i64 c)
theorem errW_none : errW none = .nilIface := rfl
theorem errW_some (c : Int) : errW (some c) = .iface 0 (.int .i64 c) := rfl

theorem info5 : (Tryd.prog.info? 5).map (fun i => (i.zero, i.size, i.bytes)) = some (some (.int .u8 0), 1, 1) := by kernel_rfl
theorem info9 : (Tryd.prog.info? 9).map (fun i => (i.zero, i.size, i.bytes)) = some (some (.string ⟨#[]⟩), 1, 16) := by kernel_rfl
theorem info45 : (Tryd.prog.info? 45).map (fun i => (i.zero, i.size, i.bytes)) = some (some (.agg #[(.string ⟨#[]⟩), (.string ⟨#[]⟩)]), 2, 32) := by kernel_rfl
-- the values' own types
def rd_L3 (xs : List (List Int)) (i : Int) : (List Int) := xs.getD i.toNat ([] : List Int)
theorem at_L3 {w : World} {A : Option Addr} {n : Nat} {xs : List (List Int)} (h : Kd.C (Kd.slice 5 (Kd.int .u8)) w A n xs) (i : Int) (h0 : 0 ≤ i) (h1 : i < n) : ∃ ad A0 c0, A = some ad ∧ w.cell? (ad.add i.toNat) = some (.slice A0 (rd_L3 xs i).length c0) ∧ (rd_L3 xs i).length ≤ c0 ∧ (Kd.int .u8).C w A0 (rd_L3 xs i).length (rd_L3 xs i) := by
  obtain ⟨ad, c, e, _, hK, hc0⟩ := Kd.C_get h ([] : List Int) i h0 h1
  have hc : ∀ j u, c[j]? = some u → w.cell? (ad.add (i.toNat * 1 + j)) = some u := hc0
  obtain ⟨A0, c0, rfl, l0, g0⟩ := hK
  exact ⟨ad, A0, c0, e, by have hq := hc 0 _ rfl; rwa [Nat.mul_one, Nat.add_zero] at hq, l0, g0⟩

/-! #### struct type 45 -/
structure S45 where
  f0 : ByteArray
  f1 : ByteArray
def z45 : S45 := ⟨(⟨#[]⟩ : ByteArray), (⟨#[]⟩ : ByteArray)⟩
def k45 : Kd S45 := Kd.iso (Kd.pair Kd.string Kd.string) (fun x : S45 => (x.f0, x.f1))
theorem k45_open {w : World} {x : S45} {cs : List Value} (h : k45.K w x cs) : cs = [.string x.f0, .string x.f1] := by
  obtain ⟨_, _, rfl, rfl, rfl⟩ := h
  exact rfl
theorem k45_openM {w : World} {base : Nat} {ok : Nat → Prop} {x : S45} {cs : List Value} (h : k45.M w base ok x cs) : cs = [.string x.f0, .string x.f1] := by
  obtain ⟨_, _, rfl, rfl, rfl⟩ := h
  exact rfl
theorem k45_mk (w : World) (x : S45)  : k45.K w x [.string x.f0, .string x.f1] := ⟨[.string x.f0], [.string x.f1], rfl, rfl, rfl⟩
theorem k45_mkM (w : World) (base : Nat) (ok : Nat → Prop) (x : S45)  : k45.M w base ok x [.string x.f0, .string x.f1] := ⟨[.string x.f0], [.string x.f1], rfl, rfl, rfl⟩
theorem k45_mkF (W : World) (ok : Nat → Prop) (x : S45) : Kd.FK k45 W ok x [.string x.f0, .string x.f1] := fun W2 _ => k45_mk W2 x
def rd_T45 (xs : List S45) (i : Int) : S45 := xs.getD i.toNat z45
theorem at_T45 {w : World} {A : Option Addr} {n : Nat} {xs : List S45} (h : Kd.C k45 w A n xs) (i : Int) (h0 : 0 ≤ i) (h1 : i < n) : ∃ ad , A = some ad ∧ w.cell? (ad.add (i.toNat * 2)) = some (.string (rd_T45 xs i).f0) ∧ w.cell? ⟨(ad.add (i.toNat * 2)).block, (ad.add (i.toNat * 2)).off + 1, none⟩ = some (.string (rd_T45 xs i).f1) := by
  obtain ⟨ad, c, e, _, hK, hc0⟩ := Kd.C_get h z45 i h0 h1
  have hc : ∀ j u, c[j]? = some u → w.cell? (ad.add (i.toNat * 2 + j)) = some u := hc0
  obtain rfl := k45_open hK
  exact ⟨ad, e, hc 0 _ rfl, by rw [← add_field _ _ 1 (by omega)]; exact hc 1 _ rfl⟩

def rd_L5 (xs : List (List S45)) (i : Int) : (List S45) := xs.getD i.toNat ([] : List S45)
theorem at_L5 {w : World} {A : Option Addr} {n : Nat} {xs : List (List S45)} (h : Kd.C (Kd.slice 45 k45) w A n xs) (i : Int) (h0 : 0 ≤ i) (h1 : i < n) : ∃ ad A0 c0, A = some ad ∧ w.cell? (ad.add i.toNat) = some (.slice A0 (rd_L5 xs i).length c0) ∧ (rd_L5 xs i).length ≤ c0 ∧ k45.C w A0 (rd_L5 xs i).length (rd_L5 xs i) := by
  obtain ⟨ad, c, e, _, hK, hc0⟩ := Kd.C_get h ([] : List S45) i h0 h1
  have hc : ∀ j u, c[j]? = some u → w.cell? (ad.add (i.toNat * 1 + j)) = some u := hc0
  obtain ⟨A0, c0, rfl, l0, g0⟩ := hK
  exact ⟨ad, A0, c0, e, by have hq := hc 0 _ rfl; rwa [Nat.mul_one, Nat.add_zero] at hq, l0, g0⟩

def rd_L7 (xs : List (List ByteArray)) (i : Int) : (List ByteArray) := xs.getD i.toNat ([] : List ByteArray)
theorem at_L7 {w : World} {A : Option Addr} {n : Nat} {xs : List (List ByteArray)} (h : Kd.C (Kd.slice 9 Kd.string) w A n xs) (i : Int) (h0 : 0 ≤ i) (h1 : i < n) : ∃ ad A0 c0, A = some ad ∧ w.cell? (ad.add i.toNat) = some (.slice A0 (rd_L7 xs i).length c0) ∧ (rd_L7 xs i).length ≤ c0 ∧ Kd.string.C w A0 (rd_L7 xs i).length (rd_L7 xs i) := by
  obtain ⟨ad, c, e, _, hK, hc0⟩ := Kd.C_get h ([] : List ByteArray) i h0 h1
  have hc : ∀ j u, c[j]? = some u → w.cell? (ad.add (i.toNat * 1 + j)) = some u := hc0
  obtain ⟨A0, c0, rfl, l0, g0⟩ := hK
  exact ⟨ad, A0, c0, e, by have hq := hc 0 _ rfl; rwa [Nat.mul_one, Nat.add_zero] at hq, l0, g0⟩

end Go.Proofs.YtdofgilfmgdpkaaDoor.P

namespace Go.Proofs.YtdofgilfmgdpkaaDoor.P
open Go.RowKit Go.Proofs.YtdofgilfmgdpkaaDoorW.PrintWords Go.Proofs.YtdofgilfmgdpkaaDoorW.PrintLast Go.Proofs.YtdofgilfmgdpkaaDoorW.PrintMore
attribute [local go_sem] max2_int min2_int max_two min_two max_three min_three max_four min_four
set_option linter.unusedVariables false
set_option linter.unusedSimpArgs false

theorem eqA45 (d : Nat) (w : World) (x0 y0 : ByteArray) (x1 y1 : ByteArray) :
    (Op.equalIn (d + 2) 45 (.agg #[.string x0, .string x1]) (.agg #[.string y0, .string y1])).run Tryd.prog w = .ok (x0.toList == y0.toList && (x1.toList == y1.toList)) w := by
  refine eqA_of Tryd.underlying45 (by kernel_rfl) ?_
  refine eqf_cons (by rfl) (by go_simp; rfl) (by go_simp; rfl) (by go_simp) ?_
  exact eqf_last (by rfl) (by go_simp; rfl) (by go_simp; rfl) (by go_simp)
end Go.Proofs.YtdofgilfmgdpkaaDoor.P

namespace Go.Proofs.YtdofgilfmgdpkaaDoor.P
open Go.RowKit Go.Proofs.YtdofgilfmgdpkaaDoorW.PrintWords Go.Proofs.YtdofgilfmgdpkaaDoorW.PrintLast Go.Proofs.YtdofgilfmgdpkaaDoorW.PrintMore
attribute [local go_sem] max2_int min2_int max_two min_two max_three min_three max_four min_four
set_option linter.unusedVariables false
set_option linter.unusedSimpArgs false

attribute [local go_sem high] eqA45
/-! ### tollhouseref05_Same: function 11 -/
def tollhouseref05_Same.l0 : Nat → List (S45) → List (S45) → Int → Option (Bool)
  | 0, _, _, _ => none
  | k + 1, x0, x1, x5 => if x5 < (x0.length : Int) then (if 0 ≤ x5 then (if x5 < (x1.length : Int) then (if (!((((rd_T45 x0 x5).f0).toList) == (((rd_T45 x1 x5).f0).toList)) || (!((((rd_T45 x0 x5).f1).toList) == (((rd_T45 x1 x5).f1).toList)))) = true then (some false) else (tollhouseref05_Same.l0 k x0 x1 (wrap64 (x5 + 1)))) else (none)) else (none)) else (some true)
def tollhouseref05_Same.f (k : Nat) (l0 : List (S45)) (l1 : List (S45)) : Option (Bool) := if (l0.length : Int) = (l1.length : Int) then (tollhouseref05_Same.l0 k l0 l1 0) else (some false)
theorem tollhouseref05_Same.mono_l : ∀ k, (∀ y0 y1 y2, LeO (tollhouseref05_Same.l0 k y0 y1 y2) (tollhouseref05_Same.l0 (k + 1) y0 y1 y2))
  | 0 => fun _ _ _ r h => by simp [tollhouseref05_Same.l0] at h
  | k + 1 => by
    have ih0 := tollhouseref05_Same.mono_l k
    · intro y0 y1 y2
      unfold tollhouseref05_Same.l0
      repeat' first
      | (with_reducible exact ih0 _ _ _)
      | (with_reducible exact LeO.refl _)
      | (with_reducible exact LeO.none _)
      | (with_reducible refine LeO.ite ?_ ?_)
      | (with_reducible refine LeO.bind ?_ (fun _ => ?_))
      | exact ih0 _ _ _
      | exact LeO.none _
      | refine LeO.ite ?_ ?_
      | refine LeO.bind ?_ (fun _ => ?_)
theorem tollhouseref05_Same.mono : ∀ a0 a1 k, LeO (tollhouseref05_Same.f k a0 a1) (tollhouseref05_Same.f (k + 1) a0 a1) := by
  intro a0 a1 k
  have ih0 := tollhouseref05_Same.mono_l k
  unfold tollhouseref05_Same.f
  repeat' first
      | (with_reducible exact ih0 _ _ _)
      | (with_reducible exact LeO.refl _)
      | (with_reducible exact LeO.none _)
      | (with_reducible refine LeO.ite ?_ ?_)
      | (with_reducible refine LeO.bind ?_ (fun _ => ?_))
      | exact ih0 _ _ _
      | exact LeO.none _
      | refine LeO.ite ?_ ?_
      | refine LeO.bind ?_ (fun _ => ?_)
set_option maxHeartbeats 8000000 in
set_option maxRecDepth 100000 in
theorem tollhouseref05_Same.calls (k : Nat) (A0 : Option Addr) (c0 : Nat) (l0 : List (S45)) (A1 : Option Addr) (c1 : Nat) (l1 : List (S45)) (r : Bool) (w : World) (hr0 : Kd.C k45 w A0 l0.length l0) (hc0 : l0.length ≤ c0) (hr1 : Kd.C k45 w A1 l1.length l1) (hc1 : l1.length ≤ c1) (h : tollhouseref05_Same.f k l0 l1 = some r) :
    Calls Tryd.prog 11 #[.slice A0 l0.length c0, .slice A1 l1.length c1] w fun e w' => e = .returned (.bool r) ∧ Drawn0 w w' := by
  have hu45 := Tryd.underlying45
  have HR0 := Aside0.mk hr0
  have HC0 := Aside0.mk hc0
  clear hr0 hc0
  have HR1 := Aside0.mk hr1
  have HC1 := Aside0.mk hc1
  clear hr1 hc1
  have H : (if (l0.length : Int) = (l1.length : Int) then (tollhouseref05_Same.l0 k l0 l1 0) else (some false)) = some r := h
  clear h
  by_cases c3 : (l0.length : Int) = (l1.length : Int)
  · rw [if_pos c3] at H
    have c3b0 : ((l0.length : Int) == (l1.length : Int)) = true := beq_iff_eq.mpr c3
    have c3b1 : ((l0.length : Int) != (l1.length : Int)) = false := bne_eq_false_iff_eq.mpr c3
    have c3b2 : (l0.length == l1.length) = true := by first | simpa using c3 | (simp at c3 ⊢; omega)
    clear c3
    have H' := Aside0.mk H
    clear H
    go_enter Tryd.func11, Tryd.ntmps11
    go_wp2
    repeat (go_quiet (fail); try go_wp2)
    go_loopg [5] k (fun kq v5 w' => ∃ (x5_1 : Int), v5 = .int .i64 x5_1 ∧ Aside0 (tollhouseref05_Same.l0 kq l0 l1 x5_1 = some r) ∧ Aside0 (kq ≤ k) ∧ Drawn0 w w')
    case atStart => exact ⟨(0), (by first | rfl | (simp; done) | (simp [*]; done)), H', ⟨Nat.le_refl _⟩, by repeat (first | exact Drawn0.refl _ | apply Drawn0.step)⟩
    case round =>
      clear H'
      try clear c1
      try clear p2
      try clear c3
      try clear c3b0
      try clear c3b1
      try clear c3b2
      obtain ⟨x5_1, rfl, HA, HK1, ⟨m1, rfl⟩⟩ := hrel
      cases gk with
      | zero => exact absurd HA.out (by simp [tollhouseref05_Same.l0])
      | succ k1 =>
        have H := HA.out
        clear HA
        simp only [tollhouseref05_Same.l0] at H
        by_cases c4 : x5_1 < (l0.length : Int)
        · rw [if_pos c4] at H
          have c4b0 : decide (x5_1 < (l0.length : Int)) = true := decide_eq_true c4
          clear c4
          by_cases c5 : 0 ≤ x5_1
          · rw [if_pos c5] at H
            have c5b0 : decide (0 ≤ x5_1) = true := decide_eq_true c5
            clear c5
            by_cases c6 : x5_1 < (l1.length : Int)
            · rw [if_pos c6] at H
              have c6b0 : decide (x5_1 < (l1.length : Int)) = true := decide_eq_true c6
              clear c6
              by_cases c7 : (!((((rd_T45 l0 x5_1).f0).toList) == (((rd_T45 l1 x5_1).f0).toList)) || (!((((rd_T45 l0 x5_1).f1).toList) == (((rd_T45 l1 x5_1).f1).toList)))) = true
              · rw [if_pos c7] at H
                have c7b0 : (!((((rd_T45 l0 x5_1).f0).toList) == (((rd_T45 l1 x5_1).f0).toList)) || (!((((rd_T45 l0 x5_1).f1).toList) == (((rd_T45 l1 x5_1).f1).toList)))) = true := c7
                clear c7
                obtain rfl := Option.some.inj H
                have p134 : 0 ≤ (x5_1 : Int) := of_decide_eq_true (by first | (with_reducible assumption) | assumption)
                have q134 : x5_1 < (l0.length : Int) := of_decide_eq_true (by first | (with_reducible assumption) | assumption)
                obtain ⟨ad134, e134, hx134_0, hx134_1⟩ := at_T45 HR0.out x5_1 p134 q134
                cases e134
                replace p134 := eq_true p134
                replace q134 := eq_true q134
                have p135 : 0 ≤ (x5_1 : Int) := of_decide_eq_true (by first | (with_reducible assumption) | assumption)
                have q135 : x5_1 < (l1.length : Int) := of_decide_eq_true (by first | (with_reducible assumption) | assumption)
                obtain ⟨ad135, e135, hx135_0, hx135_1⟩ := at_T45 HR1.out x5_1 p135 q135
                cases e135
                replace p135 := eq_true p135
                replace q135 := eq_true q135
                go_wp2
                repeat (go_quiet (fail); try go_wp2)
                go_ret
                exact ⟨by first | rfl | (simp; done) | (simp [*]; done), by repeat (first | exact Drawn0.refl _ | apply Drawn0.step)⟩
              · rw [if_neg c7] at H
                have c7b0 : (!((((rd_T45 l0 x5_1).f0).toList) == (((rd_T45 l1 x5_1).f0).toList)) || (!((((rd_T45 l0 x5_1).f1).toList) == (((rd_T45 l1 x5_1).f1).toList)))) = false := by simpa using c7
                clear c7
                have H' := Aside0.mk H
                clear H
                have p134 : 0 ≤ (x5_1 : Int) := of_decide_eq_true (by first | (with_reducible assumption) | assumption)
                have q134 : x5_1 < (l0.length : Int) := of_decide_eq_true (by first | (with_reducible assumption) | assumption)
                obtain ⟨ad134, e134, hx134_0, hx134_1⟩ := at_T45 HR0.out x5_1 p134 q134
                cases e134
                replace p134 := eq_true p134
                replace q134 := eq_true q134
                have p135 : 0 ≤ (x5_1 : Int) := of_decide_eq_true (by first | (with_reducible assumption) | assumption)
                have q135 : x5_1 < (l1.length : Int) := of_decide_eq_true (by first | (with_reducible assumption) | assumption)
                obtain ⟨ad135, e135, hx135_0, hx135_1⟩ := at_T45 HR1.out x5_1 p135 q135
                cases e135
                replace p135 := eq_true p135
                replace q135 := eq_true q135
                go_wp2
                repeat (go_quiet (fail); try go_wp2)
                go_roundg k1
                case measure => have := HK1.out; omega
                case rel => exact ⟨(wrap64 (x5_1 + 1)), (by first | rfl | (simp; done) | (simp [*]; done)), H', ⟨by have := HK1.out; omega⟩, by repeat (first | exact Drawn0.refl _ | apply Drawn0.step)⟩
            · rw [if_neg c6] at H
              exact absurd H (by simp)
          · rw [if_neg c5] at H
            exact absurd H (by simp)
        · rw [if_neg c4] at H
          have c4b0 : decide (x5_1 < (l0.length : Int)) = false := decide_eq_false c4
          clear c4
          obtain rfl := Option.some.inj H
          go_wp2
          repeat (go_quiet (fail); try go_wp2)
          go_ret
          exact ⟨by first | rfl | (simp; done) | (simp [*]; done), by repeat (first | exact Drawn0.refl _ | apply Drawn0.step)⟩
  · rw [if_neg c3] at H
    have c3b0 : ((l0.length : Int) == (l1.length : Int)) = false := beq_eq_false_iff_ne.mpr c3
    have c3b1 : ((l0.length : Int) != (l1.length : Int)) = true := bne_iff_ne.mpr c3
    have c3b2 : (l0.length == l1.length) = false := by first | simpa using c3 | (simp at c3 ⊢; omega)
    obtain rfl := Option.some.inj H
    go_enter Tryd.func11, Tryd.ntmps11
    go_wp2
    repeat (go_quiet (fail); try go_wp2)
    go_ret
    exact ⟨by first | rfl | (simp; done) | (simp [*]; done), by repeat (first | exact Drawn0.refl _ | apply Drawn0.step)⟩

end Go.Proofs.YtdofgilfmgdpkaaDoor.P

/- slices.ContainsFunc over bytes, for every predicate that answers at the slice's bytes. -/
namespace Go.Proofs.YtdofgilfmgdpkaaDoor.P
open Go.RowKit Go.Proofs.YtdofgilfmgdpkaaDoorW.PrintWords Go.Proofs.YtdofgilfmgdpkaaDoorW.PrintLast Go.Proofs.YtdofgilfmgdpkaaDoorW.PrintMore

/-- What is asked of a predicate handed over: at each element, in every later world, it answers and leaves what was. -/
def PredOn (g : Nat) (lb : Array Value) (enc : Int → Value) (p : Int → Bool) (l : List Int) (w : World) : Prop :=
  ∀ (W : World) (x : Int), x ∈ l → Below w.heap.size w W → Calls Tryd.prog g (#[enc x] ++ lb) W fun e w' => e = .returned (.bool (p x)) ∧ Below W.heap.size W w'

set_option maxHeartbeats 1000000 in
theorem indexBytes (A : Option Addr) (c : Nat) (l : List Int) (g : Nat) (lb : Array Value) (eg : ∀ args w, (callFunc g args).run Tryd.prog w = .ok (.enter g args) w) (p : Int → Bool) (w : World)
    (hr : Kd.C (Kd.int .u8) w A l.length l) (hp : PredOn g lb (.int .u8) p l w) :
    Calls Tryd.prog 66 #[.slice A l.length c, .func (.func g) #[] lb] w fun e w' => ∃ i : Int, e = .returned (.int .i64 i) ∧ Aside0 (decide (0 ≤ i) = l.any p) ∧ Below w.heap.size w w' := by
  have hm : l.length ≤ 9223372036854775807 := hr.2.1
  have HR := Aside0.mk hr
  clear hr
  go_enter Tryd.func66, Tryd.ntmps66
  go_wp2
  go_loopg [5, 8] l.length (fun gg _ s8 wr => ∃ kk : Nat, kk ≤ l.length ∧ l.length - kk ≤ gg ∧ s8 = .int .i64 kk ∧ Aside0 (Below w.heap.size w wr) ∧ Aside0 ((l.take kk).any p = false))
  case atStart => exact ⟨0, Nat.zero_le _, by omega, rfl, ⟨Below.refl _ w⟩, ⟨by simp⟩⟩
  case round =>
    obtain ⟨kk, hkk, hg, rfl, BW, AN⟩ := hrel
    by_cases hlt : kk < l.length
    · have hltz : (kk : Int) < (l.length : Int) := by omega
      obtain ⟨ad, cs, hA, hcs, hK, hcell⟩ := Kd.C_get HR.out (0 : Int) (kk : Int) (by omega) hltz
      subst hA
      have hK' : cs = [.int .u8 (l.getD kk 0)] := hK
      have hx := hcell 0 (.int .u8 (l.getD kk 0)) (by rw [hK']; rfl)
      have hx' : w.cell? (ad.add kk) = some (.int .u8 (l.getD kk 0)) := by simpa [Kd.int, Kd.scalar] using hx
      have l2 := (BW.out.cell (World.block_lt_of_cell? w _ hx')).trans hx'
      clear hcell hK hK' hx hx' hcs
      have hmem : l.getD kk 0 ∈ l := by rw [List.getD_eq_getElem?_getD, List.getElem?_eq_getElem hlt]; exact List.getElem_mem hlt
      have hcall := hp wr (l.getD kk 0) hmem BW.out
      have hsn : l.take (kk + 1) = l.take kk ++ [l.getD kk 0] := by
        rw [List.take_succ_eq_append_getElem hlt, List.getD_eq_getElem?_getD, List.getElem?_eq_getElem hlt]; rfl
      have HSN := Aside0.mk hsn
      clear hsn hp
      generalize l.getD kk 0 = y at l2 hcall hmem HSN
      cases hq : p y with
      | true =>
        rw [hq] at hcall
        have HQ := Aside0.mk hq
        clear hq
        go_wp2_with fail
        refine hcall.mono ?_
        rintro e w' ⟨rfl, hb'⟩
        go_wp2
        go_ret
        refine ⟨_, rfl, ⟨?_⟩, BW.out.trans (hb'.mono BW.out.size)⟩
        have : l.any p = true := by
          rw [List.any_eq_true]
          exact ⟨y, hmem, HQ.out⟩
        rw [this]
        simp
      | false =>
        rw [hq] at hcall
        have HQ := Aside0.mk hq
        clear hq
        go_wp2_with fail
        refine hcall.mono ?_
        rintro e w' ⟨rfl, hb'⟩
        go_wp2
        go_roundg (l.length - (kk + 1))
        case measure => omega
        case rel => exact ⟨kk + 1, by omega, by omega, by go_num, ⟨BW.out.trans (hb'.mono BW.out.size)⟩, ⟨by rw [HSN.out, List.any_append, AN.out]; simp [HQ.out]⟩⟩
    · have hltz : ¬ (kk : Int) < (l.length : Int) := by omega
      have hkl : kk = l.length := by omega
      have HN := Aside0.mk (show l.any p = false by have := AN.out; rwa [hkl, List.take_length] at this)
      subst hkl
      go_wp2
      go_ret
      exact ⟨_, rfl, ⟨by rw [HN.out]; rfl⟩, BW.out⟩

theorem containsBytes (A : Option Addr) (c : Nat) (l : List Int) (g : Nat) (lb : Array Value) (eg : ∀ args w, (callFunc g args).run Tryd.prog w = .ok (.enter g args) w) (p : Int → Bool) (w : World)
    (hr : Kd.C (Kd.int .u8) w A l.length l) (hp : PredOn g lb (.int .u8) p l w) :
    Calls Tryd.prog 56 #[.slice A l.length c, .func (.func g) #[] lb] w fun e w' => e = .returned (.bool (l.any p)) ∧ Below w.heap.size w w' := by
  go_enter Tryd.func56, Tryd.ntmps56
  go_wp2_with fail
  refine (indexBytes A c l g lb eg p w hr hp).mono ?_
  rintro e w' ⟨i, rfl, hi, hb⟩
  go_wp2
  go_ret
  refine ⟨?_, hb⟩
  rw [← hi.out]
  rfl
end Go.Proofs.YtdofgilfmgdpkaaDoor.P

/- text.all, for every predicate. -/
namespace Go.Proofs.YtdofgilfmgdpkaaDoor.P
open Go.RowKit Go.Proofs.YtdofgilfmgdpkaaDoorW.PrintWords Go.Proofs.YtdofgilfmgdpkaaDoorW.PrintLast Go.Proofs.YtdofgilfmgdpkaaDoorW.PrintMore

theorem any_not (l : List Int) (p : Int → Bool) : (!(l.any fun x => !p x)) = l.all p := by
  induction l with
  | nil => rfl
  | cons x r ih => simp only [List.any_cons, List.all_cons, Bool.not_or, Bool.not_not, ih]

theorem reads_bytes (W : World) (s : ByteArray) (hs : s.size ≤ 9223372036854775807) : Kd.C (Kd.int .u8) (Lib.bytesWorld W 5 s) (some ⟨W.heap.size, 0, none⟩) (bytesOf s).length (bytesOf s) := by
  rw [bytesOf_length]
  exact Kd.C_of_reads (d := (0 : Int)) (h1 := fun _ => rfl) (bytes_reads W 5 s hs)

set_option maxHeartbeats 1000000 in
theorem notClosure (B g : Nat) (lb : Array Value) (eg : ∀ args w, (callFunc g args).run Tryd.prog w = .ok (.enter g args) w) (p : Int → Bool) (x : Int) (W : World)
    (hc : W.cell? ⟨B, 0, none⟩ = some (.func (.func g) #[] lb))
    (hp : Calls Tryd.prog g (#[.int .u8 x] ++ lb) W fun e w' => e = .returned (.bool (p x)) ∧ Below W.heap.size W w') :
    Calls Tryd.prog 57 (#[.int .u8 x] ++ #[.pointer (some ⟨B, 0, none⟩)]) W fun e w' => e = .returned (.bool (!p x)) ∧ Below W.heap.size W w' := by
  go_enter Tryd.func57, Tryd.ntmps57
  go_wp2_with fail
  refine hp.mono ?_
  rintro e w' ⟨rfl, hb⟩
  go_wp2
  go_ret
  exact ⟨rfl, hb⟩

set_option maxHeartbeats 1000000 in
theorem all_calls (s : ByteArray) (g : Nat) (lb : Array Value) (eg : ∀ args w, (callFunc g args).run Tryd.prog w = .ok (.enter g args) w) (p : Int → Bool) (w : World) (hs : s.size ≤ 9223372036854775807)
    (hp : PredOn g lb (.int .u8) p (bytesOf s) w) :
    Calls Tryd.prog 47 #[.string s, .func (.func g) #[] lb] w fun e w' => e = .returned (.bool ((bytesOf s).all p)) ∧ Below w.heap.size w w' := by
  have kc := fun W => Lib.run_convert_string_bytes (P := Tryd.prog) W 9 22 5 s Tryd.underlying9 Tryd.underlying22 Tryd.underlying5
  have hmf : ∀ (fn : Fn) (first cap : Array Value) (w : World), (Instr.makeFunc fn first cap).run Tryd.prog w = .ok (.func fn first cap) w := fun _ _ _ _ => rfl
  have e57 : ∀ args w, (callFunc 57 args).run Tryd.prog w = .ok (.enter 57 args) w := enters_of Tryd.func57 (by kernel_rfl) rfl
  have hsz : ∀ o : Obj, (w.alloc o).heap.size = w.heap.size + 1 := fun o => by simp
  have hr := reads_bytes (w.alloc (.cells #[.func (.func g) #[] lb] 59)) s hs
  rw [hsz] at hr
  have hB1 : Below w.heap.size w (Lib.bytesWorld (w.alloc (.cells #[.func (.func g) #[] lb] 59)) 5 s) := bytes_below ((Below.refl _ w).alloc (Nat.le_refl _) _) (by simp) 5 s
  have hcell : (Lib.bytesWorld (w.alloc (.cells #[.func (.func g) #[] lb] 59)) 5 s).cell? ⟨w.heap.size, 0, none⟩ = some (.func (.func g) #[] lb) := by
    rw [Lib.bytesWorld_old _ _ _ _ (by simp)]
    exact (blk_cell (blk_new w _) 0).trans rfl
  have hC := containsBytes (some ⟨w.heap.size + 1, 0, none⟩) (grownCap (w.alloc (.cells #[.func (.func g) #[] lb] 59)) s.size 0 5) (bytesOf s) 57 #[.pointer (some ⟨w.heap.size, 0, none⟩)] e57 (fun x => !p x) _ hr
    (fun W x hx hb => (notClosure w.heap.size g lb eg p x W ((hb.cell (p := ⟨w.heap.size, 0, none⟩) (by rw [Lib.bytesWorld_size]; simp; omega)).trans hcell) (hp W x hx (hB1.trans (hb.mono hB1.size)))))
  rw [bytesOf_length] at hC
  have HB1 := Aside0.mk hB1
  have HC := Aside0.mk hC
  clear hC hr hB1 hcell hsz hp eg
  go_enter Tryd.func47, Tryd.ntmps47
  go_wp2_with fail
  refine HC.out.mono ?_
  rintro e w' ⟨rfl, hb⟩
  go_wp2
  go_ret
  refine ⟨?_, HB1.out.trans (hb.mono HB1.out.size)⟩
  rw [← any_not]
  rfl
end Go.Proofs.YtdofgilfmgdpkaaDoor.P

/- text.Lower: A to Z become a to z. -/
namespace Go.Proofs.YtdofgilfmgdpkaaDoor.P
open Go.RowKit Go.Proofs.YtdofgilfmgdpkaaDoorW.PrintWords Go.Proofs.YtdofgilfmgdpkaaDoorW.PrintLast Go.Proofs.YtdofgilfmgdpkaaDoorW.PrintMore

/-- A byte's small letter. -/
def lowU (c : UInt8) : UInt8 := if 65 ≤ c && c ≤ 90 then c + 32 else c
def lowB (s : ByteArray) : ByteArray := ⟨(s.data.toList.map lowU).toArray⟩
def text_Lower.f (a0 : ByteArray) : Option ByteArray := if a0.size ≤ 9223372036854775807 then some (lowB a0) else none
/-- The same, as whole numbers. -/
def lowI (c : Int) : Int := if 65 ≤ c ∧ c ≤ 90 then c + 32 else c
theorem lowI_U (c : UInt8) : lowI (c.toNat : Int) = ((lowU c).toNat : Int) := by
  unfold lowI lowU
  have h1 : (65 ≤ c && c ≤ 90) = decide (65 ≤ (c.toNat : Int) ∧ (c.toNat : Int) ≤ 90) := by
    rw [Bool.eq_iff_iff]; simp [UInt8.le_iff_toNat_le]; omega
  rw [h1]
  by_cases h : 65 ≤ (c.toNat : Int) ∧ (c.toNat : Int) ≤ 90
  · simp only [h, and_self, if_true, decide_true]
    rw [UInt8.toNat_add]; simp; omega
  · simp [h]
/-- The first k letters are small. -/
def lowTo (l : List Int) (k : Nat) : List Int := (l.take k).map lowI ++ l.drop k
theorem lowTo_len (l : List Int) (k : Nat) : (lowTo l k).length = l.length := by
  unfold lowTo; simp [List.length_take, List.length_drop]; omega
theorem lowTo_zero (l : List Int) : lowTo l 0 = l := by simp [lowTo]
theorem lowTo_at (l : List Int) (k : Nat) (h : k < l.length) : (lowTo l k).getD k 0 = l.getD k 0 := by
  unfold lowTo
  rw [List.getD_eq_getElem?_getD, List.getElem?_append_right (by simp; omega), List.getD_eq_getElem?_getD]
  simp [List.length_take, Nat.min_eq_left (Nat.le_of_lt h)]
theorem lowTo_set (l : List Int) (k : Nat) (h : k < l.length) (v : Int) (hv : v = lowI (l.getD k 0)) : (lowTo l k).set k v = lowTo l (k + 1) := by
  subst hv
  unfold lowTo
  have hl : ((l.take k).map lowI).length = k := by simp; omega
  rw [List.set_append_right _ _ (by omega), hl, Nat.sub_self, List.drop_eq_getElem_cons h, List.set_cons_zero, List.take_succ_eq_append_getElem h, List.map_append]
  simp [List.getD_eq_getElem?_getD, h]
theorem lowTo_same (l : List Int) (k : Nat) (h : k < l.length) (hv : lowI (l.getD k 0) = l.getD k 0) : lowTo l k = lowTo l (k + 1) := by
  rw [← lowTo_set l k h _ rfl, hv, ← lowTo_at l k h]
  apply List.ext_getElem?
  intro i
  rw [List.getElem?_set]
  split
  · rename_i e; subst e
    have hk : k < (lowTo l k).length := by rw [lowTo_len]; exact h
    simp [List.getD_eq_getElem?_getD, hk]
  · rfl
theorem lowTo_all (s : ByteArray) : strOfNums (lowTo (bytesOf s) s.size) = lowB s := by
  unfold lowTo lowB strOfNums
  have : (bytesOf s).length = s.size := bytesOf_length s
  rw [List.take_of_length_le (by omega), List.drop_eq_nil_of_le (by omega), List.append_nil]
  unfold bytesOf
  congr 2
  rw [List.map_map, List.map_map]
  apply List.map_congr_left
  intro c _
  simp only [Function.comp]
  rw [lowI_U]
  simp
/-- A block that is laid, with these bytes ahead in it. -/
def Holding (b : Nat) (l : List Int) (w : World) : Prop := (∀ j : Nat, j < l.length → w.cell? ⟨b, j, none⟩ = some (.int .u8 (l.getD j 0))) ∧ (∀ j : Nat, j < l.length → w.frozen? ⟨b, j, none⟩ = false)
theorem Holding.reads {b : Nat} {l : List Int} {w : World} (h : Holding b l w) (hm : l.length ≤ 9223372036854775807) : ReadsInt w .u8 (some ⟨b, 0, none⟩) l.length l :=
  ⟨rfl, hm, fun _ => ⟨_, rfl, fun j hj => by rw [add_plain]; exact h.1 j hj⟩⟩
theorem Holding.new (W : World) (s : ByteArray) : Holding W.heap.size (bytesOf s) (Lib.bytesWorld W 5 s) := by
  refine ⟨fun j hj => ?_, fun j hj => ?_⟩
  · rw [bytesOf_length] at hj
    rw [Lib.bytesWorld_cell W 5 s j hj]
    have hj' : j < s.data.size := hj
    simp only [bytesOf, List.getD_eq_getElem?_getD, List.getElem?_map, Array.getElem?_toList]
    rw [Array.getElem?_eq_getElem hj']
    rfl
  · rw [bytesOf_length] at hj
    unfold World.frozen?
    rw [Lib.bytesWorld_at_new]
    have hs : s.size ≤ (Lib.bytesCells W 5 s).size := by simp [Lib.bytesCells]
    simp; omega
theorem Holding.set {b : Nat} {l : List Int} {w : World} (h : Holding b l w) (k : Nat) (hk : k < l.length) (v : Int) : Holding b (l.set k v) (w.setCell ⟨b, k, none⟩ (.int .u8 v)) := by
  refine ⟨fun j hj => ?_, fun j hj => ?_⟩
  · rw [List.length_set] at hj
    by_cases e : j = k
    · subst e
      rw [World.cell?_setCell_same w _ _ (h.1 j hj)]
      simp [List.getD_eq_getElem?_getD, hk]
    · rw [World.cell?_setCell_other w ⟨b, k, none⟩ ⟨b, j, none⟩ _ (fun he => e (by injection he with _ h2; exact h2.symm)), h.1 j hj, List.getD_eq_getElem?_getD, List.getD_eq_getElem?_getD, List.getElem?_set_ne (by omega)]
  · rw [List.length_set] at hj
    rw [World.frozen?_setCell]
    exact h.2 j hj

set_option maxHeartbeats 1000000 in
theorem text_Lower.calls (a0 : ByteArray) (r : ByteArray) (w : World) (h : text_Lower.f a0 = some r) :
    Calls Tryd.prog 28 #[.string a0] w fun e w' => e = .returned (.string r) ∧ Below w.heap.size w w' := by
  unfold text_Lower.f at h
  split at h
  · rename_i hs
    have HR := Aside0.mk (Option.some.inj h)
    clear h
    have kc := fun W => Lib.run_convert_string_bytes (P := Tryd.prog) W 9 22 5 a0 Tryd.underlying9 Tryd.underlying22 Tryd.underlying5
    have HB0 := Aside0.mk (bytes_below (Below.refl w.heap.size w) (Nat.le_refl _) 5 a0)
    have HH0 := Aside0.mk (Holding.new w a0)
    have HLN := Aside0.mk (bytesOf_length a0)
    go_enter Tryd.func28, Tryd.ntmps28
    go_wp2
    clear kc
    go_loopg [10] a0.size (fun gg s10 wr => ∃ kk : Nat, kk ≤ a0.size ∧ a0.size - kk ≤ gg ∧ s10 = .int .i64 kk ∧ Aside0 (Below w.heap.size w wr) ∧ Aside0 (Holding w.heap.size (lowTo (bytesOf a0) kk) wr))
    case atStart => exact ⟨0, Nat.zero_le _, by omega, rfl, HB0, ⟨by rw [lowTo_zero]; exact HH0.out⟩⟩
    case round =>
      obtain ⟨kk, hkk, hg, rfl, BW, HH⟩ := hrel
      clear HB0 HH0
      by_cases hlt : kk < a0.size
      · have hltz : (kk : Int) < (a0.size : Int) := by omega
        have hkl : kk < (bytesOf a0).length := by rw [HLN.out]; exact hlt
        have l2 := HH.out.1 kk (by rw [lowTo_len]; exact hkl)
        rw [lowTo_at _ _ hkl] at l2
        have f2 := HH.out.2 kk (by rw [lowTo_len]; exact hkl)
        have HS := Aside0.mk (fun v hv => lowTo_set (bytesOf a0) kk hkl v hv)
        have HM := Aside0.mk (fun hv => lowTo_same (bytesOf a0) kk hkl hv)
        have HSet := fun v => HH.out.set kk (by rw [lowTo_len]; exact hkl) v
        generalize (bytesOf a0).getD kk 0 = x at l2 HS HM
        have HSet' := Aside0.mk HSet
        clear HSet hkl
        by_cases hx : 65 ≤ x ∧ x ≤ 90
        · obtain ⟨hx1, hx2⟩ := hx
          go_wp2
          go_roundg (a0.size - (kk + 1))
          case measure => omega
          case rel => exact ⟨kk + 1, by omega, by omega, by go_num, ⟨BW.out.setCell (by simp) _⟩, ⟨by rw [← HS.out (x + 97 - 65) (by unfold lowI; rw [if_pos ⟨hx1, hx2⟩]; omega)]; exact HSet'.out (x + 97 - 65)⟩⟩
        · have hx' : ¬ 65 ≤ x ∨ ¬ x ≤ 90 := by omega
          have HX := Aside0.mk (HM.out (by unfold lowI; rw [if_neg hx]))
          clear hx
          rcases hx' with hx | hx
          · go_wp2
            go_roundg (a0.size - (kk + 1))
            case measure => omega
            case rel => exact ⟨kk + 1, by omega, by omega, by go_num, BW, ⟨by rw [← HX.out]; exact HH.out⟩⟩
          · go_wp2
            all_goals
              go_roundg (a0.size - (kk + 1))
              case measure => omega
              case rel => exact ⟨kk + 1, by omega, by omega, by go_num, BW, ⟨by rw [← HX.out]; exact HH.out⟩⟩
      · have hltz : ¬ (kk : Int) < (a0.size : Int) := by omega
        have hke : kk = a0.size := by omega
        subst hke
        have hrd := HH.out.reads (by rw [lowTo_len, HLN.out]; exact hs)
        rw [lowTo_len, HLN.out] at hrd
        have hcv := fun c => string_of_reads (P := Tryd.prog) (src := 22) (dst := 9) (c := c) Tryd.underlying22 Tryd.underlying5 Tryd.underlying9 hrd
        rw [lowTo_all, HR.out] at hcv
        clear hrd
        go_wp2
        go_ret
        exact ⟨rfl, BW.out⟩
  · exact absurd h (by simp)
end Go.Proofs.YtdofgilfmgdpkaaDoor.P

namespace Go.Proofs.YtdofgilfmgdpkaaDoor.P
open Go.RowKit Go.Proofs.YtdofgilfmgdpkaaDoorW.PrintWords Go.Proofs.YtdofgilfmgdpkaaDoorW.PrintLast Go.Proofs.YtdofgilfmgdpkaaDoorW.PrintMore
attribute [local go_sem] max2_int min2_int max_two min_two max_three min_three max_four min_four
set_option linter.unusedVariables false
set_option linter.unusedSimpArgs false

/-! ### text_Same: function 40 -/
def text_Same.f (a0 : ByteArray) (a1 : ByteArray) : Option (Bool) := (text_Lower.f a0).bind fun t148 => ((text_Lower.f a1).bind fun t149 => (some (t148.toList == t149.toList)))
set_option maxHeartbeats 8000000 in
set_option maxRecDepth 100000 in
theorem text_Same.calls (a0 : ByteArray) (a1 : ByteArray) (r : Bool) (w : World) (h : text_Same.f a0 a1 = some r) :
    Calls Tryd.prog 40 #[.string a0, .string a1] w fun e w' => e = .returned (.bool r) ∧ Below w.heap.size w w' := by
  have HB := Aside0.mk (Below.refl w.heap.size w)
  have H : ((text_Lower.f a0).bind fun t148 => ((text_Lower.f a1).bind fun t149 => (some (t148.toList == t149.toList)))) = some r := h
  clear h
  replace H := Option.bind_eq_some_iff.mp H
  obtain ⟨t148, A30, H⟩ := H
  replace H : ((text_Lower.f a1).bind fun t149 => (some (t148.toList == t149.toList))) = some r := H
  have A3 := Aside0.mk A30
  clear A30
  replace H := Option.bind_eq_some_iff.mp H
  obtain ⟨t149, A40, H⟩ := H
  replace H : (some (t148.toList == t149.toList)) = some r := H
  have A4 := Aside0.mk A40
  clear A40
  obtain rfl := Option.some.inj H
  go_enter Tryd.func40, Tryd.ntmps40
  go_wp2_with (first | ((with_reducible refine gate_callee (f := 28) rfl ?_); refine goesL_ (some 6) rfl rfl Tryd.func28 (by kernel_rfl) rfl #[.string a0] rfl (by (try simp only [List.map_toArray, List.map_cons, List.map_nil]); first | done | rfl | (simp only [List.length_drop, List.length_take]; rfl)) ?_; (with_reducible refine (text_Lower.calls a0 t148 _ A3.out).mono ?_); rintro e w5 ⟨rfl, hb⟩; refine ⟨_, rfl, ?_⟩; have n0_ := Aside0.mk (below_step (by repeat (first | (with_reducible first | exact HB.out | apply below_alloc | apply pw_below_drewN | apply below_drew1) | exact HB.out)) hb); clear HB; have HB := n0_; clear n0_; (try clear hb); (try clear hb2); (try clear hk); (try clear hi)) | ((with_reducible refine gate_callee (f := 28) rfl ?_); refine goesL_ (some 8) rfl rfl Tryd.func28 (by kernel_rfl) rfl #[.string a1] rfl (by (try simp only [List.map_toArray, List.map_cons, List.map_nil]); first | done | rfl | (simp only [List.length_drop, List.length_take]; rfl)) ?_; (with_reducible refine (text_Lower.calls a1 t149 _ A4.out).mono ?_); rintro e w6 ⟨rfl, hb⟩; refine ⟨_, rfl, ?_⟩; have n0_ := Aside0.mk (below_step (by repeat (first | (with_reducible first | exact HB.out | apply below_alloc | apply pw_below_drewN | apply below_drew1) | exact HB.out)) hb); clear HB; have HB := n0_; clear n0_; (try clear hb); (try clear hb2); (try clear hk); (try clear hi)))
  go_ret
  exact ⟨by first | rfl | (simp [errW_none, errW_some] <;> rfl) | (simp [*, errW_none, errW_some] <;> rfl), by repeat (first | (with_reducible first | exact HB.out | apply below_alloc | apply pw_below_drewN | apply below_drew1) | exact HB.out)⟩

end Go.Proofs.YtdofgilfmgdpkaaDoor.P

namespace Go.Proofs.YtdofgilfmgdpkaaDoor.P
open Go.RowKit Go.Proofs.YtdofgilfmgdpkaaDoorW.PrintWords Go.Proofs.YtdofgilfmgdpkaaDoorW.PrintLast Go.Proofs.YtdofgilfmgdpkaaDoorW.PrintMore
attribute [local go_sem] max2_int min2_int max_two min_two max_three min_three max_four min_four
set_option linter.unusedVariables false
set_option linter.unusedSimpArgs false

/-! ### head_Get: function 19 -/
def head_Get.l0 : Nat → ByteArray → List ByteArray → List (S45) → Int → Int → Option (List ByteArray)
  | 0, _, _, _, _, _ => none
  | k + 1, x1, x5, x8, x9, x10 => if x10 < x9 then (if 0 ≤ x10 then (if x10 < (x8.length : Int) then ((text_Same.f ((rd_T45 x8 x10).f0) x1).bind fun t152 => (if t152 = true then (if x5.length < 8796093022208 then (head_Get.l0 k x1 (x5 ++ [(rd_T45 x8 x10).f1]) x8 x9 (wrap64 (x10 + 1))) else (none)) else (head_Get.l0 k x1 x5 x8 x9 (wrap64 (x10 + 1))))) else (none)) else (none)) else (some x5)
def head_Get.f (k : Nat) (l0 : List (S45)) (a1 : ByteArray) : Option (List ByteArray) := head_Get.l0 k a1 ([] : List ByteArray) l0 (l0.length : Int) 0
theorem head_Get.mono_l : ∀ k, (∀ y0 y1 y2 y3 y4, LeO (head_Get.l0 k y0 y1 y2 y3 y4) (head_Get.l0 (k + 1) y0 y1 y2 y3 y4))
  | 0 => fun _ _ _ _ _ r h => by simp [head_Get.l0] at h
  | k + 1 => by
    have ih0 := head_Get.mono_l k
    · intro y0 y1 y2 y3 y4
      unfold head_Get.l0
      repeat' first
      | (with_reducible exact ih0 _ _ _ _ _)
      | (with_reducible exact LeO.refl _)
      | (with_reducible exact LeO.none _)
      | (with_reducible refine LeO.ite ?_ ?_)
      | (with_reducible refine LeO.bind ?_ (fun _ => ?_))
      | exact ih0 _ _ _ _ _
      | exact LeO.none _
      | refine LeO.ite ?_ ?_
      | refine LeO.bind ?_ (fun _ => ?_)
theorem head_Get.mono : ∀ a0 a1 k, LeO (head_Get.f k a0 a1) (head_Get.f (k + 1) a0 a1) := by
  intro a0 a1 k
  have ih0 := head_Get.mono_l k
  unfold head_Get.f
  repeat' first
      | (with_reducible exact ih0 _ _ _ _ _)
      | (with_reducible exact LeO.refl _)
      | (with_reducible exact LeO.none _)
      | (with_reducible refine LeO.ite ?_ ?_)
      | (with_reducible refine LeO.bind ?_ (fun _ => ?_))
      | exact ih0 _ _ _ _ _
      | exact LeO.none _
      | refine LeO.ite ?_ ?_
      | refine LeO.bind ?_ (fun _ => ?_)
set_option maxHeartbeats 8000000 in
set_option maxRecDepth 100000 in
theorem head_Get.calls (k : Nat) (A0 : Option Addr) (c0 : Nat) (l0 : List (S45)) (a1 : ByteArray) (r : List ByteArray) (w : World) (hr0 : Kd.C k45 w A0 l0.length l0) (hc0 : l0.length ≤ c0) (h : head_Get.f k l0 a1 = some r) :
    Calls Tryd.prog 19 #[.slice A0 l0.length c0, .string a1] w fun e w' => ∃ v0_ : Value, e = .returned (v0_) ∧ Kd.R Kd.string 9 w' w.heap.size (fun _ => True) v0_ r ∧ Below w.heap.size w w' := by
  have hu45 := Tryd.underlying45
  have HR0 := Aside0.mk hr0
  have HC0 := Aside0.mk hc0
  clear hr0 hc0
  have HB := Aside0.mk (Below.refl w.heap.size w)
  have H : (head_Get.l0 k a1 ([] : List ByteArray) l0 (l0.length : Int) 0) = some r := h
  clear h
  have H' := Aside0.mk H
  clear H
  go_enter Tryd.func19, Tryd.ntmps19
  go_wp2
  go_loopg [5, 10] k (fun kq v5 v10 w' => ∃ (x5_1 : List ByteArray) (x10_1 : Int), v10 = .int .i64 x10_1 ∧ Aside0 (head_Get.l0 kq a1 x5_1 l0 (l0.length : Int) x10_1 = some r) ∧ Aside0 (kq ≤ k) ∧ Aside0 (Kd.R Kd.string 9 w' w.heap.size (fun _ => True) v5 x5_1) ∧ Aside0 (Below w.heap.size w w'))
  case atStart => exact ⟨(([] : List ByteArray)), (0), (by first | rfl | (simp; done) | (simp [*]; done)), H', ⟨Nat.le_refl _⟩, ⟨by first | exact Kd.R_nil _ _ _ _ _ | exact Kd.N_nil _ _ _ _ _ | exact Kd.V_nil _ _ _ _ _ | exact Kd.Q_nil _ _ _ _ _ | exact Kd.S_nil _ _ _ _ _⟩, ⟨by repeat (first | (with_reducible first | exact HB.out | apply below_alloc | apply pw_below_drewN | apply below_drew1) | exact HB.out)⟩⟩
  case round =>
    clear H'
    try clear c1
    try clear p2
    obtain ⟨x5_1, x10_1, rfl, HA, HK1, HO_5, HB⟩ := hrel
    cases gk with
    | zero => exact absurd HA.out (by simp [head_Get.l0])
    | succ k1 =>
      have H := HA.out
      clear HA
      simp only [head_Get.l0] at H
      by_cases c3 : x10_1 < (l0.length : Int)
      · rw [if_pos c3] at H
        have c3b0 : decide (x10_1 < (l0.length : Int)) = true := decide_eq_true c3
        clear c3
        by_cases c4 : 0 ≤ x10_1
        · rw [if_pos c4] at H
          have c4b0 : decide (0 ≤ x10_1) = true := decide_eq_true c4
          clear c4
          by_cases c5 : x10_1 < (l0.length : Int)
          · rw [if_pos c5] at H
            have c5b0 : decide (x10_1 < (l0.length : Int)) = true := decide_eq_true c5
            clear c5
            replace H := Option.bind_eq_some_iff.mp H
            obtain ⟨t152, A60, H⟩ := H
            replace H : (if t152 = true then (if x5_1.length < 8796093022208 then (head_Get.l0 k1 a1 (x5_1 ++ [(rd_T45 l0 x10_1).f1]) l0 (l0.length : Int) (wrap64 (x10_1 + 1))) else (none)) else (head_Get.l0 k1 a1 x5_1 l0 (l0.length : Int) (wrap64 (x10_1 + 1)))) = some r := H
            have A6 := Aside0.mk A60
            clear A60
            by_cases c7 : t152 = true
            · subst c7
              have H1 : (if x5_1.length < 8796093022208 then (head_Get.l0 k1 a1 (x5_1 ++ [(rd_T45 l0 x10_1).f1]) l0 (l0.length : Int) (wrap64 (x10_1 + 1))) else (none)) = some r := by rw [if_pos rfl] at H; exact H
              clear H
              have H := H1
              clear H1
              by_cases c8 : x5_1.length < 8796093022208
              · rw [if_pos c8] at H
                have LMc8 := Aside0.mk c8
                clear c8
                obtain ⟨y153, hy153⟩ : ∃ y_ : List ByteArray, y_ = (x5_1 ++ [(rd_T45 l0 x10_1).f1]) := ⟨_, rfl⟩
                replace H : (head_Get.l0 k1 a1 y153 l0 (l0.length : Int) (wrap64 (x10_1 + 1))) = some r := by first | (rw [hy153]; with_reducible exact H) | (have H2_ := (Option.bind_some _ _).symm.trans H; rw [hy153]; with_reducible exact H2_) | (have H2_ := (Option.bind_some _ _).symm.trans H; with_reducible exact H2_) | with_reducible exact H | (rw [hy153]; exact H) | exact H
                have Ny153 := Aside0.mk hy153
                clear hy153
                have H' := Aside0.mk H
                clear H
                have p150 : 0 ≤ (x10_1 : Int) := of_decide_eq_true (by first | (with_reducible assumption) | assumption)
                have q150 : x10_1 < (l0.length : Int) := of_decide_eq_true (by first | (with_reducible assumption) | assumption)
                obtain ⟨ad150, e150, hx150_0, hx150_1⟩ := at_T45 HR0.out x10_1 p150 q150
                cases e150
                replace hx150_0 := (HB.out.cell (World.block_lt_of_cell? w _ hx150_0)).trans hx150_0
                replace hx150_1 := (HB.out.cell (World.block_lt_of_cell? w _ hx150_1)).trans hx150_1
                replace p150 := eq_true p150
                replace q150 := eq_true q150
                go_wp2_with (first | ((with_reducible refine gate_dst (N := 7) rfl ?_); refine box_event ?hg (N := 7) ?hd (cs := #[.string (⟨#[]⟩ : ByteArray), .string (⟨#[]⟩ : ByteArray)]) (t := 45) ?hr ?_; (case hd => rfl); (case hg => rfl); (case hr => first | (go_simp; done) | (go_simp; rfl)); intro gb151 hg w9 hbox hb; have n0_ := Aside0.mk (Kd.R_below (by (with_reducible repeat (first | apply Kd.R_alloc | apply Kd.R_drewN | apply Kd.R_drew)); exact HO_5.out) hb); have n1_ := Aside0.mk (below_step (by repeat (first | (with_reducible first | exact HB.out | apply below_alloc | apply pw_below_drewN | apply below_drew1) | exact HB.out)) hb); have n2_ := Aside0.mk (hbox); have n3_ := Aside0.mk ((by rw [hg]; exact (below_size (by repeat (first | (with_reducible first | exact HB.out | apply below_alloc | apply pw_below_drewN | apply below_drew1) | exact HB.out))) : w.heap.size ≤ gb151)); have n4_ := Aside0.mk ((by rw [hg]; exact (below_size (by repeat (first | (with_reducible first | exact HB.out | apply below_alloc | apply pw_below_drewN | apply below_drew1) | exact HB.out))) : w.heap.size ≤ gb151)); clear HO_5; clear HB; have HO_5 := n0_; have HB := n1_; have BK151 := n2_; have GW151 := n3_; have GE151 := n4_; clear n0_ n1_ n2_ n3_ n4_; clear hb hbox hg; have hcz10_0 : w9.cell? ⟨gb151, 0, none⟩ = some (.string (⟨#[]⟩ : ByteArray)) := (blk_cell BK151.out 0).trans rfl; have hcz10_1 : w9.cell? ⟨gb151, 1, none⟩ = some (.string (⟨#[]⟩ : ByteArray)) := (blk_cell BK151.out 1).trans rfl; have hfz10_0 := blk_frozen BK151.out 0; have hfz10_1 := blk_frozen BK151.out 1) | ((with_reducible refine gate_callee (f := 40) rfl ?_); refine goesL_ (some 17) rfl rfl Tryd.func40 (by kernel_rfl) rfl #[.string ((rd_T45 l0 x10_1).f0), .string a1] rfl (by (try simp only [List.map_toArray, List.map_cons, List.map_nil]); first | done | rfl | (simp only [List.length_drop, List.length_take]; rfl)) ?_; (with_reducible refine (text_Same.calls ((rd_T45 l0 x10_1).f0) a1 true _ A6.out).mono ?_); rintro e w11 ⟨rfl, hb⟩; refine ⟨_, rfl, ?_⟩; have n0_ := Aside0.mk (Kd.R_below (by (with_reducible repeat (first | apply Kd.R_alloc | apply Kd.R_drewN | apply Kd.R_drew)); exact (Kd.R_mono (Kd.R_far (p := ⟨gb151, 1, none⟩) (Kd.R_far (p := ⟨gb151, 0, none⟩) (Kd.R_types HO_5.out BK151.out (by decide)) (fun _ hk => hk.2) (.string ((rd_T45 l0 x10_1).f0))) (fun _ hk => hk.2) (.string ((rd_T45 l0 x10_1).f1))) (fun _ h_ => h_.1))) hb); have n1_ := Aside0.mk (blk_below (g := gb151) (o := .cells #[.string ((rd_T45 l0 x10_1).f0), .string ((rd_T45 l0 x10_1).f1)] 45 (0, 0)) (by (with_reducible repeat (first | refine blk_drewN ?_ _ | refine blk_drew ?_ | refine blk_alloc ?_ _)); refine blk_put (cs := #[.string ((rd_T45 l0 x10_1).f0), .string (⟨#[]⟩ : ByteArray)]) ?_ 1 _ rfl; (with_reducible repeat (first | refine blk_drewN ?_ _ | refine blk_drew ?_ | refine blk_alloc ?_ _)); refine blk_put (cs := #[.string (⟨#[]⟩ : ByteArray), .string (⟨#[]⟩ : ByteArray)]) ?_ 0 _ rfl; (with_reducible repeat (first | refine blk_drewN ?_ _ | refine blk_drew ?_ | refine blk_alloc ?_ _)); exact BK151.out) hb); have n2_ := Aside0.mk (below_step (by repeat (first | (with_reducible first | exact HB.out | apply below_alloc | apply pw_below_drewN | apply below_drew1 | refine below_set ?_ GE151.out) | exact HB.out)) hb); clear HO_5; clear BK151; clear HB; have HO_5 := n0_; have BK151 := n1_; have HB := n2_; clear n0_ n1_ n2_; (try clear hb); (try clear hb2); (try clear hk); (try clear hi); have hcz12_0 : w11.cell? ⟨gb151, 0, none⟩ = some (.string ((rd_T45 l0 x10_1).f0)) := (blk_cell BK151.out 0).trans rfl; have hcz12_1 : w11.cell? ⟨gb151, 1, none⟩ = some (.string ((rd_T45 l0 x10_1).f1)) := (blk_cell BK151.out 1).trans rfl; have hfz12_0 := blk_frozen BK151.out 0; have hfz12_1 := blk_frozen BK151.out 1) | ((with_reducible refine gate_builtin (b := .append) (xs := #[.tmp 18, .tmp 21]) rfl ?_); at_builtin; refine Kd.R_append Kd.string (w0 := w) w.heap.size rfl (.tmp 18) (.tmp 21) 32 9 (.string ⟨#[]⟩) 16 rfl Tryd.underlying32 info9 rfl (by decide) (by omega) u5 x5_1 ((rd_T45 l0 x10_1).f1) [.string ((rd_T45 l0 x10_1).f1)] (fun _ => True) (fun _ => False) rfl rfl ?aP (fun _ hk => hk.elim) ?aF ?aO ?aB ?aS ?aL ?_; (case aP => exact rfl); (case aB => exact (by repeat (first | (with_reducible first | exact HB.out | apply below_alloc | apply pw_below_drewN | apply below_drew1 | refine below_set ?_ GE151.out) | exact HB.out))); (case aF => exact (fun _ _ => trivial)); (case aO => exact (by (with_reducible repeat (first | apply Kd.R_alloc | apply Kd.R_drewN | apply Kd.R_drew)); exact HO_5.out)); (case aS => exact (below_size (by repeat (first | (with_reducible first | exact HB.out | apply below_alloc | apply pw_below_drewN | apply below_drew1 | refine below_set ?_ GE151.out) | exact HB.out)))); (case aL => have := LMc8.out; omega); intro v154 w13 ho hb hg hat; rw [← Ny153.out] at ho; have n0_ := Aside0.mk (blk_grown (g := gb151) (o := .cells #[.string ((rd_T45 l0 x10_1).f0), .string ((rd_T45 l0 x10_1).f1)] 45 (0, 0)) (by (with_reducible repeat (first | refine blk_drewN ?_ _ | refine blk_drew ?_ | refine blk_alloc ?_ _)); exact BK151.out) hg (Kd.R_ne HO_5.out BK151.out (by decide))); have n1_ := Aside0.mk (hb); have n2_ := Aside0.mk (ho); clear BK151; clear HB; clear HO_5; have BK151 := n0_; have HB := n1_; have HO155 := n2_; clear n0_ n1_ n2_; clear ho hb hg hat))
                go_roundg k1
                case measure => have := HK1.out; omega
                case rel => exact ⟨(y153), (wrap64 (x10_1 + 1)), (by first | rfl | (simp; done) | (simp [*]; done)), H', ⟨by have := HK1.out; omega⟩, ⟨by (with_reducible repeat (first | apply Kd.R_alloc | apply Kd.R_drewN | apply Kd.R_drew)); exact HO155.out⟩, ⟨by repeat (first | (with_reducible first | exact HB.out | apply below_alloc | apply pw_below_drewN | apply below_drew1 | refine below_set ?_ GE151.out) | exact HB.out)⟩⟩
              · rw [if_neg c8] at H
                exact absurd H (by simp)
            · replace c7 := Bool.eq_false_iff.mpr c7
              subst c7
              have H1 : (head_Get.l0 k1 a1 x5_1 l0 (l0.length : Int) (wrap64 (x10_1 + 1))) = some r := by rw [if_neg (show ¬ (false = true) by decide)] at H; exact H
              clear H
              have H := H1
              clear H1
              have H' := Aside0.mk H
              clear H
              have p150 : 0 ≤ (x10_1 : Int) := of_decide_eq_true (by first | (with_reducible assumption) | assumption)
              have q150 : x10_1 < (l0.length : Int) := of_decide_eq_true (by first | (with_reducible assumption) | assumption)
              obtain ⟨ad150, e150, hx150_0, hx150_1⟩ := at_T45 HR0.out x10_1 p150 q150
              cases e150
              replace hx150_0 := (HB.out.cell (World.block_lt_of_cell? w _ hx150_0)).trans hx150_0
              replace hx150_1 := (HB.out.cell (World.block_lt_of_cell? w _ hx150_1)).trans hx150_1
              replace p150 := eq_true p150
              replace q150 := eq_true q150
              go_wp2_with (first | ((with_reducible refine gate_dst (N := 7) rfl ?_); refine box_event ?hg (N := 7) ?hd (cs := #[.string (⟨#[]⟩ : ByteArray), .string (⟨#[]⟩ : ByteArray)]) (t := 45) ?hr ?_; (case hd => rfl); (case hg => rfl); (case hr => first | (go_simp; done) | (go_simp; rfl)); intro gb151 hg w14 hbox hb; have n0_ := Aside0.mk (Kd.R_below (by (with_reducible repeat (first | apply Kd.R_alloc | apply Kd.R_drewN | apply Kd.R_drew)); exact HO_5.out) hb); have n1_ := Aside0.mk (below_step (by repeat (first | (with_reducible first | exact HB.out | apply below_alloc | apply pw_below_drewN | apply below_drew1) | exact HB.out)) hb); have n2_ := Aside0.mk (hbox); have n3_ := Aside0.mk ((by rw [hg]; exact (below_size (by repeat (first | (with_reducible first | exact HB.out | apply below_alloc | apply pw_below_drewN | apply below_drew1) | exact HB.out))) : w.heap.size ≤ gb151)); have n4_ := Aside0.mk ((by rw [hg]; exact (below_size (by repeat (first | (with_reducible first | exact HB.out | apply below_alloc | apply pw_below_drewN | apply below_drew1) | exact HB.out))) : w.heap.size ≤ gb151)); clear HO_5; clear HB; have HO_5 := n0_; have HB := n1_; have BK151 := n2_; have GW151 := n3_; have GE151 := n4_; clear n0_ n1_ n2_ n3_ n4_; clear hb hbox hg; have hcz15_0 : w14.cell? ⟨gb151, 0, none⟩ = some (.string (⟨#[]⟩ : ByteArray)) := (blk_cell BK151.out 0).trans rfl; have hcz15_1 : w14.cell? ⟨gb151, 1, none⟩ = some (.string (⟨#[]⟩ : ByteArray)) := (blk_cell BK151.out 1).trans rfl; have hfz15_0 := blk_frozen BK151.out 0; have hfz15_1 := blk_frozen BK151.out 1) | ((with_reducible refine gate_callee (f := 40) rfl ?_); refine goesL_ (some 17) rfl rfl Tryd.func40 (by kernel_rfl) rfl #[.string ((rd_T45 l0 x10_1).f0), .string a1] rfl (by (try simp only [List.map_toArray, List.map_cons, List.map_nil]); first | done | rfl | (simp only [List.length_drop, List.length_take]; rfl)) ?_; (with_reducible refine (text_Same.calls ((rd_T45 l0 x10_1).f0) a1 false _ A6.out).mono ?_); rintro e w16 ⟨rfl, hb⟩; refine ⟨_, rfl, ?_⟩; have n0_ := Aside0.mk (Kd.R_below (by (with_reducible repeat (first | apply Kd.R_alloc | apply Kd.R_drewN | apply Kd.R_drew)); exact (Kd.R_mono (Kd.R_far (p := ⟨gb151, 1, none⟩) (Kd.R_far (p := ⟨gb151, 0, none⟩) (Kd.R_types HO_5.out BK151.out (by decide)) (fun _ hk => hk.2) (.string ((rd_T45 l0 x10_1).f0))) (fun _ hk => hk.2) (.string ((rd_T45 l0 x10_1).f1))) (fun _ h_ => h_.1))) hb); have n1_ := Aside0.mk (blk_below (g := gb151) (o := .cells #[.string ((rd_T45 l0 x10_1).f0), .string ((rd_T45 l0 x10_1).f1)] 45 (0, 0)) (by (with_reducible repeat (first | refine blk_drewN ?_ _ | refine blk_drew ?_ | refine blk_alloc ?_ _)); refine blk_put (cs := #[.string ((rd_T45 l0 x10_1).f0), .string (⟨#[]⟩ : ByteArray)]) ?_ 1 _ rfl; (with_reducible repeat (first | refine blk_drewN ?_ _ | refine blk_drew ?_ | refine blk_alloc ?_ _)); refine blk_put (cs := #[.string (⟨#[]⟩ : ByteArray), .string (⟨#[]⟩ : ByteArray)]) ?_ 0 _ rfl; (with_reducible repeat (first | refine blk_drewN ?_ _ | refine blk_drew ?_ | refine blk_alloc ?_ _)); exact BK151.out) hb); have n2_ := Aside0.mk (below_step (by repeat (first | (with_reducible first | exact HB.out | apply below_alloc | apply pw_below_drewN | apply below_drew1 | refine below_set ?_ GE151.out) | exact HB.out)) hb); clear HO_5; clear BK151; clear HB; have HO_5 := n0_; have BK151 := n1_; have HB := n2_; clear n0_ n1_ n2_; (try clear hb); (try clear hb2); (try clear hk); (try clear hi)))
              go_roundg k1
              case measure => have := HK1.out; omega
              case rel => exact ⟨(x5_1), (wrap64 (x10_1 + 1)), (by first | rfl | (simp; done) | (simp [*]; done)), H', ⟨by have := HK1.out; omega⟩, ⟨by (with_reducible repeat (first | apply Kd.R_alloc | apply Kd.R_drewN | apply Kd.R_drew)); exact HO_5.out⟩, ⟨by repeat (first | (with_reducible first | exact HB.out | apply below_alloc | apply pw_below_drewN | apply below_drew1 | refine below_set ?_ GE151.out) | exact HB.out)⟩⟩
          · rw [if_neg c5] at H
            exact absurd H (by simp)
        · rw [if_neg c4] at H
          exact absurd H (by simp)
      · rw [if_neg c3] at H
        have c3b0 : decide (x10_1 < (l0.length : Int)) = false := decide_eq_false c3
        clear c3
        obtain rfl := Option.some.inj H
        go_wp2
        go_ret
        exact ⟨_, by first | rfl | (simp [errW_none, errW_some] <;> rfl) | (simp [*, errW_none, errW_some] <;> rfl), by (with_reducible repeat (first | apply Kd.R_alloc | apply Kd.R_drewN | apply Kd.R_drew)); exact HO_5.out, by repeat (first | (with_reducible first | exact HB.out | apply below_alloc | apply pw_below_drewN | apply below_drew1) | exact HB.out)⟩

end Go.Proofs.YtdofgilfmgdpkaaDoor.P

/- slices.ContainsFunc over fields, for every predicate that answers at the slice's bytes. -/
namespace Go.Proofs.YtdofgilfmgdpkaaDoor.P
open Go.RowKit Go.Proofs.YtdofgilfmgdpkaaDoorW.PrintWords Go.Proofs.YtdofgilfmgdpkaaDoorW.PrintLast Go.Proofs.YtdofgilfmgdpkaaDoorW.PrintMore

/-- A field as a value. -/
def encF (x : S45) : Value := .agg #[.string x.f0, .string x.f1]
/-- What is asked of a predicate handed over: at each element, in every later world, it answers and leaves what was. -/
def PredOnF (g : Nat) (lb : Array Value) (enc : S45 → Value) (p : S45 → Bool) (l : List S45) (w : World) : Prop :=
  ∀ (W : World) (x : S45), x ∈ l → Below w.heap.size w W → Calls Tryd.prog g (#[enc x] ++ lb) W fun e w' => e = .returned (.bool (p x)) ∧ Below W.heap.size W w'

/-- What the search answers: the first place at which p holds, or -1. -/
def IdxFields (p : S45 → Bool) (l : List S45) (i : Int) : Prop := (i = -1 ∧ l.any p = false) ∨ ∃ k : Nat, i = (k : Int) ∧ k < l.length ∧ (l.take k).any p = false ∧ p (l.getD k z45) = true
theorem IdxFields.sign {p : S45 → Bool} {l : List S45} {i : Int} (h : IdxFields p l i) : decide (0 ≤ i) = l.any p := by
  rcases h with ⟨rfl, h⟩ | ⟨k, rfl, hk, _, h⟩
  · rw [h]; rfl
  · have : l.any p = true := by
      rw [List.any_eq_true]
      refine ⟨l.getD k z45, ?_, h⟩
      rw [List.getD_eq_getElem?_getD, List.getElem?_eq_getElem hk]; exact List.getElem_mem hk
    rw [this]; simp

set_option maxHeartbeats 1000000 in
theorem indexFields (A : Option Addr) (c : Nat) (l : List S45) (g : Nat) (lb : Array Value) (eg : ∀ args w, (callFunc g args).run Tryd.prog w = .ok (.enter g args) w) (p : S45 → Bool) (w : World)
    (hr : Kd.C k45 w A l.length l) (hp : PredOnF g lb encF p l w) :
    Calls Tryd.prog 52 #[.slice A l.length c, .func (.func g) #[] lb] w fun e w' => ∃ i : Int, e = .returned (.int .i64 i) ∧ Aside0 (IdxFields p l i) ∧ Below w.heap.size w w' := by
  have hm : l.length ≤ 9223372036854775807 := hr.2.1
  have HR := Aside0.mk hr
  clear hr
  go_enter Tryd.func52, Tryd.ntmps52
  go_wp2
  go_loopg [5, 8] l.length (fun gg _ s8 wr => ∃ kk : Nat, kk ≤ l.length ∧ l.length - kk ≤ gg ∧ s8 = .int .i64 kk ∧ Aside0 (Below w.heap.size w wr) ∧ Aside0 ((l.take kk).any p = false))
  case atStart => exact ⟨0, Nat.zero_le _, by omega, rfl, ⟨Below.refl _ w⟩, ⟨by simp⟩⟩
  case round =>
    obtain ⟨kk, hkk, hg, rfl, BW, AN⟩ := hrel
    by_cases hlt : kk < l.length
    · have hltz : (kk : Int) < (l.length : Int) := by omega
      obtain ⟨ad, hA, hx0, hx1⟩ := at_T45 HR.out (kk : Int) (by omega) hltz
      subst hA
      have l2 := (BW.out.cell (World.block_lt_of_cell? w _ hx0)).trans hx0
      have l3 := (BW.out.cell (World.block_lt_of_cell? w _ hx1)).trans hx1
      rw [show rd_T45 l (kk : Int) = l.getD kk z45 from rfl] at l2 l3
      simp only [Int.toNat_natCast] at l2 l3
      clear hx0 hx1
      have hmem : l.getD kk z45 ∈ l := by rw [List.getD_eq_getElem?_getD, List.getElem?_eq_getElem hlt]; exact List.getElem_mem hlt
      have hcall := hp wr (l.getD kk z45) hmem BW.out
      have hsn : l.take (kk + 1) = l.take kk ++ [l.getD kk z45] := by
        rw [List.take_succ_eq_append_getElem hlt, List.getD_eq_getElem?_getD, List.getElem?_eq_getElem hlt]; rfl
      have HSN := Aside0.mk hsn
      clear hsn hp
      generalize hy : l.getD kk z45 = y at l2 l3 hcall hmem HSN
      have HY := Aside0.mk hy
      clear hy
      unfold encF at hcall
      cases hq : p y with
      | true =>
        rw [hq] at hcall
        have HQ := Aside0.mk hq
        clear hq
        go_wp2_with fail
        refine hcall.mono ?_
        rintro e w' ⟨rfl, hb'⟩
        go_wp2
        go_ret
        exact ⟨_, rfl, ⟨.inr ⟨kk, rfl, hlt, AN.out, by rw [HY.out]; exact HQ.out⟩⟩, BW.out.trans (hb'.mono BW.out.size)⟩
      | false =>
        rw [hq] at hcall
        have HQ := Aside0.mk hq
        clear hq
        go_wp2_with fail
        refine hcall.mono ?_
        rintro e w' ⟨rfl, hb'⟩
        go_wp2
        go_roundg (l.length - (kk + 1))
        case measure => omega
        case rel => exact ⟨kk + 1, by omega, by omega, by go_num, ⟨BW.out.trans (hb'.mono BW.out.size)⟩, ⟨by rw [HSN.out, List.any_append, AN.out]; simp [HQ.out]⟩⟩
    · have hltz : ¬ (kk : Int) < (l.length : Int) := by omega
      have hkl : kk = l.length := by omega
      have HN := Aside0.mk (show l.any p = false by have := AN.out; rwa [hkl, List.take_length] at this)
      subst hkl
      go_wp2
      go_ret
      exact ⟨_, rfl, ⟨.inl ⟨rfl, HN.out⟩⟩, BW.out⟩

theorem containsFields (A : Option Addr) (c : Nat) (l : List S45) (g : Nat) (lb : Array Value) (eg : ∀ args w, (callFunc g args).run Tryd.prog w = .ok (.enter g args) w) (p : S45 → Bool) (w : World)
    (hr : Kd.C k45 w A l.length l) (hp : PredOnF g lb encF p l w) :
    Calls Tryd.prog 37 #[.slice A l.length c, .func (.func g) #[] lb] w fun e w' => e = .returned (.bool (l.any p)) ∧ Below w.heap.size w w' := by
  go_enter Tryd.func37, Tryd.ntmps37
  go_wp2_with fail
  refine (indexFields A c l g lb eg p w hr hp).mono ?_
  rintro e w' ⟨i, rfl, hi, hb⟩
  go_wp2
  go_ret
  refine ⟨?_, hb⟩
  rw [← hi.out.sign]
  rfl
end Go.Proofs.YtdofgilfmgdpkaaDoor.P

/- slices.DeleteFunc over fields, on a row of the call's own, for every predicate. -/
namespace Go.Proofs.YtdofgilfmgdpkaaDoor.P
open Go.RowKit Go.Proofs.YtdofgilfmgdpkaaDoorW.PrintWords Go.Proofs.YtdofgilfmgdpkaaDoorW.PrintLast Go.Proofs.YtdofgilfmgdpkaaDoorW.PrintMore

def cellsF : List S45 → List Value
  | [] => []
  | x :: r => .string x.f0 :: .string x.f1 :: cellsF r
theorem cellsF_length (l : List S45) : (cellsF l).length = l.length * 2 := by
  induction l with
  | nil => rfl
  | cons x r ih => simp only [cellsF, List.length_cons, ih]; omega
theorem cellsF_append (l m : List S45) : cellsF (l ++ m) = cellsF l ++ cellsF m := by
  induction l with
  | nil => rfl
  | cons x r ih => simp only [List.cons_append, cellsF, ih]
theorem cellsF_take (l : List S45) (k : Nat) : (cellsF l).take (k * 2) = cellsF (l.take k) := by
  induction l generalizing k with
  | nil => simp [cellsF]
  | cons x r ih =>
    cases k with
    | zero => simp [cellsF]
    | succ k => simp only [cellsF, List.take_succ_cons, show (k + 1) * 2 = k * 2 + 1 + 1 by omega, ih]
theorem cellsF_at (l : List S45) (k : Nat) (h : k < l.length) : (cellsF l)[k * 2]? = some (.string (l.getD k z45).f0) ∧ (cellsF l)[k * 2 + 1]? = some (.string (l.getD k z45).f1) := by
  induction l generalizing k with
  | nil => simp at h
  | cons x r ih =>
    cases k with
    | zero => exact ⟨rfl, rfl⟩
    | succ k =>
      have := ih k (by simpa using h)
      simpa only [cellsF, show (k + 1) * 2 = k * 2 + 1 + 1 by omega, List.getElem?_cons_succ, List.getD_cons_succ] using this
theorem cellsF_set (l : List S45) (k : Nat) (x : S45) (h : k < l.length) : ((cellsF l).set (k * 2) (.string x.f0)).set (k * 2 + 1) (.string x.f1) = cellsF (l.set k x) := by
  induction l generalizing k with
  | nil => simp at h
  | cons y r ih =>
    cases k with
    | zero => rfl
    | succ k =>
      have := ih k (by simpa using h)
      simp only [cellsF, show (k + 1) * 2 = k * 2 + 1 + 1 by omega, List.set_cons_succ, this]
theorem cellsF_inj_len {l : List S45} : Reps (fun x c => c = [Value.string x.f0, Value.string x.f1]) 2 l (cellsF l) := by
  refine ⟨cellsF_length l, fun j p hj => ?_⟩
  have hjl := (List.getElem?_eq_some_iff.1 hj).1
  obtain ⟨h0, h1⟩ := cellsF_at l j hjl
  have hp : l.getD j z45 = p := by rw [List.getD_eq_getElem?_getD, hj]; rfl
  rw [hp] at h0 h1
  have hl : j * 2 + 1 < (cellsF l).length := by rw [cellsF_length]; omega
  apply List.ext_getElem?
  intro i
  rw [List.getElem?_take]
  split
  · rename_i hi
    rw [List.getElem?_drop]
    match i, hi with
    | 0, _ => simpa using h0
    | 1, _ => simpa using h1
  · rename_i hi
    rw [List.getElem?_eq_none]; simp; omega

/-- Block g is a row of fields: cur stands first in it. -/
def RowF (g cap : Nat) (cur : List S45) (w : World) : Prop := ∃ cs : Array Value, w.heap[g]? = some (.cells cs 45 (0, 0)) ∧ cs.size = cap * 2 ∧ cur.length ≤ cap ∧ cap ≤ maxLen ∧ cs.toList.take (cur.length * 2) = cellsF cur
theorem RowF.same {g cap : Nat} {cur : List S45} {w w' : World} (h : RowF g cap cur w) (he : w'.heap[g]? = w.heap[g]?) : RowF g cap cur w' := by
  obtain ⟨cs, h1, h2⟩ := h
  exact ⟨cs, he.trans h1, h2⟩
theorem RowF.lt {g cap : Nat} {cur : List S45} {w : World} (h : RowF g cap cur w) : g < w.heap.size := by
  obtain ⟨cs, h1, _⟩ := h
  exact blk_lt h1
theorem RowF.at {g cap : Nat} {cur : List S45} {w : World} (h : RowF g cap cur w) (k : Nat) (hk : k < cur.length) : w.cell? ⟨g, k * 2, none⟩ = some (.string (cur.getD k z45).f0) ∧ w.cell? ⟨g, k * 2 + 1, none⟩ = some (.string (cur.getD k z45).f1) := by
  obtain ⟨cs, h1, h2, h3, h4, h5⟩ := h
  obtain ⟨c0, c1⟩ := cellsF_at cur k hk
  rw [← h5, List.getElem?_take] at c0 c1
  rw [if_pos (by omega), Array.getElem?_toList] at c0 c1
  exact ⟨(blk_cell h1 _).trans c0, (blk_cell h1 _).trans c1⟩
theorem RowF.free {g cap : Nat} {cur : List S45} {w : World} (h : RowF g cap cur w) (k : Nat) : w.frozen? ⟨g, k, none⟩ = false := by
  obtain ⟨cs, h1, _⟩ := h
  exact blk_frozen h1 k
theorem RowF.cells {g cap : Nat} {cur : List S45} {w : World} (h : RowF g cap cur w) (k : Nat) (hk : k < cap * 2) : (w.cell? ⟨g, k, none⟩).isSome = true := by
  obtain ⟨cs, h1, h2, _⟩ := h
  rw [blk_cell h1, Array.getElem?_eq_getElem (by omega)]; rfl
theorem RowF.set {g cap : Nat} {cur : List S45} {w : World} (h : RowF g cap cur w) (k : Nat) (hk : k < cur.length) (x : S45) : RowF g cap (cur.set k x) ((w.setCell ⟨g, k * 2, none⟩ (.string x.f0)).setCell ⟨g, k * 2 + 1, none⟩ (.string x.f1)) := by
  obtain ⟨cs, h1, h2, h3, h4, h5⟩ := h
  refine ⟨_, blk_set (blk_set h1 _ _) _ _, by simpa using h2, by simpa using h3, h4, ?_⟩
  rw [List.length_set, ← cellsF_set cur k x hk, ← h5]
  simp only [Array.toList_setIfInBounds, List.take_set]
theorem RowF.R {g cap base : Nat} {cur : List S45} {w : World} (h : RowF g cap cur w) (hb : base ≤ g) (n : Nat) (hn : n ≤ cur.length) : Kd.R k45 45 w base (fun _ => True) (.slice (some ⟨g, 0, none⟩) n cap) (cur.take n) := by
  obtain ⟨cs, h1, h2, h3, h4, h5⟩ := h
  have hl : (cur.take n).length = n := by rw [List.length_take]; omega
  refine ⟨fun _ _ => trivial, cellsF (cur.take n), ⟨by rw [cellsF_length]; rfl, .inr ⟨g, cap, cs, by rw [hl], hb, h1, by rw [hl]; omega, h4, h2, ?_⟩⟩, ?_⟩
  · rw [hl, ← cellsF_take, ← h5]
    show cs.toList.take (n * 2) = _
    rw [List.take_take, Nat.min_eq_left (by omega)]
  · exact cellsF_inj_len.imp_ (fun p c hc => by rw [hc]; exact k45_mkM _ _ _ p)
theorem RowF.of_R {base : Nat} {ok : Nat → Prop} {l : List S45} {v : Value} {w : World} (h : Kd.R k45 45 w base ok v l) : (v = .slice none 0 0 ∧ l = []) ∨ ∃ g cap, v = .slice (some ⟨g, 0, none⟩) l.length cap ∧ base ≤ g ∧ RowF g cap l w := by
  obtain ⟨_, inner, ⟨hlen, ho⟩, hr⟩ := h
  have hin : inner = cellsF l := by
    have h2 : Reps (fun x c => c = [Value.string x.f0, Value.string x.f1]) 2 l inner := Reps.imp_ hr (R' := fun x c => c = [Value.string x.f0, Value.string x.f1]) (fun p c hc => k45_openM hc)
    apply List.ext_getElem?
    intro i
    have hl1 : inner.length = l.length * 2 := hr.1
    by_cases hi : i < l.length * 2
    · have hj : i / 2 < l.length := by omega
      have e1 := h2.2 (i / 2) _ (List.getElem?_eq_getElem hj)
      have e2 := cellsF_inj_len.2 (i / 2) _ (List.getElem?_eq_getElem hj)
      have e3 := congrArg (fun q => q[i % 2]?) (e1.trans e2.symm)
      simp only [List.getElem?_take, List.getElem?_drop] at e3
      rw [if_pos (by omega), if_pos (by omega), show i / 2 * 2 + i % 2 = i by omega] at e3
      exact e3
    · rw [List.getElem?_eq_none (by omega), List.getElem?_eq_none (by rw [cellsF_length]; omega)]
  subst hin
  rcases ho with ⟨rfl, hz⟩ | ⟨g, cap, cur, rfl, hb, hh, h1, h2, h3, h4⟩
  · exact .inl ⟨rfl, List.eq_nil_of_length_eq_zero hz⟩
  · exact .inr ⟨g, cap, rfl, hb, cur, hh, h3, h1, h2, h4⟩

/-- All that lay in w lies in w', but for block g. -/
structure KBut (w w' : World) (g : Nat) : Prop where
  os : w'.os = w.os
  tape : w'.tape = w.tape
  output : w'.output = w.output
  size : w.heap.size ≤ w'.heap.size
  block : ∀ i, i < w.heap.size → i ≠ g → w'.heap[i]? = w.heap[i]?
theorem KBut.refl (w : World) (g : Nat) : KBut w w g := ⟨rfl, rfl, rfl, Nat.le_refl _, fun _ _ _ => rfl⟩
theorem KBut.of_below {w w' : World} (h : Below w.heap.size w w') (g : Nat) : KBut w w' g := ⟨h.os, h.tape, h.output, h.size, fun i hi _ => h.block i hi⟩
theorem KBut.trans {w w1 w2 : World} {g : Nat} (h : KBut w w1 g) (k : KBut w1 w2 g) : KBut w w2 g := ⟨k.os.trans h.os, k.tape.trans h.tape, k.output.trans h.output, Nat.le_trans h.size k.size, fun i hi hg => (k.block i (Nat.lt_of_lt_of_le hi h.size) hg).trans (h.block i hi hg)⟩
theorem KBut.step {w w1 w2 : World} {g : Nat} (h : KBut w w1 g) (k : Below w1.heap.size w1 w2) : KBut w w2 g := h.trans (.of_below k g)
theorem KBut.set {w w1 : World} {g : Nat} (h : KBut w w1 g) (j : Nat) (v : Value) : KBut w (w1.setCell ⟨g, j, none⟩ v) g :=
  have hb := (Below.refl 0 w1).setCell (p := ⟨g, j, none⟩) (Nat.zero_le _) v
  h.trans ⟨hb.os, hb.tape, hb.output, hb.size, fun i _ hg => Below.heap_setCell w1 ⟨g, j, none⟩ v i hg⟩
theorem KBut.below {w w' : World} {g base : Nat} (h : KBut w w' g) (hb : base ≤ g) (hbw : base ≤ w.heap.size) : Below base w w' := ⟨h.os, h.tape, h.output, h.size, fun i hi => h.block i (Nat.lt_of_lt_of_le hi hbw) (by omega)⟩

theorem setCells_heap (g : Nat) (t : TypeId) : ∀ (vs : List Value) (o : Nat) (w : World) (cs : Array Value), w.heap[g]? = some (.cells cs t (0, 0)) → ∃ cs' : Array Value, (w.setCells g o vs).heap[g]? = some (.cells cs' t (0, 0)) ∧ cs'.size = cs.size ∧ ∀ i, i < o → cs'[i]? = cs[i]?
  | [], _, _, cs, h => ⟨cs, h, rfl, fun _ _ => rfl⟩
  | v :: r, o, w, cs, h => by
    obtain ⟨cs', h1, h2, h3⟩ := setCells_heap g t r (o + 1) (w.setCell ⟨g, o, none⟩ v) _ (blk_set h o v)
    refine ⟨cs', h1, by rw [h2]; simp, fun i hi => ?_⟩
    rw [h3 i (by omega), Array.getElem?_setIfInBounds_ne (by omega)]
theorem KBut.setCells {w : World} {g : Nat} : ∀ (vs : List Value) (o : Nat) (w1 : World), KBut w w1 g → KBut w (w1.setCells g o vs) g
  | [], _, _, h => h
  | v :: r, o, w1, h => KBut.setCells r (o + 1) _ (h.set o v)
theorem RowF.cut {g cap i : Nat} {cur : List S45} {w : World} (h : RowF g cap cur w) (hi : i ≤ cur.length) (vs : List Value) : RowF g cap (cur.take i) (w.setCells g (i * 2) vs) := by
  obtain ⟨cs, h1, h2, h3, h4, h5⟩ := h
  obtain ⟨cs', g1, g2, g3⟩ := setCells_heap g 45 vs (i * 2) w cs h1
  have hl : (cur.take i).length = i := by rw [List.length_take]; omega
  refine ⟨cs', g1, by rw [g2, h2], by omega, h4, ?_⟩
  rw [hl, ← cellsF_take, ← h5, List.take_take, Nat.min_eq_left (by omega)]
  apply List.ext_getElem?
  intro j
  rw [List.getElem?_take, List.getElem?_take]
  split
  · rw [Array.getElem?_toList, Array.getElem?_toList, g3 j (by omega)]
  · rfl
theorem run_clearF (w : World) (g cap i n c : Nat) (cur : List S45) (hn : 0 < n) (h : RowF g cap cur w) (hi : i + n ≤ cap) :
    ∃ vs, ∀ ty, (Builtin.clear_ #[23] ty #[.slice (some ⟨g, i * 2, none⟩) n c]).run Tryd.prog w = .ok (.tuple #[]) (w.setCells g (i * 2) vs) := by
  have hv : (zeroValue 45).run Tryd.prog w = .ok (.agg #[.string ⟨#[]⟩, .string ⟨#[]⟩]) w := by kernel_rfl
  refine ⟨(Builtin.zeroCells (Value.agg #[.string ⟨#[]⟩, .string ⟨#[]⟩]).cells n).toList, fun ty => ?_⟩
  have hone : ∀ v ∈ (Builtin.zeroCells (Value.agg #[.string ⟨#[]⟩, .string ⟨#[]⟩]).cells n).toList, v.oneCell' = true := by
    intro v hv
    rw [Array.mem_toList_iff, Builtin.zeroCells, Array.mem_map] at hv
    obtain ⟨q, _, rfl⟩ := hv
    have h2 : q % (Value.agg #[.string ⟨#[]⟩, .string ⟨#[]⟩]).cells.size < 2 := Nat.mod_lt _ (by decide)
    generalize q % (Value.agg #[.string ⟨#[]⟩, .string ⟨#[]⟩]).cells.size = k at h2
    match k, h2 with
    | 0, _ => rfl
    | 1, _ => rfl
  have hlen : (Builtin.zeroCells (Value.agg #[.string ⟨#[]⟩, .string ⟨#[]⟩]).cells n).toList.length = n * 2 := by
    simp [Builtin.zeroCells, Value.cells]
  have hst := run_storeCells_cells (P := Tryd.prog) g (i * 2) _ 0 w (fun j hj => by rw [hlen] at hj; exact h.cells _ (by omega)) (fun j hj => h.free _) hone
  simp only [Nat.add_zero] at hst
  obtain ⟨m, rfl⟩ : ∃ m, n = m + 1 := ⟨n - 1, by omega⟩
  simp only [Builtin.clear_]
  simp [run_underlying Tryd.underlying23, hv, hst]
end Go.Proofs.YtdofgilfmgdpkaaDoor.P

/- slices.DeleteFunc over fields: the walk. -/
namespace Go.Proofs.YtdofgilfmgdpkaaDoor.P
open Go.RowKit Go.Proofs.YtdofgilfmgdpkaaDoorW.PrintWords Go.Proofs.YtdofgilfmgdpkaaDoorW.PrintLast Go.Proofs.YtdofgilfmgdpkaaDoorW.PrintMore

def keptF (p : S45 → Bool) (l : List S45) : List S45 := l.filter fun x => !p x
/-- Behind j places: i were kept; they stand first; from j on all is as it was. -/
def KeptTo (p : S45 → Bool) (l cur : List S45) (i j : Nat) : Prop := i < j ∧ j ≤ l.length ∧ cur.length = l.length ∧ cur.take i = keptF p (l.take j) ∧ (keptF p (l.take j)).length = i ∧ ∀ k, j ≤ k → cur[k]? = l[k]?
theorem take_snocF (l : List S45) (j : Nat) (h : j < l.length) : l.take (j + 1) = l.take j ++ [l.getD j z45] := by
  rw [List.take_succ_eq_append_getElem h, List.getD_eq_getElem?_getD, List.getElem?_eq_getElem h]; rfl
theorem keptF_none (p : S45 → Bool) (l : List S45) (h : l.any p = false) : keptF p l = l := by
  unfold keptF
  rw [List.filter_eq_self]
  intro x hx
  rw [List.any_eq_false] at h
  have := h x hx
  simp [this]
theorem KeptTo.start {p : S45 → Bool} {l : List S45} {k : Nat} (hk : k < l.length) (h0 : (l.take k).any p = false) (h1 : p (l.getD k z45) = true) : KeptTo p l l k (k + 1) := by
  have e : keptF p (l.take (k + 1)) = l.take k := by
    rw [take_snocF l k hk]
    unfold keptF
    rw [List.filter_append]
    have := keptF_none p _ h0
    unfold keptF at this
    rw [this]
    generalize l.getD k z45 = y at h1
    simp [h1]
  refine ⟨by omega, by omega, rfl, e.symm, by rw [e, List.length_take]; omega, fun _ _ => rfl⟩
theorem KeptTo.skip {p : S45 → Bool} {l cur : List S45} {i j : Nat} (h : KeptTo p l cur i j) (hj : j < l.length) (h1 : p (l.getD j z45) = true) : KeptTo p l cur i (j + 1) := by
  obtain ⟨a, b, c, d, e, f⟩ := h
  have g : keptF p (l.take (j + 1)) = keptF p (l.take j) := by
    rw [take_snocF l j hj]
    unfold keptF
    rw [List.filter_append]
    generalize l.getD j z45 = y at h1
    simp [h1]
  exact ⟨by omega, by omega, c, by rw [g]; exact d, by rw [g]; exact e, fun k hk => f k (by omega)⟩
theorem KeptTo.keep {p : S45 → Bool} {l cur : List S45} {i j : Nat} (h : KeptTo p l cur i j) (hj : j < l.length) (h1 : p (l.getD j z45) = false) : KeptTo p l (cur.set i (l.getD j z45)) (i + 1) (j + 1) := by
  obtain ⟨a, b, c, d, e, f⟩ := h
  have g : keptF p (l.take (j + 1)) = keptF p (l.take j) ++ [l.getD j z45] := by
    rw [take_snocF l j hj]
    unfold keptF
    rw [List.filter_append]
    generalize l.getD j z45 = y at h1
    simp [h1]
  refine ⟨by omega, by omega, by rw [List.length_set]; exact c, ?_, by rw [g, List.length_append, e]; rfl, fun k hk => ?_⟩
  · rw [g, ← d, List.take_set, List.take_succ_eq_append_getElem (by omega), List.set_append_right _ _ (by rw [List.length_take]; omega)]
    rw [show i - (cur.take i).length = 0 by rw [List.length_take]; omega]
    rfl
  · rw [List.getElem?_set_ne (by omega)]
    exact f k (by omega)

theorem blk_alloc' (w : World) (o : Obj) (g : Nat) (h : g < w.heap.size) : (w.alloc o).heap[g]? = w.heap[g]? := Below.heap_alloc w o g h

set_option maxHeartbeats 2000000 in
theorem deleteFields (g0 cap : Nat) (l : List S45) (g : Nat) (lb : Array Value) (eg : ∀ args w, (callFunc g args).run Tryd.prog w = .ok (.enter g args) w) (p : S45 → Bool) (w : World)
    (hr : RowF g0 cap l w) (hp : ∀ (W : World) (x : S45), x ∈ l → KBut w W g0 → Calls Tryd.prog g (#[encF x] ++ lb) W fun e w' => e = .returned (.bool (p x)) ∧ Below W.heap.size W w') :
    Calls Tryd.prog 42 #[.slice (some ⟨g0, 0, none⟩) l.length cap, .func (.func g) #[] lb] w fun e w' => e = .returned (.slice (some ⟨g0, 0, none⟩) (keptF p l).length cap) ∧ RowF g0 cap (keptF p l) w' ∧ KBut w w' g0 := by
  have hm : cap ≤ maxLen := by obtain ⟨_, _, _, _, h, _⟩ := hr; exact h
  have hlc : l.length ≤ cap := by obtain ⟨_, _, _, h, _⟩ := hr; exact h
  unfold maxLen at hm
  have hC : Kd.C k45 w (some ⟨g0, 0, none⟩) l.length l := by
    have h := hr.R (Nat.zero_le _) l.length (Nat.le_refl _)
    rw [List.take_length] at h
    obtain ⟨A, c, he, _, h2⟩ := Kd.R_reads h
    injection he with he
    rw [he]; exact h2
  have hix := indexFields (some ⟨g0, 0, none⟩) cap l g lb eg p w hC (fun W x hx hb => hp W x hx (.of_below hb g0))
  have HIX := Aside0.mk hix
  have HP := Aside0.mk hp
  have HR := Aside0.mk hr
  clear hix hC hp hr
  go_enter Tryd.func42, Tryd.ntmps42
  go_wp2_with fail
  refine HIX.out.mono ?_
  rintro e w1 ⟨i0, rfl, hi, hb1⟩
  have HR1 := Aside0.mk (HR.out.same (hb1.block g0 HR.out.lt))
  have HK1 := Aside0.mk (KBut.of_below hb1 g0)
  clear hb1
  rcases hi.out with ⟨rfl, hnone⟩ | ⟨k, rfl, hk, hn, hy⟩
  · have HN := Aside0.mk (keptF_none p l hnone)
    clear hi hnone
    go_wp2
    go_ret
    rw [HN.out]
    exact ⟨rfl, HR1.out, HK1.out⟩
  · have HS := Aside0.mk (KeptTo.start hk hn hy)
    clear hi hn hy
    have hne : ((k : Int) == -1) = false := beq_eq_false_iff_ne.2 (by omega)
    go_wp2
    go_loopg [5, 6] l.length (fun gg s5 s6 wr => ∃ (i j : Nat) (cur : List S45), s5 = .int .i64 i ∧ s6 = .int .i64 j ∧ j ≤ l.length ∧ i < j ∧ l.length - j ≤ gg ∧ Aside0 (KeptTo p l cur i j) ∧ Aside0 (RowF g0 cap cur wr) ∧ Aside0 (KBut w wr g0))
    case atStart => exact ⟨k, k + 1, l, rfl, by go_num, by omega, by omega, by omega, HS, HR1, HK1⟩
    case round =>
      clear HS HR1 HK1 hne
      obtain ⟨i, j, cur, rfl, rfl, hjl, hij, hg, HT, HC, HK⟩ := hrel
      by_cases hlt : j < l.length
      · have hltz : (j : Int) < (l.length : Int) := by omega
        have hcl : j < cur.length := by rw [HT.out.2.2.1]; exact hlt
        obtain ⟨l2, l3⟩ := HC.out.at j hcl
        have hcj : cur.getD j z45 = l.getD j z45 := by rw [List.getD_eq_getElem?_getD, List.getD_eq_getElem?_getD, HT.out.2.2.2.2.2 j (Nat.le_refl _)]
        rw [hcj] at l2 l3
        have hmem : l.getD j z45 ∈ l := by rw [List.getD_eq_getElem?_getD, List.getElem?_eq_getElem hlt]; exact List.getElem_mem hlt
        have HSK := Aside0.mk (HT.out.skip hlt)
        have HKP := Aside0.mk (HT.out.keep hlt)
        clear hcj
        have HPx := Aside0.mk (fun W hK => HP.out W _ hmem hK)
        have f2 := HC.out.free
        obtain ⟨ci0, ci1⟩ := HC.out.at i (by omega)
        have hg0 := HC.out.lt
        generalize cur.getD i z45 = old at ci0 ci1
        generalize l.getD j z45 = y at l2 l3 hmem HSK HKP HPx
        have hKa := HK.out.step ((Below.refl _ wr).alloc (Nat.le_refl _) (.cells #[.string y.f0, .string y.f1] 45))
        have hcall := HPx.out _ hKa
        have HKa := Aside0.mk hKa
        unfold encF at hcall
        clear hKa
        have hgz : ∀ o : Obj, (wr.alloc o).heap.size = wr.heap.size + 1 := fun o => by simp
        have hce0 : (wr.alloc (.cells #[.string y.f0, .string y.f1] 45)).cell? ⟨wr.heap.size, 0, none⟩ = some (.string y.f0) := (blk_cell (blk_new wr _) 0).trans rfl
        have hce1 : (wr.alloc (.cells #[.string y.f0, .string y.f1] 45)).cell? ⟨wr.heap.size, 1, none⟩ = some (.string y.f1) := (blk_cell (blk_new wr _) 1).trans rfl
        have HE := Aside0.mk (And.intro hce0 hce1)
        have HRA := Aside0.mk (HC.out.same (blk_alloc' wr (.cells #[.string y.f0, .string y.f1] 45) g0 hg0))
        clear hce0 hce1 ci0 ci1 f2
        cases hq : p y with
        | true =>
          rw [hq] at hcall
          have HS' := Aside0.mk (HSK.out hq)
          have HCL := Aside0.mk hcall
          clear hq hcall HSK HKP
          go_wp2_with fail
          refine HCL.out.mono ?_
          rintro e w2 ⟨rfl, hb⟩
          have HK2 := Aside0.mk (HKa.out.step hb)
          have HR2 := Aside0.mk (HRA.out.same (hb.block g0 HRA.out.lt))
          clear hb
          go_wp2
          go_roundg (l.length - (j + 1))
          case measure => omega
          case rel => exact ⟨i, j + 1, cur, rfl, by go_num, by omega, by omega, by omega, HS', HR2, HK2⟩
        | false =>
          rw [hq] at hcall
          have HS' := Aside0.mk (HKP.out hq)
          have HCL := Aside0.mk hcall
          clear hq hcall HSK HKP
          go_wp2_with fail
          refine HCL.out.mono ?_
          rintro e w2 ⟨rfl, hb⟩
          have HK2 := Aside0.mk (HKa.out.step hb)
          have HR2 := Aside0.mk (HRA.out.same (hb.block g0 HRA.out.lt))
          have d0 := (hb.cell (p := ⟨wr.heap.size, 0, none⟩) (by rw [hgz]; exact Nat.lt_succ_self _)).trans HE.out.1
          have d1 := (hb.cell (p := ⟨wr.heap.size, 1, none⟩) (by rw [hgz]; exact Nat.lt_succ_self _)).trans HE.out.2
          obtain ⟨ci0, ci1⟩ := HR2.out.at i (by omega)
          have fi0 := HR2.out.free (i * 2)
          have fi1 := HR2.out.free (i * 2 + 1)
          have HSet := Aside0.mk (HR2.out.set i (by omega) y)
          generalize cur.getD i z45 = old at ci0 ci1
          clear hb
          go_wp2
          go_roundg (l.length - (j + 1))
          case measure => omega
          case rel => exact ⟨i + 1, j + 1, cur.set i y, by go_num, by go_num, by omega, by omega, by omega, HS', HSet, ⟨(HK2.out.set _ _).set _ _⟩⟩
      · obtain rfl : j = l.length := by omega
        have hltz : ¬ (l.length : Int) < (l.length : Int) := by omega
        have hcl : i ≤ cur.length := by have := HT.out.2.2.1; omega
        obtain ⟨vs, hclr⟩ := run_clearF wr g0 cap i (l.length - i) (cap - i) cur (by omega) HC.out (by omega)
        have HCut := Aside0.mk (HC.out.cut hcl vs)
        have HK2 := Aside0.mk (KBut.setCells vs (i * 2) wr HK.out)
        have HL := Aside0.mk (by have := HT.out; rw [KeptTo, List.take_length] at this; exact this)
        clear HC hcl
        go_wp2
        go_ret
        obtain ⟨_, _, _, ht, hlen, _⟩ := HL.out
        refine ⟨by rw [hlen]; rfl, ?_, HK2.out⟩
        rw [← ht]; exact HCut.out

set_option maxHeartbeats 1000000 in
theorem deleteNone (g : Nat) (lb : Array Value) (eg : ∀ args w, (callFunc g args).run Tryd.prog w = .ok (.enter g args) w) (w : World) :
    Calls Tryd.prog 42 #[.slice none 0 0, .func (.func g) #[] lb] w fun e w' => e = .returned (.slice none 0 0) ∧ Below w.heap.size w w' := by
  have HIX := Aside0.mk (indexFields none 0 [] g lb eg (fun _ => false) w ⟨rfl, by simp, fun h => by simp at h⟩ (fun W x hx _ => by cases hx))
  go_enter Tryd.func42, Tryd.ntmps42
  go_wp2_with fail
  refine HIX.out.mono ?_
  rintro e w1 ⟨i0, rfl, hi, hb1⟩
  rcases hi.out with ⟨rfl, _⟩ | ⟨k, _, hk, _⟩
  · clear hi
    go_wp2
    go_ret
    exact ⟨rfl, hb1⟩
  · exact absurd hk (by simp)
end Go.Proofs.YtdofgilfmgdpkaaDoor.P

/- slices.ContainsFunc over strings, for every predicate that answers at the slice's bytes. -/
namespace Go.Proofs.YtdofgilfmgdpkaaDoor.P
open Go.RowKit Go.Proofs.YtdofgilfmgdpkaaDoorW.PrintWords Go.Proofs.YtdofgilfmgdpkaaDoorW.PrintLast Go.Proofs.YtdofgilfmgdpkaaDoorW.PrintMore

/-- What is asked of a predicate handed over: at each element, in every later world, it answers and leaves what was. -/
def PredOnS (g : Nat) (lb : Array Value) (enc : ByteArray → Value) (p : ByteArray → Bool) (l : List ByteArray) (w : World) : Prop :=
  ∀ (W : World) (x : ByteArray), x ∈ l → Below w.heap.size w W → Calls Tryd.prog g (#[enc x] ++ lb) W fun e w' => e = .returned (.bool (p x)) ∧ Below W.heap.size W w'

/-- What the search answers: the first place at which p holds, or -1. -/
def IdxStrs (p : ByteArray → Bool) (l : List ByteArray) (i : Int) : Prop := (i = -1 ∧ l.any p = false) ∨ ∃ k : Nat, i = (k : Int) ∧ k < l.length ∧ (l.take k).any p = false ∧ p (l.getD k ByteArray.empty) = true
theorem IdxStrs.sign {p : ByteArray → Bool} {l : List ByteArray} {i : Int} (h : IdxStrs p l i) : decide (0 ≤ i) = l.any p := by
  rcases h with ⟨rfl, h⟩ | ⟨k, rfl, hk, _, h⟩
  · rw [h]; rfl
  · have : l.any p = true := by
      rw [List.any_eq_true]
      refine ⟨l.getD k ByteArray.empty, ?_, h⟩
      rw [List.getD_eq_getElem?_getD, List.getElem?_eq_getElem hk]; exact List.getElem_mem hk
    rw [this]; simp

set_option maxHeartbeats 1000000 in
theorem indexStrs (A : Option Addr) (c : Nat) (l : List ByteArray) (g : Nat) (lb : Array Value) (eg : ∀ args w, (callFunc g args).run Tryd.prog w = .ok (.enter g args) w) (p : ByteArray → Bool) (w : World)
    (hr : Kd.C Kd.string w A l.length l) (hp : PredOnS g lb Value.string p l w) :
    Calls Tryd.prog 55 #[.slice A l.length c, .func (.func g) #[] lb] w fun e w' => ∃ i : Int, e = .returned (.int .i64 i) ∧ Aside0 (IdxStrs p l i) ∧ Below w.heap.size w w' := by
  have hm : l.length ≤ 9223372036854775807 := hr.2.1
  have HR := Aside0.mk hr
  clear hr
  go_enter Tryd.func55, Tryd.ntmps55
  go_wp2
  go_loopg [5, 8] l.length (fun gg _ s8 wr => ∃ kk : Nat, kk ≤ l.length ∧ l.length - kk ≤ gg ∧ s8 = .int .i64 kk ∧ Aside0 (Below w.heap.size w wr) ∧ Aside0 ((l.take kk).any p = false))
  case atStart => exact ⟨0, Nat.zero_le _, by omega, rfl, ⟨Below.refl _ w⟩, ⟨by simp⟩⟩
  case round =>
    obtain ⟨kk, hkk, hg, rfl, BW, AN⟩ := hrel
    by_cases hlt : kk < l.length
    · have hltz : (kk : Int) < (l.length : Int) := by omega
      obtain ⟨ad, cs, hA, hcs, hK, hcell⟩ := Kd.C_get HR.out ByteArray.empty (kk : Int) (by omega) hltz
      subst hA
      have hK' : cs = [.string (l.getD kk ByteArray.empty)] := hK
      have hx := hcell 0 (.string (l.getD kk ByteArray.empty)) (by rw [hK']; rfl)
      have hx' : w.cell? (ad.add kk) = some (.string (l.getD kk ByteArray.empty)) := by simpa [Kd.string, Kd.scalar] using hx
      have l2 := (BW.out.cell (World.block_lt_of_cell? w _ hx')).trans hx'
      clear hcell hK hK' hx hx' hcs
      have hmem : l.getD kk ByteArray.empty ∈ l := by rw [List.getD_eq_getElem?_getD, List.getElem?_eq_getElem hlt]; exact List.getElem_mem hlt
      have hcall := hp wr (l.getD kk ByteArray.empty) hmem BW.out
      have hsn : l.take (kk + 1) = l.take kk ++ [l.getD kk ByteArray.empty] := by
        rw [List.take_succ_eq_append_getElem hlt, List.getD_eq_getElem?_getD, List.getElem?_eq_getElem hlt]; rfl
      have HSN := Aside0.mk hsn
      clear hsn hp
      generalize hy : l.getD kk ByteArray.empty = y at l2 hcall hmem HSN
      have HY := Aside0.mk hy
      clear hy
      cases hq : p y with
      | true =>
        rw [hq] at hcall
        have HQ := Aside0.mk hq
        clear hq
        go_wp2_with fail
        refine hcall.mono ?_
        rintro e w' ⟨rfl, hb'⟩
        go_wp2
        go_ret
        exact ⟨_, rfl, ⟨.inr ⟨kk, rfl, hlt, AN.out, by rw [HY.out]; exact HQ.out⟩⟩, BW.out.trans (hb'.mono BW.out.size)⟩
      | false =>
        rw [hq] at hcall
        have HQ := Aside0.mk hq
        clear hq
        go_wp2_with fail
        refine hcall.mono ?_
        rintro e w' ⟨rfl, hb'⟩
        go_wp2
        go_roundg (l.length - (kk + 1))
        case measure => omega
        case rel => exact ⟨kk + 1, by omega, by omega, by go_num, ⟨BW.out.trans (hb'.mono BW.out.size)⟩, ⟨by rw [HSN.out, List.any_append, AN.out]; simp [HQ.out]⟩⟩
    · have hltz : ¬ (kk : Int) < (l.length : Int) := by omega
      have hkl : kk = l.length := by omega
      have HN := Aside0.mk (show l.any p = false by have := AN.out; rwa [hkl, List.take_length] at this)
      subst hkl
      go_wp2
      go_ret
      exact ⟨_, rfl, ⟨.inl ⟨rfl, HN.out⟩⟩, BW.out⟩

theorem containsStrs (A : Option Addr) (c : Nat) (l : List ByteArray) (g : Nat) (lb : Array Value) (eg : ∀ args w, (callFunc g args).run Tryd.prog w = .ok (.enter g args) w) (p : ByteArray → Bool) (w : World)
    (hr : Kd.C Kd.string w A l.length l) (hp : PredOnS g lb Value.string p l w) :
    Calls Tryd.prog 45 #[.slice A l.length c, .func (.func g) #[] lb] w fun e w' => e = .returned (.bool (l.any p)) ∧ Below w.heap.size w w' := by
  go_enter Tryd.func45, Tryd.ntmps45
  go_wp2_with fail
  refine (indexStrs A c l g lb eg p w hr hp).mono ?_
  rintro e w' ⟨i, rfl, hi, hb⟩
  go_wp2
  go_ret
  refine ⟨?_, hb⟩
  rw [← hi.out.sign]
  rfl
end Go.Proofs.YtdofgilfmgdpkaaDoor.P

/- slices.Clone of fields. -/
namespace Go.Proofs.YtdofgilfmgdpkaaDoor.P
open Go.RowKit Go.Proofs.YtdofgilfmgdpkaaDoorW.PrintWords Go.Proofs.YtdofgilfmgdpkaaDoorW.PrintLast Go.Proofs.YtdofgilfmgdpkaaDoorW.PrintMore

def cloneField.f (l0 : List S45) : Option (List S45) := if l0.length * 32 ≤ 140737488355328 then some l0 else none

set_option maxHeartbeats 1000000 in
theorem cloneField.calls (A0 : Option Addr) (c0 : Nat) (l0 : List S45) (r : List S45) (w : World) (hr0 : Kd.C k45 w A0 l0.length l0) (hc0 : l0.length ≤ c0) (h : cloneField.f l0 = some r) :
    Calls Tryd.prog 43 #[.slice A0 l0.length c0] w fun e w' => ∃ v0_ : Value, e = .returned (v0_) ∧ Kd.R k45 45 w' w.heap.size (fun _ => True) v0_ r ∧ Below w.heap.size w w' := by
  unfold cloneField.f at h
  split at h
  · rename_i hl
    obtain rfl := Option.some.inj h
    clear h
    have hu := Tryd.underlying23
    cases A0 with
    | none =>
      have h0 : l0.length = 0 := by
        rcases Nat.eq_zero_or_pos l0.length with h0 | h0
        · exact h0
        · obtain ⟨ad, he, _⟩ := hr0.2.2 h0; cases he
      obtain rfl : l0 = [] := List.eq_nil_of_length_eq_zero h0
      clear hr0 hc0 hl h0
      have hq := fun (W : World) => Lib.run_eql_slice_nil (P := Tryd.prog) W 23 45 none 0 c0 0 0 hu
      go_enter Tryd.func43, Tryd.ntmps43
      go_wp2
      go_ret
      exact ⟨_, rfl, Kd.R_nil _ _ _ _ _, Below.refl _ _⟩
    | some ad =>
      have HR := Aside0.mk hr0
      have HL := Aside0.mk hl
      clear hr0 hc0 hl
      have hq := fun (W : World) => Lib.run_eql_slice_nil (P := Tryd.prog) W 23 45 (some ad) l0.length c0 0 0 hu
      go_enter Tryd.func43, Tryd.ntmps43
      go_wp2_with (first | ((with_reducible refine gate_builtin (b := .append) (xs := #[.tmp 5, .tmp 6]) rfl ?_); at_builtin; refine Kd.R_append_rows k45 (w0 := w) w.heap.size rfl (.tmp 5) (.tmp 6) 23 45 (.agg #[(.string ⟨#[]⟩), (.string ⟨#[]⟩)]) 32 rfl Tryd.underlying23 info45 rfl (by decide) (by omega) (.slice (some ⟨w.heap.size, 0, none⟩) 0 0) ([] : List S45) l0 _ _ _ (fun _ => True) (fun _ => False) rfl rfl ?aO ?aR (fun _ _ h => h) (fun _ h => h.elim) ?aF ?aB ?aS ?aL ?_; (case aR => exact Kd.C_alloc HR.out _); (case aB => exact (Below.refl _ w).alloc (Nat.le_refl _) _); (case aF => exact (fun _ _ => trivial)); (case aO => exact ⟨fun _ _ => trivial, [], World.ownsRow_made w #[] 0 (Nat.le_refl _) (by simp [maxLen]) rfl, Reps.none _ _⟩); (case aS => simp); (case aL => have := HL.out; simp; omega); intro v1 w1 ho hb hg hat; clear hg hat))
      go_ret
      exact ⟨_, rfl, by simpa using ho, hb⟩
  · exact absurd h (by simp)
end Go.Proofs.YtdofgilfmgdpkaaDoor.P

/- head.Drop: the fields of other names. -/
namespace Go.Proofs.YtdofgilfmgdpkaaDoor.P
open Go.RowKit Go.Proofs.YtdofgilfmgdpkaaDoorW.PrintWords Go.Proofs.YtdofgilfmgdpkaaDoorW.PrintLast Go.Proofs.YtdofgilfmgdpkaaDoorW.PrintMore

def sameB (a b : ByteArray) : Bool := (lowB a).data.toList == (lowB b).data.toList
def hasName (l1 : List ByteArray) (x : S45) : Bool := l1.any fun n => sameB x.f0 n
def fits63 (s : ByteArray) : Bool := decide (s.size ≤ 9223372036854775807)
def dropB (l0 : List S45) (l1 : List ByteArray) : List S45 := l0.filter fun x => !hasName l1 x
def head_Drop.f (l0 : List S45) (l1 : List ByteArray) : Option (List S45) :=
  if l0.length * 32 ≤ 140737488355328 ∧ (l0.all fun x => fits63 x.f0) = true ∧ l1.all fits63 = true then some (dropB l0 l1) else none

theorem sameCalls (a b : ByteArray) (w : World) (ha : fits63 a = true) (hb : fits63 b = true) : Calls Tryd.prog 40 #[.string a, .string b] w fun e w' => e = .returned (.bool (sameB a b)) ∧ Below w.heap.size w w' := by
  refine text_Same.calls a b _ w ?_
  unfold fits63 at ha hb
  simp only [text_Same.f, text_Lower.f, if_pos (of_decide_eq_true ha), if_pos (of_decide_eq_true hb), Option.bind_some, ByteArray.toList_eq, sameB]

theorem C_at_later {A : Option Addr} {l : List ByteArray} {w W : World} (h : Kd.C Kd.string w A l.length l) (hb : Below w.heap.size w W) : Kd.C Kd.string W A l.length l := Kd.C_below h hb

set_option maxHeartbeats 1000000 in
theorem nameClosure (B : Nat) (x : S45) (n : ByteArray) (W : World) (hc : W.cell? ⟨B, 0, none⟩ = some (.string x.f0)) (hx : fits63 x.f0 = true) (hn : fits63 n = true) :
    Calls Tryd.prog 46 (#[.string n] ++ #[.pointer (some ⟨B, 0, none⟩)]) W fun e w' => e = .returned (.bool (sameB x.f0 n)) ∧ Below W.heap.size W w' := by
  have HS := Aside0.mk (sameCalls x.f0 n W hx hn)
  go_enter Tryd.func46, Tryd.ntmps46
  go_wp2_with fail
  refine HS.out.mono ?_
  rintro e w' ⟨rfl, hb⟩
  go_wp2
  go_ret
  exact ⟨rfl, hb⟩

set_option maxHeartbeats 1000000 in
theorem fieldClosure (B : Nat) (A1 : Option Addr) (c1 : Nat) (l1 : List ByteArray) (x : S45) (W : World) (hB : B < W.heap.size) (hc : W.cell? ⟨B, 0, none⟩ = some (.slice A1 l1.length c1)) (hC : Kd.C Kd.string W A1 l1.length l1) (hx : fits63 x.f0 = true) (hl : l1.all fits63 = true) :
    Calls Tryd.prog 44 (#[encF x] ++ #[.pointer (some ⟨B, 0, none⟩)]) W fun e w' => e = .returned (.bool (hasName l1 x)) ∧ Below W.heap.size W w' := by
  have hmf : ∀ (fn : Fn) (first cap : Array Value) (w : World), (Instr.makeFunc fn first cap).run Tryd.prog w = .ok (.func fn first cap) w := fun _ _ _ _ => rfl
  have hW1 : Below W.heap.size W (W.alloc (.cells #[.string x.f0, .string x.f1] 45)) := (Below.refl _ W).alloc (Nat.le_refl _) _
  have hcc := (hW1.cell (p := ⟨B, 0, none⟩) hB).trans hc
  have hce : (W.alloc (.cells #[.string x.f0, .string x.f1] 45)).cell? ⟨W.heap.size, 0, none⟩ = some (.string x.f0) := (blk_cell (blk_new W _) 0).trans rfl
  have hsz : (W.alloc (.cells #[.string x.f0, .string x.f1] 45)).heap.size = W.heap.size + 1 := by simp
  have HC := Aside0.mk (containsStrs A1 c1 l1 46 #[.pointer (some ⟨W.heap.size, 0, none⟩)] (enters_of Tryd.func46 (by kernel_rfl) rfl) (fun n => sameB x.f0 n) _ (Kd.C_below hC hW1)
    (fun W' n hn hb => nameClosure W.heap.size x n W' ((hb.cell (p := ⟨W.heap.size, 0, none⟩) (by rw [hsz]; exact Nat.lt_succ_self _)).trans hce) hx (List.all_eq_true.1 hl n hn)))
  have HB := Aside0.mk hW1
  have HK := Aside0.mk hcc
  clear hcc hW1 hce hsz hC hl hx
  unfold encF
  go_enter Tryd.func44, Tryd.ntmps44
  have hcc := HK.out
  go_wp2_with fail
  refine HC.out.mono ?_
  rintro e w' ⟨rfl, hb⟩
  go_wp2
  go_ret
  exact ⟨rfl, HB.out.trans (hb.mono HB.out.size)⟩

set_option maxHeartbeats 1000000 in
theorem head_Drop.calls (A0 : Option Addr) (c0 : Nat) (l0 : List S45) (A1 : Option Addr) (c1 : Nat) (l1 : List ByteArray) (r : List S45) (w : World) (hr0 : Kd.C k45 w A0 l0.length l0) (hc0 : l0.length ≤ c0) (hr1 : Kd.C Kd.string w A1 l1.length l1) (hc1 : l1.length ≤ c1) (h : head_Drop.f l0 l1 = some r) :
    Calls Tryd.prog 21 #[.slice A0 l0.length c0, .slice A1 l1.length c1] w fun e w' => ∃ v0_ : Value, e = .returned (v0_) ∧ Kd.R k45 45 w' w.heap.size (fun _ => True) v0_ r ∧ Below w.heap.size w w' := by
  unfold head_Drop.f at h
  split at h
  · rename_i hh
    obtain ⟨hlen, hx, hn⟩ := hh
    obtain rfl := Option.some.inj h
    clear h
    have hmf : ∀ (fn : Fn) (first cap : Array Value) (w : World), (Instr.makeFunc fn first cap).run Tryd.prog w = .ok (.func fn first cap) w := fun _ _ _ _ => rfl
    have hW1 : Below w.heap.size w (w.alloc (.cells #[.slice A1 l1.length c1] 32)) := (Below.refl _ w).alloc (Nat.le_refl _) _
    have hsz : (w.alloc (.cells #[.slice A1 l1.length c1] 32)).heap.size = w.heap.size + 1 := by simp
    have hce : (w.alloc (.cells #[.slice A1 l1.length c1] 32)).cell? ⟨w.heap.size, 0, none⟩ = some (.slice A1 l1.length c1) := (blk_cell (blk_new w _) 0).trans rfl
    have HCl := Aside0.mk (cloneField.calls A0 c0 l0 l0 _ (Kd.C_below hr0 hW1) hc0 (by unfold cloneField.f; rw [if_pos hlen]))
    have HCE := Aside0.mk hce
    have HSZ := Aside0.mk hsz
    have HW1 := Aside0.mk hW1
    have HR1 := Aside0.mk hr1
    have HX := Aside0.mk hx
    have HN := Aside0.mk hn
    clear hce hsz hW1 hr1 hr0 hc0 hc1 hlen hx hn
    go_enter Tryd.func21, Tryd.ntmps21
    go_wp2_with fail
    refine HCl.out.mono ?_
    rintro e w1 ⟨v1, rfl, ho, hb⟩
    have hB1 := HW1.out.trans (hb.mono HW1.out.size)
    rw [HSZ.out] at ho
    have hcl : ∀ (g0 : Nat) (W : World) (x : S45), w.heap.size + 1 ≤ g0 → x ∈ l0 → KBut w1 W g0 → Calls Tryd.prog 44 (#[encF x] ++ #[.pointer (some ⟨w.heap.size, 0, none⟩)]) W fun e w' => e = .returned (.bool (hasName l1 x)) ∧ Below W.heap.size W w' := by
      intro g0 W x hg hxl hk
      have hs1 : w.heap.size < w1.heap.size := Nat.lt_of_lt_of_le (by rw [HSZ.out]; exact Nat.lt_succ_self _) hb.size
      have hW : Below (w.heap.size + 1) w1 W := hk.below hg (by omega)
      have hcw : W.cell? ⟨w.heap.size, 0, none⟩ = some (.slice A1 l1.length c1) := (hW.cell (p := ⟨w.heap.size, 0, none⟩) (by exact Nat.lt_succ_self _)).trans ((hb.cell (p := ⟨w.heap.size, 0, none⟩) (by rw [HSZ.out]; exact Nat.lt_succ_self _)).trans HCE.out)
      exact fieldClosure w.heap.size A1 c1 l1 x W (Nat.lt_of_lt_of_le hs1 hk.size) hcw (Kd.C_below HR1.out (hB1.trans (hW.mono (by omega)))) (List.all_eq_true.1 HX.out x hxl) HN.out
    have hrow := RowF.of_R ho
    have HB1 := Aside0.mk hB1
    have HLT := Aside0.mk (show w.heap.size + 1 ≤ w1.heap.size by have := hb.size; rw [HSZ.out] at this; exact this)
    clear hB1 hb ho
    rcases hrow with ⟨rfl, rfl⟩ | ⟨g0, cap, rfl, hg0, hrow⟩
    · clear hcl
      have HD := Aside0.mk (deleteNone 44 #[.pointer (some ⟨w.heap.size, 0, none⟩)] (enters_of Tryd.func44 (by kernel_rfl) rfl) w1)
      go_wp2_with fail
      refine HD.out.mono ?_
      rintro e w2 ⟨rfl, hb2⟩
      go_wp2
      go_ret
      exact ⟨_, rfl, Kd.R_nil _ _ _ _ _, HB1.out.trans (hb2.mono HB1.out.size)⟩
    · have HD := Aside0.mk (deleteFields g0 cap l0 44 #[.pointer (some ⟨w.heap.size, 0, none⟩)] (enters_of Tryd.func44 (by kernel_rfl) rfl) (hasName l1) w1 hrow (fun W x hx hk => hcl g0 W x hg0 hx hk))
      have HG := Aside0.mk hg0
      clear hcl hrow hg0
      go_wp2_with fail
      refine HD.out.mono ?_
      rintro e w2 ⟨rfl, hr2, hk2⟩
      go_wp2
      go_ret
      have hB : Below w.heap.size w1 w2 := hk2.below (by have := HG.out; omega) (by have := HLT.out; omega)
      refine ⟨_, rfl, ?_, HB1.out.trans hB⟩
      have := hr2.R (base := w.heap.size) (by have := HG.out; omega) (keptF (hasName l1) l0).length (Nat.le_refl _)
      rw [List.take_length] at this
      exact this
  · exact absurd h (by simp)
end Go.Proofs.YtdofgilfmgdpkaaDoor.P

namespace Go.Proofs.YtdofgilfmgdpkaaDoor.P
open Go.RowKit Go.Proofs.YtdofgilfmgdpkaaDoorW.PrintWords Go.Proofs.YtdofgilfmgdpkaaDoorW.PrintLast Go.Proofs.YtdofgilfmgdpkaaDoorW.PrintMore
attribute [local go_sem] max2_int min2_int max_two min_two max_three min_three max_four min_four
set_option linter.unusedVariables false
set_option linter.unusedSimpArgs false

/-! ### head_With: function 22 -/
def head_With.f (l0 : List (S45)) (a1 : ByteArray) (a2 : ByteArray) : Option ((List (S45))) := (head_Drop.f l0 (([a1] : List ByteArray))).bind fun t159 => (if t159.length < 4398046511104 then (some (t159 ++ [(⟨a1, a2⟩ : S45)])) else (none))
set_option maxHeartbeats 8000000 in
set_option maxRecDepth 100000 in
theorem head_With.calls (A0 : Option Addr) (c0 : Nat) (l0 : List (S45)) (a1 : ByteArray) (a2 : ByteArray) (r : List (S45)) (w : World) (hr0 : Kd.C k45 w A0 l0.length l0) (hc0 : l0.length ≤ c0) (h : head_With.f l0 a1 a2 = some r) :
    Calls Tryd.prog 22 #[.slice A0 l0.length c0, .string a1, .string a2] w fun e w' => ∃ v0_ : Value, e = .returned (v0_) ∧ Kd.R k45 45 w' w.heap.size (fun _ => True) v0_ r ∧ Below w.heap.size w w' := by
  have hu45 := Tryd.underlying45
  have HR0 := Aside0.mk hr0
  have HC0 := Aside0.mk hc0
  clear hr0 hc0
  have HB := Aside0.mk (Below.refl w.heap.size w)
  have H : ((head_Drop.f l0 (([a1] : List ByteArray))).bind fun t159 => (if t159.length < 4398046511104 then (some (t159 ++ [(⟨a1, a2⟩ : S45)])) else (none))) = some r := h
  clear h
  obtain ⟨y156, hy156⟩ : ∃ y_ : List ByteArray, y_ = (([a1] : List ByteArray)) := ⟨_, rfl⟩
  replace H : ((head_Drop.f l0 y156).bind fun t159 => (if t159.length < 4398046511104 then (some (t159 ++ [(⟨a1, a2⟩ : S45)])) else (none))) = some r := by first | (rw [hy156]; with_reducible exact H) | (have H2_ := (Option.bind_some _ _).symm.trans H; rw [hy156]; with_reducible exact H2_) | (have H2_ := (Option.bind_some _ _).symm.trans H; with_reducible exact H2_) | with_reducible exact H | (rw [hy156]; exact H) | exact H
  have Ny156 := Aside0.mk hy156
  clear hy156
  replace H := Option.bind_eq_some_iff.mp H
  obtain ⟨t159, A40, H⟩ := H
  replace H : (if t159.length < 4398046511104 then (some (t159 ++ [(⟨a1, a2⟩ : S45)])) else (none)) = some r := H
  have A4 := Aside0.mk A40
  clear A40
  by_cases c5 : t159.length < 4398046511104
  · rw [if_pos c5] at H
    have LMc5 := Aside0.mk c5
    clear c5
    obtain ⟨y162, hy162⟩ : ∃ y_ : List (S45), y_ = (t159 ++ [(⟨a1, a2⟩ : S45)]) := ⟨_, rfl⟩
    replace H : (some y162) = some r := by first | (rw [hy162]; with_reducible exact H) | (have H2_ := (Option.bind_some _ _).symm.trans H; rw [hy162]; with_reducible exact H2_) | (have H2_ := (Option.bind_some _ _).symm.trans H; with_reducible exact H2_) | with_reducible exact H | (rw [hy162]; exact H) | exact H
    have Ny162 := Aside0.mk hy162
    clear hy162
    obtain rfl := Option.some.inj H
    go_enter Tryd.func22, Tryd.ntmps22
    go_wp2_with (first | ((with_reducible refine gate_dst (N := 9) rfl ?_); refine Kd.R_lit Kd.string _ 9 ?hg (N := 9) ?hd (xs := ([a1] : List ByteArray)) (inner := [.string a1]) (ok := fun _ => True) (okp := fun _ => True) ?hr ?hp (fun _ hk => hk) trivial (Below.refl _ _) (Nat.le_refl _) (by simp) ?_; (case hd => rfl); (case hg => rfl); (case hr => first | (go_simp; done) | (go_simp; rfl)); (case hp => exact (Reps.one (show Kd.M Kd.string _ _ _ a1 [.string a1] from rfl) (Reps.none _ _))); intro v157 w6 ho7 hb hg_ hnew_; clear hg_ hnew_; (first | rw [← Ny156.out] at ho7 | (simp only [Int.reduceToNat] at ho7; rw [← Ny156.out] at ho7)); have n0_ := Aside0.mk (Kd.R_lower ho7 (below_size (by repeat (first | (with_reducible first | exact HB.out | apply below_alloc | apply pw_below_drewN | apply below_drew1) | exact HB.out)))); have n1_ := Aside0.mk (below_step (by repeat (first | (with_reducible first | exact HB.out | apply below_alloc | apply pw_below_drewN | apply below_drew1) | exact HB.out)) hb); clear HB; have HO158 := n0_; have HB := n1_; clear n0_ n1_; clear hb ho7; obtain ⟨Ao8, co8, eo8⟩ := Kd.R_slice HO158.out; subst eo8) | ((with_reducible refine gate_callee (f := 21) rfl ?_); refine goesL_ (some 10) rfl rfl Tryd.func21 (by kernel_rfl) rfl #[.slice A0 l0.length c0, .slice Ao8 y156.length co8] rfl (by (try simp only [List.map_toArray, List.map_cons, List.map_nil]); first | done | rfl | (simp only [List.length_drop, List.length_take]; rfl)) ?_; (with_reducible refine (head_Drop.calls _ _ l0 _ _ y156 t159 _ ?side1 ?side2 ?side3 ?side4 A4.out).mono ?_); (case side1 => repeat (first | exact (Kd.C_below HR0.out HB.out) | (with_reducible refine Kd.C_alloc ?_ _) | (with_reducible refine Kd.C_drewN ?_ _) | (with_reducible refine Kd.C_drew ?_))); (case side2 => exact HC0.out); (case side3 => repeat (first | exact (Kd.R_reads' HO158.out).2.2 | (with_reducible refine Kd.C_alloc ?_ _) | (with_reducible refine Kd.C_drewN ?_ _) | (with_reducible refine Kd.C_drew ?_))); (case side4 => exact (Kd.R_reads' HO158.out).2.1); rintro e w9 ⟨v160, rfl, ho0, hb⟩; refine ⟨_, rfl, ?_⟩; have n0_ := Aside0.mk (Kd.R_below (by (with_reducible repeat (first | apply Kd.R_alloc | apply Kd.R_drewN | apply Kd.R_drew)); exact HO158.out) hb); have n1_ := Aside0.mk (Kd.R_lower ho0 (below_size (by repeat (first | (with_reducible first | exact HB.out | apply below_alloc | apply pw_below_drewN | apply below_drew1) | exact HB.out)))); have n2_ := Aside0.mk (below_step (by repeat (first | (with_reducible first | exact HB.out | apply below_alloc | apply pw_below_drewN | apply below_drew1) | exact HB.out)) hb); clear HO158; clear HB; have HO158 := n0_; have HO161 := n1_; have HB := n2_; clear n0_ n1_ n2_; (try clear hb); (try clear hb2); (try clear hk); (try clear hi); (try clear ho0)) | ((with_reducible refine gate_builtin (b := .append) (xs := #[.tmp 10, .tmp 14]) rfl ?_); at_builtin; refine Kd.R_append k45 (w0 := w) w.heap.size rfl (.tmp 10) (.tmp 14) 23 45 (.agg #[(.string ⟨#[]⟩), (.string ⟨#[]⟩)]) 32 rfl Tryd.underlying23 info45 rfl (by decide) (by omega) v160 t159 (⟨a1, a2⟩ : S45) [.string a1, .string a2] (fun _ => True) (fun _ => False) rfl rfl ?aP (fun _ hk => hk.elim) ?aF ?aO ?aB ?aS ?aL ?_; (case aP => exact k45_mkM _ _ _ (⟨a1, a2⟩ : S45)); (case aB => exact (by repeat (first | (with_reducible first | exact HB.out | apply below_alloc | apply pw_below_drewN | apply below_drew1) | exact HB.out))); (case aF => exact (fun _ _ => trivial)); (case aO => exact (by (with_reducible repeat (first | apply Kd.R_alloc | apply Kd.R_drewN | apply Kd.R_drew)); exact HO161.out)); (case aS => exact (below_size (by repeat (first | (with_reducible first | exact HB.out | apply below_alloc | apply pw_below_drewN | apply below_drew1) | exact HB.out)))); (case aL => have := LMc5.out; omega); intro v163 w10 ho hb hg hat; rw [← Ny162.out] at ho; have n0_ := Aside0.mk (Kd.R_over' (by (with_reducible repeat (first | apply Kd.R_alloc | apply Kd.R_drewN | apply Kd.R_drew)); exact HO158.out) (Kd.R_typed (by (with_reducible repeat (first | apply Kd.R_alloc | apply Kd.R_drewN | apply Kd.R_drew)); exact HO161.out)) (by decide) hg); have n1_ := Aside0.mk (hb); have n2_ := Aside0.mk (ho); clear HO158; clear HB; clear HO161; have HO158 := n0_; have HB := n1_; have HO164 := n2_; clear n0_ n1_ n2_; clear ho hb hg hat))
    go_ret
    exact ⟨_, by first | rfl | (simp [errW_none, errW_some] <;> rfl) | (simp [*, errW_none, errW_some] <;> rfl), by (with_reducible repeat (first | apply Kd.R_alloc | apply Kd.R_drewN | apply Kd.R_drew)); exact HO164.out, by repeat (first | (with_reducible first | exact HB.out | apply below_alloc | apply pw_below_drewN | apply below_drew1) | exact HB.out)⟩
  · rw [if_neg c5] at H
    exact absurd H (by simp)

end Go.Proofs.YtdofgilfmgdpkaaDoor.P

namespace Go.Proofs.YtdofgilfmgdpkaaDoor.P
open Go.RowKit Go.Proofs.YtdofgilfmgdpkaaDoorW.PrintWords Go.Proofs.YtdofgilfmgdpkaaDoorW.PrintLast Go.Proofs.YtdofgilfmgdpkaaDoorW.PrintMore
attribute [local go_sem] max2_int min2_int max_two min_two max_three min_three max_four min_four
set_option linter.unusedVariables false
set_option linter.unusedSimpArgs false

/-! ### head_plain: function 35 -/
def head_plain.l0 : Nat → List Int → List (S45) → Int → Int → Option (List Int)
  | 0, _, _, _, _ => none
  | k + 1, x3, x6, x7, x8 => if x8 < x7 then (if 0 ≤ x8 then (if x8 < (x6.length : Int) then (if ((rd_T45 x6 x8).f0).size + 2 ≤ 9223372036854775807 then (if (((rd_T45 x6 x8).f0) ++ (⟨#[58, 32]⟩ : ByteArray)).size + ((rd_T45 x6 x8).f1).size ≤ 9223372036854775807 then (if ((((rd_T45 x6 x8).f0) ++ (⟨#[58, 32]⟩ : ByteArray)) ++ ((rd_T45 x6 x8).f1)).size + 2 ≤ 9223372036854775807 then (if x3.length + (((((rd_T45 x6 x8).f0) ++ (⟨#[58, 32]⟩ : ByteArray)) ++ ((rd_T45 x6 x8).f1)) ++ (⟨#[13, 10]⟩ : ByteArray)).size < 140737488355328 then (head_plain.l0 k (x3 ++ bytesOf (((((rd_T45 x6 x8).f0) ++ (⟨#[58, 32]⟩ : ByteArray)) ++ ((rd_T45 x6 x8).f1)) ++ (⟨#[13, 10]⟩ : ByteArray))) x6 x7 (wrap64 (x8 + 1))) else (none)) else (none)) else (none)) else (none)) else (none)) else (none)) else (if x3.length + 2 < 140737488355328 then (some (x3 ++ bytesOf (⟨#[13, 10]⟩ : ByteArray))) else (none))
def head_plain.f (k : Nat) (l0 : List (S45)) : Option (List Int) := head_plain.l0 k ([] : List Int) l0 (l0.length : Int) 0
theorem head_plain.mono_l : ∀ k, (∀ y0 y1 y2 y3, LeO (head_plain.l0 k y0 y1 y2 y3) (head_plain.l0 (k + 1) y0 y1 y2 y3))
  | 0 => fun _ _ _ _ r h => by simp [head_plain.l0] at h
  | k + 1 => by
    have ih0 := head_plain.mono_l k
    · intro y0 y1 y2 y3
      unfold head_plain.l0
      repeat' first
      | (with_reducible exact ih0 _ _ _ _)
      | (with_reducible exact LeO.refl _)
      | (with_reducible exact LeO.none _)
      | (with_reducible refine LeO.ite ?_ ?_)
      | (with_reducible refine LeO.bind ?_ (fun _ => ?_))
      | exact ih0 _ _ _ _
      | exact LeO.none _
      | refine LeO.ite ?_ ?_
      | refine LeO.bind ?_ (fun _ => ?_)
theorem head_plain.mono : ∀ a0 k, LeO (head_plain.f k a0) (head_plain.f (k + 1) a0) := by
  intro a0 k
  have ih0 := head_plain.mono_l k
  unfold head_plain.f
  repeat' first
      | (with_reducible exact ih0 _ _ _ _)
      | (with_reducible exact LeO.refl _)
      | (with_reducible exact LeO.none _)
      | (with_reducible refine LeO.ite ?_ ?_)
      | (with_reducible refine LeO.bind ?_ (fun _ => ?_))
      | exact ih0 _ _ _ _
      | exact LeO.none _
      | refine LeO.ite ?_ ?_
      | refine LeO.bind ?_ (fun _ => ?_)
set_option maxHeartbeats 8000000 in
set_option maxRecDepth 100000 in
theorem head_plain.calls (k : Nat) (A0 : Option Addr) (c0 : Nat) (l0 : List (S45)) (r : List Int) (w : World) (hr0 : Kd.C k45 w A0 l0.length l0) (hc0 : l0.length ≤ c0) (h : head_plain.f k l0 = some r) :
    Calls Tryd.prog 35 #[.slice A0 l0.length c0] w fun e w' => ∃ v0_ : Value, e = .returned (v0_) ∧ Kd.R (Kd.int .u8) 5 w' w.heap.size (fun _ => True) v0_ r ∧ Below w.heap.size w w' := by
  have hu45 := Tryd.underlying45
  have HR0 := Aside0.mk hr0
  have HC0 := Aside0.mk hc0
  clear hr0 hc0
  have HB := Aside0.mk (Below.refl w.heap.size w)
  have H : (head_plain.l0 k ([] : List Int) l0 (l0.length : Int) 0) = some r := h
  clear h
  have H' := Aside0.mk H
  clear H
  go_enter Tryd.func35, Tryd.ntmps35
  go_wp2
  go_loopg [3, 8] k (fun kq v3 v8 w' => ∃ (x3_1 : List Int) (x8_1 : Int), v8 = .int .i64 x8_1 ∧ Aside0 (head_plain.l0 kq x3_1 l0 (l0.length : Int) x8_1 = some r) ∧ Aside0 (kq ≤ k) ∧ Aside0 (Kd.R (Kd.int .u8) 5 w' w.heap.size (fun _ => True) v3 x3_1) ∧ Aside0 (Below w.heap.size w w'))
  case atStart => exact ⟨(([] : List Int)), (0), (by first | rfl | (simp; done) | (simp [*]; done)), H', ⟨Nat.le_refl _⟩, ⟨by first | exact Kd.R_nil _ _ _ _ _ | exact Kd.N_nil _ _ _ _ _ | exact Kd.V_nil _ _ _ _ _ | exact Kd.Q_nil _ _ _ _ _ | exact Kd.S_nil _ _ _ _ _⟩, ⟨by repeat (first | (with_reducible first | exact HB.out | apply below_alloc | apply pw_below_drewN | apply below_drew1) | exact HB.out)⟩⟩
  case round =>
    clear H'
    obtain ⟨x3_1, x8_1, rfl, HA, HK1, HO_3, HB⟩ := hrel
    cases gk with
    | zero => exact absurd HA.out (by simp [head_plain.l0])
    | succ k1 =>
      have H := HA.out
      clear HA
      simp only [head_plain.l0] at H
      by_cases c2 : x8_1 < (l0.length : Int)
      · rw [if_pos c2] at H
        have c2b0 : decide (x8_1 < (l0.length : Int)) = true := decide_eq_true c2
        clear c2
        by_cases c3 : 0 ≤ x8_1
        · rw [if_pos c3] at H
          have c3b0 : decide (0 ≤ x8_1) = true := decide_eq_true c3
          clear c3
          by_cases c4 : x8_1 < (l0.length : Int)
          · rw [if_pos c4] at H
            have c4b0 : decide (x8_1 < (l0.length : Int)) = true := decide_eq_true c4
            clear c4
            by_cases c5 : ((rd_T45 l0 x8_1).f0).size + 2 ≤ 9223372036854775807
            · rw [if_pos c5] at H
              have c5b0 := eq_true c5
              have c5b1 : decide (((rd_T45 l0 x8_1).f0).size + 2 ≤ 9223372036854775807) = true := decide_eq_true c5
              try have c5b2 : (9223372036854775807 < ((rd_T45 l0 x8_1).f0).size + 2) = False := eq_false (Nat.not_lt.2 c5)
              by_cases c6 : (((rd_T45 l0 x8_1).f0) ++ (⟨#[58, 32]⟩ : ByteArray)).size + ((rd_T45 l0 x8_1).f1).size ≤ 9223372036854775807
              · rw [if_pos c6] at H
                have c6b0 := eq_true c6
                have c6b1 : decide ((((rd_T45 l0 x8_1).f0) ++ (⟨#[58, 32]⟩ : ByteArray)).size + ((rd_T45 l0 x8_1).f1).size ≤ 9223372036854775807) = true := decide_eq_true c6
                try have c6b2 : (9223372036854775807 < (((rd_T45 l0 x8_1).f0) ++ (⟨#[58, 32]⟩ : ByteArray)).size + ((rd_T45 l0 x8_1).f1).size) = False := eq_false (Nat.not_lt.2 c6)
                (try (have c6b3 : (9223372036854775807 < ((rd_T45 l0 x8_1).f0).size + 2 + ((rd_T45 l0 x8_1).f1).size) = False := eq_false (by have h_ := c6; simp only [ByteArray.size_append] at h_; exact Nat.not_lt.2 h_)))
                (try (have c6b4 : (((rd_T45 l0 x8_1).f0).size + 2 + ((rd_T45 l0 x8_1).f1).size ≤ 9223372036854775807) = True := eq_true (by have h_ := c6; simp only [ByteArray.size_append] at h_; exact h_)))
                by_cases c7 : ((((rd_T45 l0 x8_1).f0) ++ (⟨#[58, 32]⟩ : ByteArray)) ++ ((rd_T45 l0 x8_1).f1)).size + 2 ≤ 9223372036854775807
                · rw [if_pos c7] at H
                  have c7b0 := eq_true c7
                  have c7b1 : decide (((((rd_T45 l0 x8_1).f0) ++ (⟨#[58, 32]⟩ : ByteArray)) ++ ((rd_T45 l0 x8_1).f1)).size + 2 ≤ 9223372036854775807) = true := decide_eq_true c7
                  try have c7b2 : (9223372036854775807 < ((((rd_T45 l0 x8_1).f0) ++ (⟨#[58, 32]⟩ : ByteArray)) ++ ((rd_T45 l0 x8_1).f1)).size + 2) = False := eq_false (Nat.not_lt.2 c7)
                  (try (have c7b3 : (9223372036854775807 < ((rd_T45 l0 x8_1).f0).size + 2 + ((rd_T45 l0 x8_1).f1).size + 2) = False := eq_false (by have h_ := c7; simp only [ByteArray.size_append] at h_; exact Nat.not_lt.2 h_)))
                  (try (have c7b4 : (((rd_T45 l0 x8_1).f0).size + 2 + ((rd_T45 l0 x8_1).f1).size + 2 ≤ 9223372036854775807) = True := eq_true (by have h_ := c7; simp only [ByteArray.size_append] at h_; exact h_)))
                  by_cases c8 : x3_1.length + (((((rd_T45 l0 x8_1).f0) ++ (⟨#[58, 32]⟩ : ByteArray)) ++ ((rd_T45 l0 x8_1).f1)) ++ (⟨#[13, 10]⟩ : ByteArray)).size < 140737488355328
                  · rw [if_pos c8] at H
                    have LMc8 := Aside0.mk c8
                    clear c8
                    obtain ⟨y138, hy138⟩ : ∃ y_ : List Int, y_ = (x3_1 ++ bytesOf (((((rd_T45 l0 x8_1).f0) ++ (⟨#[58, 32]⟩ : ByteArray)) ++ ((rd_T45 l0 x8_1).f1)) ++ (⟨#[13, 10]⟩ : ByteArray))) := ⟨_, rfl⟩
                    replace H : (head_plain.l0 k1 y138 l0 (l0.length : Int) (wrap64 (x8_1 + 1))) = some r := by first | (rw [hy138]; with_reducible exact H) | (have H2_ := (Option.bind_some _ _).symm.trans H; rw [hy138]; with_reducible exact H2_) | (have H2_ := (Option.bind_some _ _).symm.trans H; with_reducible exact H2_) | with_reducible exact H | (rw [hy138]; exact H) | exact H
                    have Ny138 := Aside0.mk hy138
                    clear hy138
                    have H' := Aside0.mk H
                    clear H
                    have p136 : 0 ≤ (x8_1 : Int) := of_decide_eq_true (by first | (with_reducible assumption) | assumption)
                    have q136 : x8_1 < (l0.length : Int) := of_decide_eq_true (by first | (with_reducible assumption) | assumption)
                    obtain ⟨ad136, e136, hx136_0, hx136_1⟩ := at_T45 HR0.out x8_1 p136 q136
                    cases e136
                    replace hx136_0 := (HB.out.cell (World.block_lt_of_cell? w _ hx136_0)).trans hx136_0
                    replace hx136_1 := (HB.out.cell (World.block_lt_of_cell? w _ hx136_1)).trans hx136_1
                    replace p136 := eq_true p136
                    replace q136 := eq_true q136
                    go_wp2_with (first | ((with_reducible refine gate_dst (N := 5) rfl ?_); refine box_event ?hg (N := 5) ?hd (cs := #[.string (⟨#[]⟩ : ByteArray), .string (⟨#[]⟩ : ByteArray)]) (t := 45) ?hr ?_; (case hd => rfl); (case hg => rfl); (case hr => first | (go_simp; done) | (go_simp; rfl)); intro gb137 hg w9 hbox hb; have n0_ := Aside0.mk (Kd.R_below (by (with_reducible repeat (first | apply Kd.R_alloc | apply Kd.R_drewN | apply Kd.R_drew)); exact HO_3.out) hb); have n1_ := Aside0.mk (below_step (by repeat (first | (with_reducible first | exact HB.out | apply below_alloc | apply pw_below_drewN | apply below_drew1) | exact HB.out)) hb); have n2_ := Aside0.mk (hbox); have n3_ := Aside0.mk ((by rw [hg]; exact (below_size (by repeat (first | (with_reducible first | exact HB.out | apply below_alloc | apply pw_below_drewN | apply below_drew1) | exact HB.out))) : w.heap.size ≤ gb137)); have n4_ := Aside0.mk ((by rw [hg]; exact (below_size (by repeat (first | (with_reducible first | exact HB.out | apply below_alloc | apply pw_below_drewN | apply below_drew1) | exact HB.out))) : w.heap.size ≤ gb137)); clear HO_3; clear HB; have HO_3 := n0_; have HB := n1_; have BK137 := n2_; have GW137 := n3_; have GE137 := n4_; clear n0_ n1_ n2_ n3_ n4_; clear hb hbox hg; have hcz10_0 : w9.cell? ⟨gb137, 0, none⟩ = some (.string (⟨#[]⟩ : ByteArray)) := (blk_cell BK137.out 0).trans rfl; have hcz10_1 : w9.cell? ⟨gb137, 1, none⟩ = some (.string (⟨#[]⟩ : ByteArray)) := (blk_cell BK137.out 1).trans rfl; have hfz10_0 := blk_frozen BK137.out 0; have hfz10_1 := blk_frozen BK137.out 1) | (at_builtin; refine print_append_str (w0 := w) w.heap.size rfl (.tmp 12) _ 22 9 5 rfl Tryd.underlying22 Tryd.underlying9 info5 u3 x3_1 (((((rd_T45 l0 x8_1).f0) ++ (⟨#[58, 32]⟩ : ByteArray)) ++ ((rd_T45 l0 x8_1).f1)) ++ (⟨#[13, 10]⟩ : ByteArray)) rfl rfl ?aO ?aB ?aS ?aL ?_; (case aB => exact (by repeat (first | (with_reducible first | exact HB.out | apply below_alloc | apply pw_below_drewN | apply below_drew1 | refine below_set ?_ GE137.out) | exact HB.out))); (case aO => exact (Kd.own_of_R (by (with_reducible repeat (first | apply Kd.R_alloc | apply Kd.R_drewN | apply Kd.R_drew)); exact Kd.R_mono (Kd.R_far (p := ⟨gb137, 1, none⟩) (Kd.R_far (p := ⟨gb137, 0, none⟩) (Kd.R_types HO_3.out BK137.out (by decide)) (fun _ hk => hk.2) (.string ((rd_T45 l0 x8_1).f0))) (fun _ hk => hk.2) (.string ((rd_T45 l0 x8_1).f1))) (fun _ hk => trivial)))); (case aS => exact (below_size (by repeat (first | (with_reducible first | exact HB.out | apply below_alloc | apply pw_below_drewN | apply below_drew1 | refine below_set ?_ GE137.out) | exact HB.out)))); (case aL => have := LMc8.out; first | omega | (change x3_1.length + (((((rd_T45 l0 x8_1).f0) ++ (⟨#[58, 32]⟩ : ByteArray)) ++ ((rd_T45 l0 x8_1).f1)) ++ (⟨#[13, 10]⟩ : ByteArray)).size ≤ 140737488355328; omega)); intro v139 w11 ho0 hb hg; have ho := Kd.R_of_own (h1 := fun _ => rfl) (ok := fun _ => True) ho0 (fun _ _ => trivial); clear ho0; have hat := True.intro; rw [← Ny138.out] at ho; change Kd.R (Kd.int .u8) 5 w11 w.heap.size (fun _ => True) v139 y138 at ho; have n0_ := Aside0.mk (blk_grown (g := gb137) (o := .cells #[.string ((rd_T45 l0 x8_1).f0), .string ((rd_T45 l0 x8_1).f1)] 45 (0, 0)) (by (with_reducible repeat (first | refine blk_drewN ?_ _ | refine blk_drew ?_ | refine blk_alloc ?_ _)); refine blk_put (cs := #[.string ((rd_T45 l0 x8_1).f0), .string (⟨#[]⟩ : ByteArray)]) ?_ 1 _ rfl; (with_reducible repeat (first | refine blk_drewN ?_ _ | refine blk_drew ?_ | refine blk_alloc ?_ _)); refine blk_put (cs := #[.string (⟨#[]⟩ : ByteArray), .string (⟨#[]⟩ : ByteArray)]) ?_ 0 _ rfl; (with_reducible repeat (first | refine blk_drewN ?_ _ | refine blk_drew ?_ | refine blk_alloc ?_ _)); exact BK137.out) hg (Kd.R_ne HO_3.out BK137.out (by decide))); have n1_ := Aside0.mk (hb); have n2_ := Aside0.mk (ho); clear BK137; clear HB; clear HO_3; have BK137 := n0_; have HB := n1_; have HO140 := n2_; clear n0_ n1_ n2_; clear ho hb hg hat))
                    go_roundg k1
                    case measure => have := HK1.out; omega
                    case rel => exact ⟨(y138), (wrap64 (x8_1 + 1)), (by first | rfl | (simp; done) | (simp [*]; done)), H', ⟨by have := HK1.out; omega⟩, ⟨by (with_reducible repeat (first | apply Kd.R_alloc | apply Kd.R_drewN | apply Kd.R_drew)); exact HO140.out⟩, ⟨by repeat (first | (with_reducible first | exact HB.out | apply below_alloc | apply pw_below_drewN | apply below_drew1 | refine below_set ?_ GE137.out) | exact HB.out)⟩⟩
                  · rw [if_neg c8] at H
                    exact absurd H (by simp)
                · rw [if_neg c7] at H
                  exact absurd H (by simp)
              · rw [if_neg c6] at H
                exact absurd H (by simp)
            · rw [if_neg c5] at H
              exact absurd H (by simp)
          · rw [if_neg c4] at H
            exact absurd H (by simp)
        · rw [if_neg c3] at H
          exact absurd H (by simp)
      · rw [if_neg c2] at H
        have c2b0 : decide (x8_1 < (l0.length : Int)) = false := decide_eq_false c2
        clear c2
        by_cases c12 : x3_1.length + 2 < 140737488355328
        · rw [if_pos c12] at H
          have LMc12 := Aside0.mk c12
          clear c12
          obtain ⟨y141, hy141⟩ : ∃ y_ : List Int, y_ = (x3_1 ++ bytesOf (⟨#[13, 10]⟩ : ByteArray)) := ⟨_, rfl⟩
          replace H : (some y141) = some r := by first | (rw [hy141]; with_reducible exact H) | (have H2_ := (Option.bind_some _ _).symm.trans H; rw [hy141]; with_reducible exact H2_) | (have H2_ := (Option.bind_some _ _).symm.trans H; with_reducible exact H2_) | with_reducible exact H | (rw [hy141]; exact H) | exact H
          have Ny141 := Aside0.mk hy141
          clear hy141
          obtain rfl := Option.some.inj H
          go_wp2_with (first | (at_builtin; refine print_append_str (w0 := w) w.heap.size rfl (.tmp 22) _ 22 9 5 rfl Tryd.underlying22 Tryd.underlying9 info5 u3 x3_1 (⟨#[13, 10]⟩ : ByteArray) rfl rfl ?aO ?aB ?aS ?aL ?_; (case aB => exact (by repeat (first | (with_reducible first | exact HB.out | apply below_alloc | apply pw_below_drewN | apply below_drew1) | exact HB.out))); (case aO => exact (Kd.own_of_R (by (with_reducible repeat (first | apply Kd.R_alloc | apply Kd.R_drewN | apply Kd.R_drew)); exact HO_3.out))); (case aS => exact (below_size (by repeat (first | (with_reducible first | exact HB.out | apply below_alloc | apply pw_below_drewN | apply below_drew1) | exact HB.out)))); (case aL => have := LMc12.out; first | omega | (change x3_1.length + 2 ≤ 140737488355328; omega)); intro v142 w13 ho0 hb hg; have ho := Kd.R_of_own (h1 := fun _ => rfl) (ok := fun _ => True) ho0 (fun _ _ => trivial); clear ho0; have hat := True.intro; rw [← Ny141.out] at ho; change Kd.R (Kd.int .u8) 5 w13 w.heap.size (fun _ => True) v142 y141 at ho; have n0_ := Aside0.mk (hb); have n1_ := Aside0.mk (ho); clear HB; clear HO_3; have HB := n0_; have HO143 := n1_; clear n0_ n1_; clear ho hb hg hat))
          go_ret
          exact ⟨_, by first | rfl | (simp [errW_none, errW_some] <;> rfl) | (simp [*, errW_none, errW_some] <;> rfl), by (with_reducible repeat (first | apply Kd.R_alloc | apply Kd.R_drewN | apply Kd.R_drew)); exact HO143.out, by repeat (first | (with_reducible first | exact HB.out | apply below_alloc | apply pw_below_drewN | apply below_drew1) | exact HB.out)⟩
        · rw [if_neg c12] at H
          exact absurd H (by simp)

end Go.Proofs.YtdofgilfmgdpkaaDoor.P

/- What head.plain tells, in one line. -/
namespace Go.Proofs.YtdofgilfmgdpkaaDoor.P
open Go.RowKit Go.Proofs.YtdofgilfmgdpkaaDoorW.PrintWords Go.Proofs.YtdofgilfmgdpkaaDoorW.PrintLast Go.Proofs.YtdofgilfmgdpkaaDoorW.PrintMore

def lineB (x : S45) : ByteArray := ((x.f0 ++ ⟨#[58, 32]⟩) ++ x.f1) ++ ⟨#[13, 10]⟩
def plainB (l : List S45) : List Int := l.flatMap (fun x => bytesOf (lineB x)) ++ [13, 10]
theorem lineB_size (x : S45) : (lineB x).size = x.f0.size + 2 + x.f1.size + 2 := by
  unfold lineB; simp only [ByteArray.size_append]; rfl
theorem wrap_in {i : Int} (h : -9223372036854775808 ≤ i) (h2 : i ≤ 9223372036854775807) : wrap64 i = i := by unfold wrap64; omega
theorem plain_from (l : List S45) (d : Nat) : ∀ (k i : Nat) (acc : List Int), l.length - i = d → i ≤ l.length → d < k → l.length ≤ 140737488355328 →
    acc.length + ((l.drop i).flatMap (fun x => bytesOf (lineB x))).length + 2 < 140737488355328 →
    head_plain.l0 k acc l (l.length : Int) (i : Int) = some (acc ++ (l.drop i).flatMap (fun x => bytesOf (lineB x)) ++ [13, 10]) := by
  induction d with
  | zero =>
    intro k i acc hd hi hk hm ht
    obtain ⟨k, rfl⟩ : ∃ m, k = m + 1 := ⟨k - 1, by omega⟩
    obtain rfl : i = l.length := by omega
    rw [head_plain.l0, if_neg (by omega), if_pos (by omega), List.drop_length, List.flatMap_nil, List.append_nil]
    rfl
  | succ d ih =>
    intro k i acc hd hi hk hm ht
    obtain ⟨k, rfl⟩ : ∃ m, k = m + 1 := ⟨k - 1, by omega⟩
    have hlt : i < l.length := by omega
    have hx : rd_T45 l (i : Int) = l[i] := by
      unfold rd_T45; rw [Int.toNat_natCast, List.getD_eq_getElem?_getD, List.getElem?_eq_getElem hlt]; rfl
    rw [List.drop_eq_getElem_cons hlt, List.flatMap_cons, List.length_append, bytesOf_length, lineB_size] at ht
    rw [head_plain.l0, if_pos (by omega), if_pos (by omega), if_pos (by omega), hx]
    rw [if_pos (by omega), if_pos (by simp only [ByteArray.size_append]; show _ + 2 + _ ≤ _; omega), if_pos (by simp only [ByteArray.size_append]; show _ + 2 + _ + 2 ≤ _; omega)]
    rw [if_pos (by have := lineB_size l[i]; unfold lineB at this; rw [this]; omega), wrap_in (by omega) (by omega)]
    have := ih k (i + 1) (acc ++ bytesOf (lineB l[i])) (by omega) (by omega) (by omega) hm (by rw [List.length_append, bytesOf_length, lineB_size]; omega)
    rw [show ((i + 1 : Nat) : Int) = (i : Int) + 1 by omega] at this
    rw [show bytesOf (((l[i].f0 ++ ⟨#[58, 32]⟩) ++ l[i].f1) ++ ⟨#[13, 10]⟩) = bytesOf (lineB l[i]) from rfl, this, List.drop_eq_getElem_cons hlt, List.flatMap_cons]
    simp only [List.append_assoc]
theorem plain_tells (l : List S45) (k : Nat) (hk : l.length < k) (h : (plainB l).length < 140737488355328) : head_plain.f k l = some (plainB l) := by
  unfold plainB at h ⊢
  rw [List.length_append] at h
  have hl : l.length ≤ (l.flatMap (fun x => bytesOf (lineB x))).length := by
    clear h hk
    induction l with
    | nil => simp
    | cons x r ih => rw [List.flatMap_cons, List.length_append, bytesOf_length, lineB_size, List.length_cons]; omega
  have := plain_from l l.length k 0 [] (by omega) (by omega) hk (by omega) (by simpa using h)
  unfold head_plain.f
  simpa using this
end Go.Proofs.YtdofgilfmgdpkaaDoor.P

/-
  DERIVED: THE SHELF's CONTRACTS AT THIS DUMP, IN PLAIN WORDS (tools/lay-plain.mjs out of 'TrydShelf.lean', which tools/lay-shelf.mjs wrote): THE SAME DECLARATIONS UNDER THE SAME NAMES: 'import', 'namespace', 'open', 'def', 'theorem' AND NOTHING ELSE: no command of the shelf's: FOR A HAND-IN. Each laying: the table of numbers ('.._ren') and one theorem, a field a fact of the dump's own or the kernel's comparison; each contract: ONE APPLICATION.
-/
namespace Go.Proofs
open Go.Shelf
def Tryd.lays231_ren : Go.Shelf.Ren := ⟨fun | 231 => 59 | n => n, fun | 9 => 9 | 5 => 5 | 3 => 3 | 4 => 4 | n => n, fun | n => n⟩
theorem Tryd.lays231 : Go.Proofs.Lays.n231 Tryd.prog Tryd.lays231_ren := {
  mixed := by kernel_rfl
  f231 := Tryd.func59.trans (congrArg some (by kernel_rfl))
  t3 := Tryd.underlying3
  a3 := Tryd.isAgg3
  z3 := Tryd.sizeOf3
  v3 := Tryd.zeroValue3
  t4 := Tryd.underlying4
  a4 := Tryd.isAgg4
  z4 := Tryd.sizeOf4
  v4 := Tryd.zeroValue4
  t5 := Tryd.underlying5
  a5 := Tryd.isAgg5
  z5 := Tryd.sizeOf5
  v5 := Tryd.zeroValue5
  t9 := Tryd.underlying9
  a9 := Tryd.isAgg9
  z9 := Tryd.sizeOf9
  v9 := Tryd.zeroValue9 }
open Go.RowKit in
/-- strings.trimLeftByte (no doc; what TrimLeft and Trim call at a cutset of one ASCII byte): the leading bytes that are c are cut off. The world is as it was. (LAID: no walk: one application.) -/
theorem Tryd.strings_trimLeftByte (s : ByteArray) (c : UInt8) (w : World) :
    Calls Tryd.prog 59 #[.string s, .int .u8 c.toNat] w fun e w' => e = .returned (.string ⟨(Lib.trimLeftB s.data.toList c).toArray⟩) ∧ w' = w := Any.strings_trimLeftByte Tryd.lays231 s c w
def Tryd.lays232_ren : Go.Shelf.Ren := ⟨fun | 232 => 60 | n => n, fun | 9 => 9 | 5 => 5 | 3 => 3 | 4 => 4 | n => n, fun | n => n⟩
theorem Tryd.lays232 : Go.Proofs.Lays.n232 Tryd.prog Tryd.lays232_ren := {
  mixed := by kernel_rfl
  f232 := Tryd.func60.trans (congrArg some (by kernel_rfl))
  t3 := Tryd.underlying3
  a3 := Tryd.isAgg3
  z3 := Tryd.sizeOf3
  v3 := Tryd.zeroValue3
  t4 := Tryd.underlying4
  a4 := Tryd.isAgg4
  z4 := Tryd.sizeOf4
  v4 := Tryd.zeroValue4
  t5 := Tryd.underlying5
  a5 := Tryd.isAgg5
  z5 := Tryd.sizeOf5
  v5 := Tryd.zeroValue5
  t9 := Tryd.underlying9
  a9 := Tryd.isAgg9
  z9 := Tryd.sizeOf9
  v9 := Tryd.zeroValue9 }
open Go.RowKit in
/-- strings.trimRightByte (no doc; what TrimRight and Trim call at a cutset of one ASCII byte): the trailing bytes that are c are cut off. The world is as it was. ('hs': a string's length is a number that an int holds.) (LAID: no walk: one application.) -/
theorem Tryd.strings_trimRightByte (s : ByteArray) (c : UInt8) (w : World) (hs : s.size ≤ 9223372036854775807) :
    Calls Tryd.prog 60 #[.string s, .int .u8 c.toNat] w fun e w' => e = .returned (.string ⟨(Lib.trimRightB s.data.toList c).toArray⟩) ∧ w' = w := Any.strings_trimRightByte Tryd.lays232 s c w hs
def Tryd.lays160_ren : Go.Shelf.Ren := ⟨fun | 160 => 51 | 232 => 60 | 231 => 59 | 227 => 61 | 234 => 63 | 233 => 62 | 236 => 65 | 235 => 64 | 228 => 68 | 271 => 71 | 151 => 70 | 197 => 69 | 120 => 74 | 152 => 73 | 260 => 72 | 137 => 49 | 119 => 75 | 224 => 76 | 225 => 77 | 217 => 58 | 266 => 67 | n => n, fun | 9 => 9 | 4 => 4 | 3 => 3 | 5 => 5 | 117 => 75 | 116 => 74 | 0 => 0 | 124 => 78 | 21 => 21 | 105 => 80 | 46 => 85 | 119 => 84 | 139 => 88 | 138 => 87 | n => n, fun | 3 => 1 | 4 => 2 | n => n⟩
theorem Tryd.lays160 : Go.Proofs.Lays.n160 Tryd.prog Tryd.lays160_ren := {
  mixed := by kernel_rfl
  f119 := Tryd.func75.trans (congrArg some (by kernel_rfl))
  f120 := Tryd.func74.trans (congrArg some (by kernel_rfl))
  f137 := Tryd.func49.trans (congrArg some (by kernel_rfl))
  f151 := Tryd.func70.trans (congrArg some (by kernel_rfl))
  f152 := Tryd.func73.trans (congrArg some (by kernel_rfl))
  f160 := Tryd.func51.trans (congrArg some (by kernel_rfl))
  f197 := Tryd.func69.trans (congrArg some (by kernel_rfl))
  f217 := Tryd.func58.trans (congrArg some (by kernel_rfl))
  f224 := Tryd.func76.trans (congrArg some (by kernel_rfl))
  f225 := Tryd.func77.trans (congrArg some (by kernel_rfl))
  f227 := Tryd.func61.trans (congrArg some (by kernel_rfl))
  f228 := Tryd.func68.trans (congrArg some (by kernel_rfl))
  f231 := Tryd.func59.trans (congrArg some (by kernel_rfl))
  f232 := Tryd.func60.trans (congrArg some (by kernel_rfl))
  f233 := Tryd.func62.trans (congrArg some (by kernel_rfl))
  f234 := Tryd.func63.trans (congrArg some (by kernel_rfl))
  f235 := Tryd.func64.trans (congrArg some (by kernel_rfl))
  f236 := Tryd.func65.trans (congrArg some (by kernel_rfl))
  f260 := Tryd.func72.trans (congrArg some (by kernel_rfl))
  f266 := Tryd.func67.trans (congrArg some (by kernel_rfl))
  f271 := Tryd.func71.trans (congrArg some (by kernel_rfl))
  t0 := Tryd.underlying0
  a0 := Tryd.isAgg0
  z0 := Tryd.sizeOf0
  v0 := Tryd.zeroValue0
  t3 := Tryd.underlying3
  a3 := Tryd.isAgg3
  z3 := Tryd.sizeOf3
  v3 := Tryd.zeroValue3
  t4 := Tryd.underlying4
  a4 := Tryd.isAgg4
  z4 := Tryd.sizeOf4
  v4 := Tryd.zeroValue4
  t5 := Tryd.underlying5
  a5 := Tryd.isAgg5
  z5 := Tryd.sizeOf5
  v5 := Tryd.zeroValue5
  t9 := Tryd.underlying9
  a9 := Tryd.isAgg9
  z9 := Tryd.sizeOf9
  v9 := Tryd.zeroValue9
  t21 := Tryd.underlying21
  a21 := Tryd.isAgg21
  z21 := Tryd.sizeOf21
  v21 := Tryd.zeroValue21
  t46 := Tryd.underlying85
  a46 := Tryd.isAgg85
  z46 := Tryd.sizeOf85
  v46 := Tryd.zeroValue85
  t105 := Tryd.underlying80
  a105 := Tryd.isAgg80
  z105 := Tryd.sizeOf80
  v105 := Tryd.zeroValue80
  t116 := Tryd.underlying74
  a116 := Tryd.isAgg74
  z116 := Tryd.sizeOf74
  t117 := Tryd.underlying75
  a117 := Tryd.isAgg75
  z117 := Tryd.sizeOf75
  v117 := Tryd.zeroValue75
  t119 := Tryd.underlying84
  a119 := Tryd.isAgg84
  z119 := Tryd.sizeOf84
  t124 := Tryd.underlying78
  a124 := Tryd.isAgg78
  z124 := Tryd.sizeOf78
  v124 := Tryd.zeroValue78
  t138 := Tryd.underlying87
  a138 := Tryd.isAgg87
  z138 := Tryd.sizeOf87
  v138 := Tryd.zeroValue87
  t139 := Tryd.underlying88
  a139 := Tryd.isAgg88
  z139 := Tryd.sizeOf88
  v139 := Tryd.zeroValue88
  g3 := by kernel_rfl
  g4 := by kernel_rfl }
open Go.RowKit in
/-- strings.Trim: "Trim returns a slice of the string s with all leading and trailing Unicode code points contained in cutset removed.": AT A cutset OF ONE ASCII BYTE. THE WORLD BEHIND IT: as it was, or (where s is not empty) with ONE DRAW MORE off the tape: the statement 'return trimLeftByte(trimRightByte(s, c), c)' draws its order of evaluation. (LAID: no walk: one application.) -/
theorem Tryd.strings_Trim_one (s : ByteArray) (c : UInt8) (hc : c.toNat < 128) (w : World) (hs : s.size ≤ 9223372036854775807) :
    Calls Tryd.prog 51 #[.string s, .string ⟨#[c]⟩] w fun e w' => e = .returned (.string ⟨(Lib.trimB s.data.toList c).toArray⟩) ∧ (w' = w ∨ w' = w.drew) := Any.strings_Trim_one Tryd.lays160 s c hc w hs
def Tryd.lays119_ren : Go.Shelf.Ren := ⟨fun | 119 => 75 | n => n, fun | 21 => 21 | 4 => 4 | n => n, fun | n => n⟩
theorem Tryd.lays119 : Go.Proofs.Lays.n119 Tryd.prog Tryd.lays119_ren := {
  mixed := by kernel_rfl
  f119 := Tryd.func75.trans (congrArg some (by kernel_rfl))
  t4 := Tryd.underlying4
  a4 := Tryd.isAgg4
  z4 := Tryd.sizeOf4
  v4 := Tryd.zeroValue4
  t21 := Tryd.underlying21
  a21 := Tryd.isAgg21
  z21 := Tryd.sizeOf21
  v21 := Tryd.zeroValue21 }
/-- utf8.ValidRune: "ValidRune reports whether r can be legally encoded as UTF-8. Code points that are out of range or a surrogate half are illegal.": IT RETURNS 'Lib.validRune r'; the world is as it was. (LAID: no walk: one application.) -/
theorem Tryd.utf8_ValidRune (r : Int) (w : World) :
    Calls Tryd.prog 75 #[.int .i32 r] w fun e w' => e = .returned (.bool (Lib.validRune r)) ∧ w' = w := Any.utf8_ValidRune Tryd.lays119 r w
def Tryd.lays120_ren : Go.Shelf.Ren := ⟨fun | 120 => 74 | n => n, fun | 5 => 5 | 4 => 4 | n => n, fun | n => n⟩
theorem Tryd.lays120 : Go.Proofs.Lays.n120 Tryd.prog Tryd.lays120_ren := {
  mixed := by kernel_rfl
  f120 := Tryd.func74.trans (congrArg some (by kernel_rfl))
  t4 := Tryd.underlying4
  a4 := Tryd.isAgg4
  z4 := Tryd.sizeOf4
  v4 := Tryd.zeroValue4
  t5 := Tryd.underlying5
  a5 := Tryd.isAgg5
  z5 := Tryd.sizeOf5
  v5 := Tryd.zeroValue5 }
/-- utf8.RuneStart: "RuneStart reports whether the byte could be the first byte of an encoded, possibly invalid rune. Second and subsequent bytes always have the top two bits set to 10.": IT RETURNS 'Lib.runeStart b'; the world is as it was. ('h0', 'h1': b is a byte: a caller has it of every byte that it was handed.) (LAID: no walk: one application.) -/
theorem Tryd.utf8_RuneStart (b : Int) (w : World) (h0 : 0 ≤ b) (h1 : b < 256) :
    Calls Tryd.prog 74 #[.int .u8 b] w fun e w' => e = .returned (.bool (Lib.runeStart b)) ∧ w' = w := Any.utf8_RuneStart Tryd.lays120 b w h0 h1
def Tryd.lays137_ren : Go.Shelf.Ren := ⟨fun | 137 => 49 | 217 => 58 | 266 => 67 | n => n, fun | 9 => 9 | 5 => 5 | 3 => 3 | n => n, fun | n => n⟩
theorem Tryd.lays137 : Go.Proofs.Lays.n137 Tryd.prog Tryd.lays137_ren := {
  mixed := by kernel_rfl
  f137 := Tryd.func49.trans (congrArg some (by kernel_rfl))
  f217 := Tryd.func58.trans (congrArg some (by kernel_rfl))
  f266 := Tryd.func67.trans (congrArg some (by kernel_rfl))
  t3 := Tryd.underlying3
  a3 := Tryd.isAgg3
  z3 := Tryd.sizeOf3
  v3 := Tryd.zeroValue3
  t5 := Tryd.underlying5
  a5 := Tryd.isAgg5
  z5 := Tryd.sizeOf5
  v5 := Tryd.zeroValue5
  t9 := Tryd.underlying9
  a9 := Tryd.isAgg9
  z9 := Tryd.sizeOf9
  v9 := Tryd.zeroValue9 }
open Go.RowKit in
/-- strings.IndexByte: "IndexByte returns the index of the first instance of c in s, or -1 if c is not present in s.": IT RETURNS 'Lib.indexByte s c'; the world is as it was. (LAID: no walk: one application.) -/
theorem Tryd.strings_IndexByte (s : ByteArray) (c : Int) (w : World) :
    Calls Tryd.prog 49 #[.string s, .int .u8 c] w fun e w' => e = .returned (.int .i64 (Lib.indexByte s.data.toList c.toNat.toUInt8)) ∧ w' = w := Any.strings_IndexByte Tryd.lays137 s c w
def Tryd.lays217_ren : Go.Shelf.Ren := ⟨fun | 217 => 58 | 266 => 67 | n => n, fun | 9 => 9 | 5 => 5 | 3 => 3 | n => n, fun | n => n⟩
theorem Tryd.lays217 : Go.Proofs.Lays.n217 Tryd.prog Tryd.lays217_ren := {
  mixed := by kernel_rfl
  f217 := Tryd.func58.trans (congrArg some (by kernel_rfl))
  f266 := Tryd.func67.trans (congrArg some (by kernel_rfl))
  t3 := Tryd.underlying3
  a3 := Tryd.isAgg3
  z3 := Tryd.sizeOf3
  v3 := Tryd.zeroValue3
  t5 := Tryd.underlying5
  a5 := Tryd.isAgg5
  z5 := Tryd.sizeOf5
  v5 := Tryd.zeroValue5
  t9 := Tryd.underlying9
  a9 := Tryd.isAgg9
  z9 := Tryd.sizeOf9
  v9 := Tryd.zeroValue9 }
open Go.RowKit Go.Lib in
/-- internal/stringslite.IndexByte (what strings.IndexByte calls): IT RETURNS 'Lib.indexByte s c'; the world is as it was. (LAID: no walk: one application.) -/
theorem Tryd.stringslite_IndexByte (s : ByteArray) (c : Int) (w : World) :
    Calls Tryd.prog 58 #[.string s, .int .u8 c] w fun e w' => e = .returned (.int .i64 (Lib.indexByte s.data.toList c.toNat.toUInt8)) ∧ w' = w := Any.stringslite_IndexByte Tryd.lays217 s c w
def Tryd.lays224_ren : Go.Shelf.Ren := ⟨fun | 224 => 76 | n => n, fun | 3 => 3 | n => n, fun | n => n⟩
theorem Tryd.lays224 : Go.Proofs.Lays.n224 Tryd.prog Tryd.lays224_ren := {
  mixed := by kernel_rfl
  f224 := Tryd.func76.trans (congrArg some (by kernel_rfl))
  t3 := Tryd.underlying3
  a3 := Tryd.isAgg3
  z3 := Tryd.sizeOf3
  v3 := Tryd.zeroValue3 }
open Go.RowKit Go.Lib in
/-- internal/bytealg.Cutover: "Cutover reports the number of failures of IndexByte we should tolerate before switching over to Index. n is the number of bytes processed so far.": on amd64: (n + 16) / 8. (LAID: no walk: one application.) -/
theorem Tryd.bytealg_Cutover (n : Int) (h0 : 0 ≤ n) (h1 : n < 4611686018427387904) (w : World) :
    Calls Tryd.prog 76 #[.int .i64 n] w fun e w' => e = .returned (.int .i64 ((n + 16) / 8)) ∧ w' = w := Any.bytealg_Cutover Tryd.lays224 n h0 h1 w
def Tryd.lays152_ren : Go.Shelf.Ren := ⟨fun | 152 => 73 | 137 => 49 | 119 => 75 | 224 => 76 | 225 => 77 | 217 => 58 | 266 => 67 | n => n, fun | 9 => 9 | 21 => 21 | 3 => 3 | 4 => 4 | 5 => 5 | 0 => 0 | 46 => 85 | n => n, fun | n => n⟩
theorem Tryd.lays152 : Go.Proofs.Lays.n152 Tryd.prog Tryd.lays152_ren := {
  mixed := by kernel_rfl
  f119 := Tryd.func75.trans (congrArg some (by kernel_rfl))
  f137 := Tryd.func49.trans (congrArg some (by kernel_rfl))
  f152 := Tryd.func73.trans (congrArg some (by kernel_rfl))
  f217 := Tryd.func58.trans (congrArg some (by kernel_rfl))
  f224 := Tryd.func76.trans (congrArg some (by kernel_rfl))
  f225 := Tryd.func77.trans (congrArg some (by kernel_rfl))
  f266 := Tryd.func67.trans (congrArg some (by kernel_rfl))
  t0 := Tryd.underlying0
  a0 := Tryd.isAgg0
  z0 := Tryd.sizeOf0
  v0 := Tryd.zeroValue0
  t3 := Tryd.underlying3
  a3 := Tryd.isAgg3
  z3 := Tryd.sizeOf3
  v3 := Tryd.zeroValue3
  t4 := Tryd.underlying4
  a4 := Tryd.isAgg4
  z4 := Tryd.sizeOf4
  v4 := Tryd.zeroValue4
  t5 := Tryd.underlying5
  a5 := Tryd.isAgg5
  z5 := Tryd.sizeOf5
  v5 := Tryd.zeroValue5
  t9 := Tryd.underlying9
  a9 := Tryd.isAgg9
  z9 := Tryd.sizeOf9
  v9 := Tryd.zeroValue9
  t21 := Tryd.underlying21
  a21 := Tryd.isAgg21
  z21 := Tryd.sizeOf21
  v21 := Tryd.zeroValue21
  t46 := Tryd.underlying85
  a46 := Tryd.isAgg85
  z46 := Tryd.sizeOf85
  v46 := Tryd.zeroValue85 }
open Go.RowKit Go.Lib in
theorem Tryd.strings_IndexRune_ascii (s : ByteArray) (r : Int) (w : World) (h0 : 0 ≤ r) (h1 : r < 128) :
    Calls Tryd.prog 73 #[.string s, .int .i32 r] w fun e w' => e = .returned (.int .i64 (Lib.indexByte s.data.toList r.toNat.toUInt8)) ∧ w' = w := Any.strings_IndexRune_ascii Tryd.lays152 s r w h0 h1
def Tryd.lays151_ren : Go.Shelf.Ren := ⟨fun | 151 => 70 | 152 => 73 | 137 => 49 | 119 => 75 | 224 => 76 | 225 => 77 | 217 => 58 | 266 => 67 | n => n, fun | 9 => 9 | 21 => 21 | 4 => 4 | 3 => 3 | 5 => 5 | 0 => 0 | 46 => 85 | n => n, fun | n => n⟩
theorem Tryd.lays151 : Go.Proofs.Lays.n151 Tryd.prog Tryd.lays151_ren := {
  mixed := by kernel_rfl
  f119 := Tryd.func75.trans (congrArg some (by kernel_rfl))
  f137 := Tryd.func49.trans (congrArg some (by kernel_rfl))
  f151 := Tryd.func70.trans (congrArg some (by kernel_rfl))
  f152 := Tryd.func73.trans (congrArg some (by kernel_rfl))
  f217 := Tryd.func58.trans (congrArg some (by kernel_rfl))
  f224 := Tryd.func76.trans (congrArg some (by kernel_rfl))
  f225 := Tryd.func77.trans (congrArg some (by kernel_rfl))
  f266 := Tryd.func67.trans (congrArg some (by kernel_rfl))
  t0 := Tryd.underlying0
  a0 := Tryd.isAgg0
  z0 := Tryd.sizeOf0
  v0 := Tryd.zeroValue0
  t3 := Tryd.underlying3
  a3 := Tryd.isAgg3
  z3 := Tryd.sizeOf3
  v3 := Tryd.zeroValue3
  t4 := Tryd.underlying4
  a4 := Tryd.isAgg4
  z4 := Tryd.sizeOf4
  v4 := Tryd.zeroValue4
  t5 := Tryd.underlying5
  a5 := Tryd.isAgg5
  z5 := Tryd.sizeOf5
  v5 := Tryd.zeroValue5
  t9 := Tryd.underlying9
  a9 := Tryd.isAgg9
  z9 := Tryd.sizeOf9
  v9 := Tryd.zeroValue9
  t21 := Tryd.underlying21
  a21 := Tryd.isAgg21
  z21 := Tryd.sizeOf21
  v21 := Tryd.zeroValue21
  t46 := Tryd.underlying85
  a46 := Tryd.isAgg85
  z46 := Tryd.sizeOf85
  v46 := Tryd.zeroValue85 }
open Go.RowKit Go.Lib in
theorem Tryd.strings_ContainsRune_ascii (s : ByteArray) (r : Int) (w : World) (h0 : 0 ≤ r) (h1 : r < 128) :
    Calls Tryd.prog 70 #[.string s, .int .i32 r] w fun e w' => e = .returned (.bool (decide (0 ≤ Lib.indexByte s.data.toList r.toNat.toUInt8))) ∧ w' = w := Any.strings_ContainsRune_ascii Tryd.lays151 s r w h0 h1
def Tryd.lays227_ren : Go.Shelf.Ren := ⟨fun | 227 => 61 | n => n, fun | 9 => 9 | 116 => 74 | 4 => 4 | 0 => 0 | 3 => 3 | 5 => 5 | n => n, fun | n => n⟩
theorem Tryd.lays227 : Go.Proofs.Lays.n227 Tryd.prog Tryd.lays227_ren := {
  mixed := by kernel_rfl
  f227 := Tryd.func61.trans (congrArg some (by kernel_rfl))
  t0 := Tryd.underlying0
  a0 := Tryd.isAgg0
  z0 := Tryd.sizeOf0
  v0 := Tryd.zeroValue0
  t3 := Tryd.underlying3
  a3 := Tryd.isAgg3
  z3 := Tryd.sizeOf3
  v3 := Tryd.zeroValue3
  t4 := Tryd.underlying4
  a4 := Tryd.isAgg4
  z4 := Tryd.sizeOf4
  v4 := Tryd.zeroValue4
  t5 := Tryd.underlying5
  a5 := Tryd.isAgg5
  z5 := Tryd.sizeOf5
  v5 := Tryd.zeroValue5
  t9 := Tryd.underlying9
  a9 := Tryd.isAgg9
  z9 := Tryd.sizeOf9
  v9 := Tryd.zeroValue9
  t116 := Tryd.underlying74
  a116 := Tryd.isAgg74
  z116 := Tryd.sizeOf74 }
open Go.RowKit Go.Lib in
theorem Tryd.strings_makeASCIISet (hv116 : ∀ w, (zeroValue 74).run Tryd.prog w = .ok (.agg (Array.replicate 256 (.bool false))) w) (chars : ByteArray) (w : World) (hs : chars.size < 4294967281) (hascii : ∀ (j : Nat) b, chars.data.toList[j]? = some b → b.toNat < 128) :
    Calls Tryd.prog 61 #[.string chars] w fun e w' => e = .returned (.tuple #[.agg (Lib.setCells chars.data.toList), .bool true]) ∧ w' = w.alloc (.cells (Lib.setCells chars.data.toList) 74) := Any.strings_makeASCIISet Tryd.lays227 hv116 (by kernel_rfl) chars w hs hascii
def Tryd.lays228_ren : Go.Shelf.Ren := ⟨fun | 228 => 68 | n => n, fun | 124 => 78 | 5 => 5 | 4 => 4 | 0 => 0 | 116 => 74 | n => n, fun | n => n⟩
theorem Tryd.lays228 : Go.Proofs.Lays.n228 Tryd.prog Tryd.lays228_ren := {
  mixed := by kernel_rfl
  f228 := Tryd.func68.trans (congrArg some (by kernel_rfl))
  t0 := Tryd.underlying0
  a0 := Tryd.isAgg0
  z0 := Tryd.sizeOf0
  v0 := Tryd.zeroValue0
  t4 := Tryd.underlying4
  a4 := Tryd.isAgg4
  z4 := Tryd.sizeOf4
  v4 := Tryd.zeroValue4
  t5 := Tryd.underlying5
  a5 := Tryd.isAgg5
  z5 := Tryd.sizeOf5
  v5 := Tryd.zeroValue5
  t116 := Tryd.underlying74
  a116 := Tryd.isAgg74
  z116 := Tryd.sizeOf74
  t124 := Tryd.underlying78
  a124 := Tryd.isAgg78
  z124 := Tryd.sizeOf78
  v124 := Tryd.zeroValue78 }
open Go.RowKit Go.Lib in
/-- '(as *asciiSet) contains(c)': 'as[c]': the set lies at block b, whole. (LAID: no walk: one application.) -/
theorem Tryd.asciiSet_contains (b : Nat) (x : UInt8) (v : Bool) (w : World) (hc : w.cell? ⟨b, x.toNat, none⟩ = some (.bool v)) :
    Calls Tryd.prog 68 #[.pointer (some ⟨b, 0, none⟩), .int .u8 x.toNat] w fun e w' => e = .returned (.bool v) ∧ w' = w := Any.asciiSet_contains Tryd.lays228 b x v w hc
end Go.Proofs

/- text.Trim: without blanks at both ends. -/
namespace Go.Proofs.YtdofgilfmgdpkaaDoor.P
open Go.RowKit Go.Proofs.YtdofgilfmgdpkaaDoorW.PrintWords Go.Proofs.YtdofgilfmgdpkaaDoorW.PrintLast Go.Proofs.YtdofgilfmgdpkaaDoorW.PrintMore

def trimB (s : ByteArray) : ByteArray := ⟨(Lib.trimS s.data.toList [32, 9]).toArray⟩
def text_Trim.f (a0 : ByteArray) : Option ByteArray := if a0.size ≤ 9223372036854775807 then some (trimB a0) else none

theorem text_Trim.calls (a0 : ByteArray) (r : ByteArray) (w : World) (h : text_Trim.f a0 = some r) :
    Calls Tryd.prog 27 #[.string a0] w fun e w' => e = .returned (.string r) ∧ Below w.heap.size w w' := by
  unfold text_Trim.f at h
  split at h
  · rename_i hs
    obtain rfl := Option.some.inj h
    have HC := Aside0.mk (Any.strings_Trim_laid Tryd.lays160 (by kernel_rfl) a0 ⟨#[32, 9]⟩ w hs (by decide) (ascii_of_all (by decide)))
    clear h hs
    go_enter Tryd.func27, Tryd.ntmps27
    go_wp2_with fail
    refine HC.out.mono ?_
    rintro e w' ⟨rfl, hb⟩
    go_wp2
    go_ret
    exact ⟨rfl, hb⟩
  · exact absurd h (by simp)
end Go.Proofs.YtdofgilfmgdpkaaDoor.P

/- text.Token: all bytes are letters, digits or signs, and there is one. -/
namespace Go.Proofs.YtdofgilfmgdpkaaDoor.P
open Go.RowKit Go.Proofs.YtdofgilfmgdpkaaDoorW.PrintWords Go.Proofs.YtdofgilfmgdpkaaDoorW.PrintLast Go.Proofs.YtdofgilfmgdpkaaDoorW.PrintMore

def tokSigns : List UInt8 := [33, 35, 36, 37, 38, 39, 42, 43, 45, 46, 94, 95, 96, 124, 126]
/-- May a byte stand in a token? -/
def tokI (c : Int) : Bool := (decide (97 ≤ c) && decide (c ≤ 122)) || (decide (65 ≤ c) && decide (c ≤ 90)) || (decide (48 ≤ c) && decide (c ≤ 57)) || tokSigns.contains c.toNat.toUInt8
def text_Token.f (a0 : ByteArray) : Option Bool := if a0.size ≤ 9223372036854775807 then some (!a0.data.toList.isEmpty && (bytesOf a0).all tokI) else none

theorem tok_low : ∀ n : Fin 256, ((decide ((97 : Int) ≤ Go.bits .or .u8 ((n.val : Nat) : Int) 32) && decide (Go.bits .or .u8 ((n.val : Nat) : Int) 32 ≤ 122)) = ((decide ((97 : Int) ≤ ((n.val : Nat) : Int)) && decide (((n.val : Nat) : Int) ≤ 122)) || (decide ((65 : Int) ≤ ((n.val : Nat) : Int)) && decide (((n.val : Nat) : Int) ≤ 90)))) := by decide +kernel
theorem tok_sign : ∀ n : Fin 256, decide (0 ≤ Lib.indexByte tokSigns ((n.val : Nat) : Int).toNat.toUInt8) = tokSigns.contains ((n.val : Nat) : Int).toNat.toUInt8 := by decide +kernel

theorem bytesOf_range {s : ByteArray} {x : Int} (h : x ∈ bytesOf s) : ∃ n : Fin 256, x = ((n.val : Nat) : Int) := by
  unfold bytesOf at h
  obtain ⟨b, _, rfl⟩ := List.mem_map.1 h
  exact ⟨⟨b.toNat, b.toNat_lt⟩, rfl⟩

set_option maxHeartbeats 1000000 in
theorem tokClosure (x : Int) (hx : ∃ n : Fin 256, x = ((n.val : Nat) : Int)) (W : World) :
    Calls Tryd.prog 48 #[.int .u8 x] W fun e w' => e = .returned (.bool (tokI x)) ∧ w' = W := by
  obtain ⟨n, hn⟩ := hx
  have h1 := tok_low n
  have h2 := tok_sign n
  rw [← hn] at h1 h2
  have hIx : ∀ w, Calls Tryd.prog 49 #[.string ⟨#[33, 35, 36, 37, 38, 39, 42, 43, 45, 46, 94, 95, 96, 124, 126]⟩, .int .u8 x] w fun e w' => e = .returned (.int .i64 (Lib.indexByte tokSigns x.toNat.toUInt8)) ∧ w' = w := fun w => Tryd.strings_IndexByte ⟨#[33, 35, 36, 37, 38, 39, 42, 43, 45, 46, 94, 95, 96, 124, 126]⟩ x w
  have hv : tokI x = ((decide (97 ≤ Go.bits .or .u8 x 32) && decide (Go.bits .or .u8 x 32 ≤ 122)) || (decide (48 ≤ x) && decide (x ≤ 57)) || decide (0 ≤ Lib.indexByte tokSigns x.toNat.toUInt8)) := by
    rw [h1, h2]; unfold tokI; rfl
  rw [hv]
  clear hv h1 h2 hn
  generalize Lib.indexByte tokSigns x.toNat.toUInt8 = ix at hIx ⊢
  have HX := Aside0.mk hIx
  clear hIx
  go_enter Tryd.func48, Tryd.ntmps48
  go_wp2_with (go_at_call 49; refine (HX.out _).mono ?_; rintro e w' ⟨rfl, rfl⟩)
  all_goals go_ret
  all_goals refine ⟨congrArg (fun b => Ending.returned (Value.bool b)) ?_, rfl⟩
  all_goals first | (simp [*]; done) | (rw [Bool.eq_iff_iff]; simp; omega)

theorem tokPred (l : List Int) (hl : ∀ x ∈ l, ∃ n : Fin 256, x = ((n.val : Nat) : Int)) (w : World) : PredOn 48 #[] (.int .u8) tokI l w :=
  fun W x hx _ => (tokClosure x (hl x hx) W).mono fun e w' ⟨he, hw⟩ => ⟨he, by subst hw; exact Below.refl _ _⟩

set_option maxHeartbeats 1000000 in
theorem text_Token.calls (a0 : ByteArray) (r : Bool) (w : World) (h : text_Token.f a0 = some r) :
    Calls Tryd.prog 25 #[.string a0] w fun e w' => e = .returned (.bool r) ∧ Below w.heap.size w w' := by
  unfold text_Token.f at h
  split at h
  · rename_i hs
    have hr := Option.some.inj h
    have hA := all_calls a0 48 #[] (enters_of Tryd.func48 (by kernel_rfl) rfl) tokI w hs (tokPred _ (fun x hx => bytesOf_range hx) w)
    clear h hs
    cases he : a0.data.toList.isEmpty with
    | true =>
      have he' : a0.toList.isEmpty = true := by rw [ByteArray.toList_eq]; exact he
      obtain rfl : r = false := by rw [← hr, he]; rfl
      clear hr hA he
      go_enter Tryd.func25, Tryd.ntmps25
      go_wp2_with fail
      go_ret
      exact ⟨rfl, Below.refl _ _⟩
    | false =>
      have he' : a0.toList.isEmpty = false := by rw [ByteArray.toList_eq]; exact he
      rw [he] at hr
      subst hr
      clear he
      have HA := Aside0.mk hA
      clear hA
      go_enter Tryd.func25, Tryd.ntmps25
      go_wp2_with fail
      refine HA.out.mono ?_
      rintro e w' ⟨rfl, hb⟩
      go_wp2
      go_ret
      exact ⟨rfl, hb⟩
  · exact absurd h (by simp)
end Go.Proofs.YtdofgilfmgdpkaaDoor.P

/- text.Visible: all bytes may be shown. -/
namespace Go.Proofs.YtdofgilfmgdpkaaDoor.P
open Go.RowKit Go.Proofs.YtdofgilfmgdpkaaDoorW.PrintWords Go.Proofs.YtdofgilfmgdpkaaDoorW.PrintLast Go.Proofs.YtdofgilfmgdpkaaDoorW.PrintMore

/-- May a byte be shown? -/
def shownI (c : Int) : Bool := decide (c = 9) || (decide (32 ≤ c) && !decide (c = 127))
def text_Visible.f (a0 : ByteArray) : Option Bool := if a0.size ≤ 9223372036854775807 then some ((bytesOf a0).all shownI) else none

set_option maxHeartbeats 1000000 in
theorem shownClosure (x : Int) (W : World) :
    Calls Tryd.prog 50 #[.int .u8 x] W fun e w' => e = .returned (.bool (shownI x)) ∧ w' = W := by
  unfold shownI
  go_enter Tryd.func50, Tryd.ntmps50
  go_wp2
  all_goals go_ret
  all_goals refine ⟨congrArg (fun b => Ending.returned (Value.bool b)) ?_, rfl⟩
  all_goals first | (simp [*]; done) | (rw [Bool.eq_iff_iff]; simp [*]; done) | (rw [Bool.eq_iff_iff]; simp; omega)

theorem shownPred (l : List Int) (w : World) : PredOn 50 #[] (.int .u8) shownI l w :=
  fun W x _ _ => (shownClosure x W).mono fun e w' ⟨he, hw⟩ => ⟨he, by subst hw; exact Below.refl _ _⟩

set_option maxHeartbeats 1000000 in
theorem text_Visible.calls (a0 : ByteArray) (r : Bool) (w : World) (h : text_Visible.f a0 = some r) :
    Calls Tryd.prog 26 #[.string a0] w fun e w' => e = .returned (.bool r) ∧ Below w.heap.size w w' := by
  unfold text_Visible.f at h
  split at h
  · rename_i hs
    have hA := all_calls a0 50 #[] (enters_of Tryd.func50 (by kernel_rfl) rfl) shownI w hs (shownPred _ w)
    rw [Option.some.inj h] at hA
    have HA := Aside0.mk hA
    clear h hs hA
    go_enter Tryd.func26, Tryd.ntmps26
    go_wp2_with fail
    refine HA.out.mono ?_
    rintro e w' ⟨rfl, hb⟩
    go_wp2
    go_ret
    exact ⟨rfl, hb⟩
  · exact absurd h (by simp)
end Go.Proofs.YtdofgilfmgdpkaaDoor.P
