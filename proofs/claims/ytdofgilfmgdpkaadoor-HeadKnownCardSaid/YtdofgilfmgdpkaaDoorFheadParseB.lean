/- head.Parse: the walk, a part. -/
import Derived.Test.YtdofgilfmgdpkaaDoorFheadParseA
set_option linter.unusedVariables false
set_option linter.unusedSimpArgs false
namespace Go.Proofs.YtdofgilfmgdpkaaDoor.P
open Go.RowKit Go.Proofs.YtdofgilfmgdpkaaDoorW.PrintWords Go.Proofs.YtdofgilfmgdpkaaDoorW.PrintLast Go.Proofs.YtdofgilfmgdpkaaDoorW.PrintMore
/-- What holds at a label. -/
def PLab (b : List Int) (R : PR) (k : Nat) (lab : Nat) (pl from' to' : Nat) (c : Int) (l : List S45) (e9 : Int) : Prop :=
  (lab = 0 ∧ pGo b k .line pl from' to' c l = some R) ∨
  (lab = 6 ∧ pGo b k .name pl from' to' c l = some R ∧ from' < pl ∧ isByte c = true ∧ l.length < 32) ∨
  (lab = 4 ∧ pGo b k .value pl from' to' c l = some R ∧ from' + 1 < to' ∧ to' ≤ pl ∧ l.length < 32) ∨
  (lab = 7 ∧ pGo b k .ended pl from' to' c l = some R ∧ from' + 1 < to' ∧ to' + 1 ≤ pl ∧ l.length < 32) ∨
  (lab = 2 ∧ pGo b k .fin pl from' to' c l = some R) ∨
  (lab = 3 ∧ R = ([], 0, 21)) ∨ (lab = 5 ∧ R = ([], 0, 20)) ∨ (lab = 1 ∧ R = ([], 0, e9))
/-- The frame at a label. -/
def PFr (A : Option Addr) (n c0 : Nat) (B : Nat) (v6 : Value) (from' to' : Nat) (e9 : Int) (a : Act) : Prop :=
  ∃ f : Nat → Value, a = { tmps := #[.slice A n c0, undef, .slice none 0 0, .int .i64 0, .int .i64 0, .pointer (some ⟨B, 0, none⟩), v6, .int .i64 (from' : Int), .int .i64 (to' : Int), .int .i64 e9, f 10, f 11, f 12, f 13, f 14, f 15, f 16, f 17, f 18, f 19, f 20, f 21, f 22, f 23, f 24, f 25, f 26, f 27, f 28, f 29, f 30, f 31, f 32, f 33, f 34, f 35, f 36, f 37, f 38, f 39, f 40, f 41, f 42, f 43, f 44, f 45, f 46, f 47, f 48, f 49, f 50, f 51, f 52, f 53, f 54, f 55, f 56, f 57, f 58, f 59, f 60, f 61, f 62, f 63, f 64, f 65, f 66, f 67, f 68, f 69, f 70, f 71, f 72, f 73, f 74, f 75, f 76, f 77, f 78, f 79, f 80, f 81, f 82, f 83, f 84, f 85, f 86, f 87, f 88, f 89, f 90, f 91, f 92, f 93, f 94, f 95, f 96, f 97, f 98, f 99, f 100, f 101, f 102, f 103, f 104, f 105, f 106, f 107, f 108, f 109, f 110, f 111, f 112, f 113, f 114, f 115, f 116, f 117, f 118, f 119, f 120, f 121, f 122, f 123, f 124, f 125, f 126, f 127, f 128, f 129, f 130, f 131, f 132, f 133, f 134, f 135, f 136, f 137, f 138, f 139, f 140, f 141, f 142, f 143], defers := [] }
theorem PFr.of {A : Option Addr} {n c0 : Nat} {B : Nat} {v6 : Value} {from' to' : Nat} {e9 : Int} (a : Act) (f : Nat → Value) (hf : f = fun n => (a.tmps[n]?).getD undef) (h : a = { tmps := #[.slice A n c0, undef, .slice none 0 0, .int .i64 0, .int .i64 0, .pointer (some ⟨B, 0, none⟩), v6, .int .i64 (from' : Int), .int .i64 (to' : Int), .int .i64 e9, f 10, f 11, f 12, f 13, f 14, f 15, f 16, f 17, f 18, f 19, f 20, f 21, f 22, f 23, f 24, f 25, f 26, f 27, f 28, f 29, f 30, f 31, f 32, f 33, f 34, f 35, f 36, f 37, f 38, f 39, f 40, f 41, f 42, f 43, f 44, f 45, f 46, f 47, f 48, f 49, f 50, f 51, f 52, f 53, f 54, f 55, f 56, f 57, f 58, f 59, f 60, f 61, f 62, f 63, f 64, f 65, f 66, f 67, f 68, f 69, f 70, f 71, f 72, f 73, f 74, f 75, f 76, f 77, f 78, f 79, f 80, f 81, f 82, f 83, f 84, f 85, f 86, f 87, f 88, f 89, f 90, f 91, f 92, f 93, f 94, f 95, f 96, f 97, f 98, f 99, f 100, f 101, f 102, f 103, f 104, f 105, f 106, f 107, f 108, f 109, f 110, f 111, f 112, f 113, f 114, f 115, f 116, f 117, f 118, f 119, f 120, f 121, f 122, f 123, f 124, f 125, f 126, f 127, f 128, f 129, f 130, f 131, f 132, f 133, f 134, f 135, f 136, f 137, f 138, f 139, f 140, f 141, f 142, f 143], defers := [] }) : PFr A n c0 B v6 from' to' e9 a := ⟨f, h⟩
/-- What lies in memory at a label. -/
structure PS (b : List Int) (A : Option Addr) (c0 : Nat) (w wr : World) (pl : Nat) (c : Int) (v6 : Value) (l : List S45) : Prop where
  rd : Rd w.heap.size A b.length c0 (pl : Int) c wr
  own : Kd.R k45 45 wr w.heap.size (fun k => k ≠ w.heap.size) v6 l
  below : Below w.heap.size w wr
  at_le : pl ≤ b.length
  num : l.length ≤ 32
/-- What is known of the bytes. -/
structure PC (b : List Int) (A : Option Addr) (c0 : Nat) (w : World) : Prop where
  reads : Kd.C (Kd.int .u8) w A b.length b
  cap : b.length ≤ c0
  small : b.length ≤ 140737488355328
  bytes : b.all isByte = true
def PJ (b : List Int) (R : PR) (A : Option Addr) (c0 : Nat) (w : World) (k : Nat) (lab : Nat) (a : Act) (wr : World) : Prop :=
  ∃ (pl from' to' : Nat) (c : Int) (l : List S45) (v6 : Value) (e9 : Int), PFr A b.length c0 w.heap.size v6 from' to' e9 a ∧ PLab b R k lab pl from' to' c l e9 ∧ PS b A c0 w wr pl c v6 l
/-- What is asked at the end. -/
def PEnd (R : PR) (w : World) : Exit → Act → World → Prop := bodyPost Tryd.prog Tryd.f9 fun e w' => ∃ v0_ : Value, e = .returned (.tuple #[v0_, .int .i64 R.2.1, .int .i64 R.2.2]) ∧ Kd.R k45 45 w' w.heap.size (fun _ => True) v0_ R.1 ∧ Below w.heap.size w w'
/-- What a pass from a label shows. -/
def PPass (b : List Int) (R : PR) (A : Option Addr) (c0 : Nat) (w : World) (k : Nat) (lab : Nat) (a : Act) (wr : World) : Prop :=
  ∃ rest, findLabel parseScope lab = some (.seq .skip rest) ∧ rest.wp Tryd.prog (Exit.jumpsYtdofgilfmgdpkaaDoor (fun l a w' => ∃ g', g' < k ∧ PJ b R A c0 w g' l a w') (PEnd R w)) a wr
/-- What next tells, and leaves. -/
def PNext (b : List Int) (A : Option Addr) (c0 : Nat) (w wr w' : World) (pl : Nat) (c : Int) (v6 : Value) (l : List S45) (e9 : Int) : Prop :=
  (pl = b.length ∧ e9 = 8 ∧ PS b A c0 w w' pl c v6 l) ∨ (pl ≠ b.length ∧ pl = 2048 ∧ e9 = 21 ∧ PS b A c0 w w' pl c v6 l) ∨
  (pl ≠ b.length ∧ pl ≠ 2048 ∧ pl < b.length ∧ e9 = 0 ∧ ∃ x, b.getD pl 0 = x ∧ isByte x = true ∧ PS b A c0 w w' (pl + 1) x v6 l)
theorem Rd.drawn {g : Nat} {A : Option Addr} {n c : Nat} {pl ch : Int} {w w' : World} (h : Rd g A n c pl ch w) (hd : Drawn0 w w') : Rd g A n c pl ch w' := by
  obtain ⟨t, rfl⟩ := hd
  exact h
theorem PS.drawn {b : List Int} {A : Option Addr} {c0 : Nat} {w wr w' : World} {pl : Nat} {c : Int} {v6 : Value} {l : List S45} (h : PS b A c0 w wr pl c v6 l) (hd : Drawn0 wr w') : PS b A c0 w w' pl c v6 l :=
  ⟨h.rd.drawn hd, Kd.R_below h.own hd.below, h.below.trans (hd.below.mono h.below.size), h.at_le, h.num⟩
theorem own_shape {v : Value} {l : List S45} {w : World} {base : Nat} {ok : Nat → Prop} (h : Kd.R k45 45 w base ok v l) : ∃ A c, v = .slice A l.length c := by
  rcases RowF.of_R h with ⟨rfl, rfl⟩ | ⟨g, cap, rfl, _, _⟩
  · exact ⟨none, 0, rfl⟩
  · exact ⟨_, _, rfl⟩
theorem PS.later {b : List Int} {A : Option Addr} {c0 : Nat} {w wr w' : World} {pl : Nat} {c : Int} {v6 : Value} {l : List S45} (h : PS b A c0 w wr pl c v6 l) (hb : Below wr.heap.size wr w') : PS b A c0 w w' pl c v6 l := by
  have hlt : w.heap.size < wr.heap.size := (Array.getElem?_eq_some_iff.1 h.rd).1
  exact ⟨(hb.block _ hlt).trans h.rd, Kd.R_below h.own hb, h.below.trans (hb.mono h.below.size), h.at_le, h.num⟩
theorem PS.grown {b : List Int} {A : Option Addr} {c0 : Nat} {w wr w' : World} {pl : Nat} {c : Int} {v6 v1 : Value} {l : List S45} {p : S45} (h : PS b A c0 w wr pl c v6 l) (hg : wr.grownBy w' v6.ownBlock) (ho : Kd.R k45 45 w' w.heap.size (fun k => k ≠ w.heap.size) v1 (l ++ [p])) (hb : Below w.heap.size w w') (hl : l.length < 32) : PS b A c0 w w' pl c v1 (l ++ [p]) := by
  have hlt : w.heap.size < wr.heap.size := (Array.getElem?_eq_some_iff.1 h.rd).1
  exact ⟨(hg.block _ hlt (fun e => h.own.1 _ e.symm rfl)).trans h.rd, ho, hb, h.at_le, by rw [List.length_append]; exact hl⟩
theorem next_tells {b : List Int} {A : Option Addr} {c0 : Nat} {w wr : World} {pl : Nat} {c : Int} {v6 : Value} {l : List S45} (HC : PC b A c0 w) (h : PS b A c0 w wr pl c v6 l) :
    Calls Tryd.prog 29 #[.pointer (some ⟨w.heap.size, 0, none⟩)] wr fun e w' => ∃ e9 : Int, e = .returned (.int .i64 e9) ∧ PNext b A c0 w wr w' pl c v6 l e9 := by
  have hs := HC.small
  have ha := h.at_le
  by_cases h1 : pl = b.length
  · have hr := h.rd
    rw [h1] at hr
    exact (next_more _ A b.length c0 c wr (by omega) hr).mono fun e w' ⟨he, hd⟩ => ⟨8, he, .inl ⟨h1, rfl, h.drawn hd⟩⟩
  · by_cases h2 : pl = 2048
    · have hr := h.rd
      rw [h2] at hr
      exact (next_big _ A b.length c0 c wr (by omega) (by omega) hr).mono fun e w' ⟨he, hd⟩ => ⟨21, he, .inr (.inl ⟨h1, h2, rfl, h.drawn hd⟩)⟩
    · have hlt : pl < b.length := by omega
      obtain ⟨ad, cs, hA, hcs, hK, hcell⟩ := Kd.C_get HC.reads (0 : Int) (pl : Int) (by omega) (by omega)
      subst hA
      have hK' : cs = [.int .u8 (b.getD pl 0)] := hK
      have hx := hcell 0 (.int .u8 (b.getD pl 0)) (by rw [hK']; rfl)
      have hx' : w.cell? (ad.add pl) = some (.int .u8 (b.getD pl 0)) := by simpa [Kd.int, Kd.scalar] using hx
      have hbl := World.block_lt_of_cell? w _ hx'
      have hx2 := (h.below.cell hbl).trans hx'
      have hmem : b.getD pl 0 ∈ b := by rw [List.getD_eq_getElem?_getD, List.getElem?_eq_getElem hlt]; exact List.getElem_mem hlt
      have hby := List.all_eq_true.1 HC.bytes _ hmem
      refine (next_ok w.heap.size ad b.length c0 pl c (b.getD pl 0) wr (by omega) hlt h2 h.rd hx2 (by rw [show (ad.add pl).block = ad.block by unfold Addr.add; split <;> rfl] at hbl; exact Nat.ne_of_lt hbl)).mono fun e w' ⟨he, hr, hk⟩ => ⟨0, he, .inr (.inr ⟨h1, h2, hlt, rfl, _, rfl, hby, hr, ?_, ?_, hlt, h.num⟩)⟩
      · exact Kd.R_step h.own fun k hk1 hk2 => hk.block k hk2 hk1
      · exact h.below.trans (hk.below (Nat.le_refl _) h.below.size)

set_option maxHeartbeats 4000000 in
set_option maxRecDepth 100000 in
theorem lab_big (b : List Int) (R : PR) (A : Option Addr) (c0 : Nat) (w : World) (k : Nat) (a : Act) (wr : World) (HC : Aside0 (PC b A c0 w)) (fall : FallsYtdofgilfmgdpkaaDoor Tryd.prog parseScope (PJ b R A c0 w) (PEnd R w) (fun g' => g' < k))
    (pl from' to' : Nat) (c : Int) (l : List S45) (v6 : Value) (e9 : Int) (hF : PFr A b.length c0 w.heap.size v6 from' to' e9 a) (HS : Aside0 (PS b A c0 w wr pl c v6 l)) (hp : R = ([], 0, 21)) :
    PPass b R A c0 w k 3 a wr := by
  have FALL := Aside0.mk fall
  clear fall
  refine ⟨_, rfl, ?_⟩
  obtain ⟨f, rfl⟩ := hF
  unfold PEnd
  go_wp2
  refine jumps_retYtdofgilfmgdpkaaDoor ?_
  go_ret3
  obtain rfl := hp
  exact ⟨_, rfl, Kd.R_nil _ _ _ _ _, HS.out.below⟩

set_option maxHeartbeats 4000000 in
set_option maxRecDepth 100000 in
theorem lab_bad (b : List Int) (R : PR) (A : Option Addr) (c0 : Nat) (w : World) (k : Nat) (a : Act) (wr : World) (HC : Aside0 (PC b A c0 w)) (fall : FallsYtdofgilfmgdpkaaDoor Tryd.prog parseScope (PJ b R A c0 w) (PEnd R w) (fun g' => g' < k))
    (pl from' to' : Nat) (c : Int) (l : List S45) (v6 : Value) (e9 : Int) (hF : PFr A b.length c0 w.heap.size v6 from' to' e9 a) (HS : Aside0 (PS b A c0 w wr pl c v6 l)) (hp : R = ([], 0, 20)) :
    PPass b R A c0 w k 5 a wr := by
  have FALL := Aside0.mk fall
  clear fall
  refine ⟨_, rfl, ?_⟩
  obtain ⟨f, rfl⟩ := hF
  unfold PEnd
  go_wp2
  refine jumps_retYtdofgilfmgdpkaaDoor ?_
  go_ret3
  obtain rfl := hp
  exact ⟨_, rfl, Kd.R_nil _ _ _ _ _, HS.out.below⟩

set_option maxHeartbeats 4000000 in
set_option maxRecDepth 100000 in
theorem lab_out (b : List Int) (R : PR) (A : Option Addr) (c0 : Nat) (w : World) (k : Nat) (a : Act) (wr : World) (HC : Aside0 (PC b A c0 w)) (fall : FallsYtdofgilfmgdpkaaDoor Tryd.prog parseScope (PJ b R A c0 w) (PEnd R w) (fun g' => g' < k))
    (pl from' to' : Nat) (c : Int) (l : List S45) (v6 : Value) (e9 : Int) (hF : PFr A b.length c0 w.heap.size v6 from' to' e9 a) (HS : Aside0 (PS b A c0 w wr pl c v6 l)) (hp : R = ([], 0, e9)) :
    PPass b R A c0 w k 1 a wr := by
  have FALL := Aside0.mk fall
  clear fall
  refine ⟨_, rfl, ?_⟩
  obtain ⟨f, rfl⟩ := hF
  unfold PEnd
  go_wp2
  refine jumps_retYtdofgilfmgdpkaaDoor ?_
  go_ret3
  obtain rfl := hp
  exact ⟨_, rfl, Kd.R_nil _ _ _ _ _, HS.out.below⟩

set_option maxHeartbeats 4000000 in
set_option maxRecDepth 100000 in
theorem lab_fin (b : List Int) (R : PR) (A : Option Addr) (c0 : Nat) (w : World) (k : Nat) (a : Act) (wr : World) (HC : Aside0 (PC b A c0 w)) (fall : FallsYtdofgilfmgdpkaaDoor Tryd.prog parseScope (PJ b R A c0 w) (PEnd R w) (fun g' => g' < k))
    (pl from' to' : Nat) (c : Int) (l : List S45) (v6 : Value) (e9 : Int) (hF : PFr A b.length c0 w.heap.size v6 from' to' e9 a) (HS : Aside0 (PS b A c0 w wr pl c v6 l)) (hp : pGo b k .fin pl from' to' c l = some R) :
    PPass b R A c0 w k 2 a wr := by
  have FALL := Aside0.mk fall
  clear fall
  refine ⟨_, rfl, ?_⟩
  obtain ⟨f, rfl⟩ := hF
  match k, hp, FALL with
  | 0, hp, _ => exact absurd hp (by simp [pGo])
  | k + 1, hp, FALL =>
    rw [pGo] at hp
    unfold PEnd
    go_wp2_with fail
    refine (next_tells HC.out HS.out).mono ?_
    rintro e w' ⟨e9', rfl, hN⟩
    rcases hN with ⟨h1, rfl, hS⟩ | ⟨h1, h2, rfl, hS⟩ | ⟨h1, h2, h3, rfl, x, hx, hby, hS⟩
    · rw [if_pos h1] at hp
      have hp := Option.some.inj hp
      go_wp2
      refine wp_goto (Exists.intro k ⟨Nat.lt_succ_self k, _, _, _, _, _, _, _, PFr.of _ _ rfl rfl, .inr (.inr (.inr (.inr (.inr (.inr (.inr ⟨rfl, hp.symm⟩)))))), hS⟩)
    · rw [if_neg h1, if_pos h2] at hp
      have hp := Option.some.inj hp
      go_wp2
      refine wp_goto (Exists.intro k ⟨Nat.lt_succ_self k, _, _, _, _, _, _, _, PFr.of _ _ rfl rfl, .inr (.inr (.inr (.inr (.inr (.inr (.inr ⟨rfl, hp.symm⟩)))))), hS⟩)
    · rw [if_neg h1, if_neg h2] at hp
      simp only [hx] at hp
      have HX := Aside0.mk hx
      have HS' := Aside0.mk hS
      clear HS
      obtain ⟨r0, r1, r2, _, _⟩ := hS.rd.cells
      clear hS hx
      by_cases h4 : x = 10
      · rw [if_pos h4] at hp
        have hp := Option.some.inj hp
        rw [h4] at r2
        go_wp2
        go_quiet (fail)
        go_wp2
        refine jumps_retYtdofgilfmgdpkaaDoor ?_
        go_ret3
        obtain rfl := hp
        exact ⟨_, rfl, Kd.R_mono (HS'.out.drawn ⟨_, rfl⟩).own (fun _ _ => trivial), (HS'.out.drawn ⟨_, rfl⟩).below⟩
      · rw [if_neg h4] at hp
        have hp := Option.some.inj hp
        have e4 : (x == (10 : Int)) = false := beq_eq_false_iff_ne.2 h4
        go_wp2
        go_step3
        go_wp2
        refine jumps_retYtdofgilfmgdpkaaDoor ?_
        go_ret3
        obtain rfl := hp
        exact ⟨_, rfl, Kd.R_nil _ _ _ _ _, (HS'.out).below⟩
end Go.Proofs.YtdofgilfmgdpkaaDoor.P
