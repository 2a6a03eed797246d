/- hop.Closes: does what connection says end it? -/
import Derived.Test.YtegdblnalpfndaaDoorFStrs
import Derived.Test.YtegdblnalpfndaaDoorFSame
import Derived.Test.YtegdblnalpfndaaDoorFBulk
set_option linter.unusedVariables false
set_option linter.unusedSimpArgs false
namespace Go.Proofs.YtegdblnalpfndaaDoor.P
open Go.RowKit Go.Proofs.YtegdblnalpfndaaDoorW.PrintWords Go.Proofs.YtegdblnalpfndaaDoorW.PrintLast Go.Proofs.YtegdblnalpfndaaDoorW.PrintMore

def connC : ByteArray := ⟨#[99, 111, 110, 110, 101, 99, 116, 105, 111, 110]⟩
def closeN : ByteArray := ⟨#[99, 108, 111, 115, 101]⟩
def keepN : ByteArray := ⟨#[107, 101, 101, 112, 45, 97, 108, 105, 118, 101]⟩
def saysB (l : List S32) (n : ByteArray) : Bool := (elemsB l connC).any fun x => sameB x n
def closesB (minor : Int) (l : List S32) : Bool := if saysB l closeN = true then true else if saysB l keepN = true then false else minor == 0
def hop_Closes.f (a0 : Int) (l1 : List S32) : Option Bool := if bulkL l1 ≤ 1073741824 then some (closesB a0 l1) else none

set_option maxHeartbeats 1000000 in
theorem isClosure (B : Nat) (n x : ByteArray) (W : World) (hc : W.cell? ⟨B, 0, none⟩ = some (.string n)) (hx : fits63 x = true) (hn : fits63 n = true) :
    Calls Tryd.prog 42 (#[.string x] ++ #[.pointer (some ⟨B, 0, none⟩)]) W fun e w' => e = .returned (.bool (sameB x n)) ∧ Below W.heap.size W w' := by
  have HS := Aside0.mk (sameCalls x n W hx hn)
  go_enter Tryd.func42, Tryd.ntmps42
  go_wp2_with fail
  refine HS.out.mono ?_
  rintro e w' ⟨rfl, hb⟩
  go_wp2
  go_ret
  exact ⟨rfl, hb⟩

set_option maxRecDepth 100000 in
set_option maxHeartbeats 1000000 in
theorem hasClosure (B : Nat) (A : Option Addr) (c : Nat) (l : List S32) (n : ByteArray) (W : World) (hB : W.cell? ⟨B, 0, none⟩ = some (.slice A l.length c)) (hC : Kd.C k32 W A l.length l) (hlc : l.length ≤ c) (hs : bulkL l ≤ 1073741824) (hn : fits63 n = true) :
    Calls Tryd.prog 41 (#[.string n] ++ #[.pointer (some ⟨B, 0, none⟩)]) W fun e w' => e = .returned (.bool (saysB l n)) ∧ Below W.heap.size W w' := by
  have hmf : ∀ (fn : Fn) (first cap : Array Value) (w : World), (Instr.makeFunc fn first cap).run Tryd.prog w = .ok (.func fn first cap) w := fun _ _ _ _ => rfl
  have hW1 : Below W.heap.size W (W.alloc (.cells #[.string n] 9)) := (Below.refl _ W).alloc (Nat.le_refl _) _
  have hsz : (W.alloc (.cells #[.string n] 9)).heap.size = W.heap.size + 1 := by simp
  have hce : (W.alloc (.cells #[.string n] 9)).cell? ⟨W.heap.size, 0, none⟩ = some (.string n) := (blk_cell (blk_new W _) 0).trans rfl
  have hcb := (hW1.cell (p := ⟨B, 0, none⟩) (World.block_lt_of_cell? W _ hB)).trans hB
  obtain ⟨k, hk⟩ := (elements_ev l connC hs (by decide)).rounds
  have HE := Aside0.mk (hop_Elements.calls k A c l connC (elemsB l connC) _ (Kd.C_alloc hC (.cells #[.string n] 9)) hlc hk)
  have HES := Aside0.mk (fun x (hx : x ∈ elemsB l connC) => (show fits63 x = true by unfold fits63; exact decide_eq_true (by have := (elemsB_mem hx).1; omega)))
  have HW1 := Aside0.mk hW1
  have HCE := Aside0.mk (And.intro hsz hce)
  have HN := Aside0.mk hn
  have HCB := Aside0.mk hcb
  clear hB hC hlc hs hn hk hW1 hsz hce hcb
  go_enter Tryd.func41, Tryd.ntmps41
  have hcb := HCB.out
  go_wp2_with fail
  refine HE.out.mono ?_
  rintro e w1 ⟨vE, rfl, hE, hb⟩
  obtain ⟨A', c', rfl, hlc', hC'⟩ := Kd.R_reads hE
  have HB := Aside0.mk (HW1.out.trans (hb.mono HW1.out.size))
  have hc1 : w1.cell? ⟨W.heap.size, 0, none⟩ = some (.string n) := (hb.cell (p := ⟨W.heap.size, 0, none⟩) (by rw [HCE.out.1]; exact Nat.lt_succ_self _)).trans HCE.out.2
  have HC := Aside0.mk (containsStrs A' c' (elemsB l connC) 42 #[.pointer (some ⟨W.heap.size, 0, none⟩)] (enters_of Tryd.func42 (by kernel_rfl) rfl) (fun x => sameB x n) w1 hC' (fun W' x hx hb' => isClosure W.heap.size n x W' ((hb'.cell (p := ⟨W.heap.size, 0, none⟩) (World.block_lt_of_cell? w1 _ hc1)).trans hc1) (HES.out x hx) HN.out))
  clear hE hb hC' hlc' hcb hc1
  go_wp2_with fail
  refine HC.out.mono ?_
  rintro e w2 ⟨rfl, hb⟩
  go_wp2
  go_ret
  exact ⟨rfl, HB.out.trans (hb.mono HB.out.size)⟩

set_option maxRecDepth 100000 in
set_option maxHeartbeats 1000000 in
theorem hop_Closes.calls (a0 : Int) (A1 : Option Addr) (c1 : Nat) (l1 : List S32) (r : Bool) (w : World) (hr1 : Kd.C k32 w A1 l1.length l1) (hc1 : l1.length ≤ c1) (h : hop_Closes.f a0 l1 = some r) :
    Calls Tryd.prog 20 #[.int .i64 a0, .slice A1 l1.length c1] w fun e w' => e = .returned (.bool r) ∧ Below w.heap.size w w' := by
  unfold hop_Closes.f at h
  split at h
  · rename_i hs
    have HR := Aside0.mk (Option.some.inj h)
    have hmf : ∀ (fn : Fn) (first cap : Array Value) (w : World), (Instr.makeFunc fn first cap).run Tryd.prog w = .ok (.func fn first cap) w := fun _ _ _ _ => rfl
    have eg : ∀ args w, (callFunc 41 args).run Tryd.prog w = .ok (.enter 41 args) w := enters_of Tryd.func41 (by kernel_rfl) rfl
    have hW1 : Below w.heap.size w (w.alloc (.cells #[.slice A1 l1.length c1] 22)) := (Below.refl _ w).alloc (Nat.le_refl _) _
    have hce : (w.alloc (.cells #[.slice A1 l1.length c1] 22)).cell? ⟨w.heap.size, 0, none⟩ = some (.slice A1 l1.length c1) := (blk_cell (blk_new w _) 0).trans rfl
    have HH := Aside0.mk (fun (n : ByteArray) (hn : fits63 n = true) (W : World) (hb : Below (w.alloc (.cells #[.slice A1 l1.length c1] 22)).heap.size (w.alloc (.cells #[.slice A1 l1.length c1] 22)) W) => hasClosure w.heap.size A1 c1 l1 n W ((hb.cell (p := ⟨w.heap.size, 0, none⟩) (World.block_lt_of_cell? _ _ hce)).trans hce) (Kd.C_below (Kd.C_alloc hr1 _) hb) hc1 hs hn)
    have HB := Aside0.mk hW1
    unfold closesB at HR
    clear h hs hr1 hc1 hce hW1
    cases h1 : saysB l1 closeN with
    | true =>
      rw [h1, if_pos rfl] at HR
      go_enter Tryd.func20, Tryd.ntmps20
      go_wp2_with fail
      refine (HH.out closeN (by decide) _ (Below.refl _ _)).mono ?_
      rw [h1]
      rintro e w1 ⟨rfl, hb⟩
      go_wp2
      go_ret
      rw [← HR.out]
      exact ⟨rfl, HB.out.trans (hb.mono HB.out.size)⟩
    | false =>
      rw [h1, if_neg (by decide)] at HR
      cases h2 : saysB l1 keepN with
      | true =>
        rw [h2, if_pos rfl] at HR
        go_enter Tryd.func20, Tryd.ntmps20
        go_wp2_with fail
        refine (HH.out closeN (by decide) _ (Below.refl _ _)).mono ?_
        rw [h1]
        rintro e w1 ⟨rfl, hb⟩
        have HB1 := Aside0.mk hb
        clear hb
        go_wp2_with fail
        refine (HH.out keepN (by decide) w1 HB1.out).mono ?_
        rw [h2]
        rintro e w2 ⟨rfl, hb⟩
        go_wp2
        go_ret
        rw [← HR.out]
        exact ⟨rfl, HB.out.trans ((HB1.out.mono HB.out.size).trans (hb.mono (Nat.le_trans HB.out.size HB1.out.size)))⟩
      | false =>
        rw [h2, if_neg (by decide)] at HR
        go_enter Tryd.func20, Tryd.ntmps20
        go_wp2_with fail
        refine (HH.out closeN (by decide) _ (Below.refl _ _)).mono ?_
        rw [h1]
        rintro e w1 ⟨rfl, hb⟩
        have HB1 := Aside0.mk hb
        clear hb
        go_wp2_with fail
        refine (HH.out keepN (by decide) w1 HB1.out).mono ?_
        rw [h2]
        rintro e w2 ⟨rfl, hb⟩
        have HB2 := Aside0.mk hb
        clear hb h1 h2
        go_wp2
        go_ret
        rw [← HR.out]
        exact ⟨rfl, HB.out.trans ((HB1.out.mono HB.out.size).trans (HB2.out.mono (Nat.le_trans HB.out.size HB1.out.size)))⟩
  · exact absurd h (by simp)
end Go.Proofs.YtegdblnalpfndaaDoor.P
