/- Contracts of small functions and plain laws, laid together. Conditions: none but those that each theorem names. -/
import Derived.Test.YtepljhleaohbcaaGreatDoorQ0
import Derived.Test.YtepljhleaohbcaaGreatDoorShelf
import Derived.Lib.ConvBytes
import Derived.Lib.LaidTab
import Derived.Lib.ItoaMem
import Derived.Lib.ItoaNum
import Derived.Lib.IndexMore
import Derived.Lib.IndexBytes
import Derived.Lib.IndexAny
import Derived.Shelf.Abstract
set_option linter.unusedVariables false
set_option linter.unusedSimpArgs false

section
/- strings.TrimRight at the cutset "=". -/
namespace Go.Proofs.YtepljhleaohbcaaGreatDoor.P
open Go.RowKit Go.Proofs.YtepljhleaohbcaaGreatDoorW.PrintWords Go.Proofs.YtepljhleaohbcaaGreatDoorW.PrintLast Go.Proofs.YtepljhleaohbcaaGreatDoorW.PrintMore
def strings_TrimRight.f (a0 a1 : ByteArray) : Option ByteArray := if a1.data.toList = [61] ∧ a0.size ≤ 1073741824 then some ⟨(Lib.trimRightB a0.data.toList 61).toArray⟩ else none
theorem strings_TrimRight.calls (a0 a1 r : ByteArray) (w : World) (h : strings_TrimRight.f a0 a1 = some r) :
    Calls Tryz.prog 27 #[.string a0, .string a1] w fun e w' => e = .returned (.string r) ∧ Below w.heap.size w w' := by
  unfold strings_TrimRight.f at h
  split at h
  · rename_i hc0
    obtain ⟨hc, hs⟩ := hc0
    obtain rfl : a1 = ⟨#[61]⟩ := by
      apply ByteArray.ext
      rw [← Array.toList_inj, hc]
    have hr := Option.some.inj h
    subst hr
    refine (Tryz.strings_TrimRight_one a0 61 (by decide) w (by omega)).mono fun e w' ⟨he, hw⟩ => ⟨he, ?_⟩
    subst hw
    exact Below.refl _ _
  · exact absurd h (by simp)
end Go.Proofs.YtepljhleaohbcaaGreatDoor.P
end

section
/- The bytes of a text, just converted, are read. -/
namespace Go.Proofs.YtepljhleaohbcaaGreatDoor.P
open Go.RowKit Go.Proofs.YtepljhleaohbcaaGreatDoorW.PrintWords Go.Proofs.YtepljhleaohbcaaGreatDoorW.PrintLast Go.Proofs.YtepljhleaohbcaaGreatDoorW.PrintMore

theorem reads_bytes (W : World) (s : ByteArray) (hs : s.size ≤ 9223372036854775807) : Kd.C (Kd.int .u8) (Lib.bytesWorld W 5 s) (some ⟨W.heap.size, 0, none⟩) (bytesOf s).length (bytesOf s) := by
  rw [bytesOf_length]
  exact Kd.C_of_reads (d := (0 : Int)) (h1 := fun _ => rfl) (bytes_reads W 5 s hs)
end Go.Proofs.YtepljhleaohbcaaGreatDoor.P
end

section
/- slices.ContainsFunc over bytes, for every predicate that answers at the slice's bytes. -/
namespace Go.Proofs.YtepljhleaohbcaaGreatDoor.P
open Go.RowKit Go.Proofs.YtepljhleaohbcaaGreatDoorW.PrintWords Go.Proofs.YtepljhleaohbcaaGreatDoorW.PrintLast Go.Proofs.YtepljhleaohbcaaGreatDoorW.PrintMore

/-- What is asked of a predicate handed over: at each element, in every later world, it answers and leaves what was. -/
def PredOn (g : Nat) (lb : Array Value) (enc : Int → Value) (p : Int → Bool) (l : List Int) (w : World) : Prop :=
  ∀ (W : World) (x : Int), x ∈ l → Below w.heap.size w W → Calls Tryz.prog g (#[enc x] ++ lb) W fun e w' => e = .returned (.bool (p x)) ∧ Below W.heap.size W w'

set_option maxHeartbeats 1000000 in
theorem indexBytes (A : Option Addr) (c : Nat) (l : List Int) (g : Nat) (lb : Array Value) (eg : ∀ args w, (callFunc g args).run Tryz.prog w = .ok (.enter g args) w) (p : Int → Bool) (w : World)
    (hr : Kd.C (Kd.int .u8) w A l.length l) (hp : PredOn g lb (.int .u8) p l w) :
    Calls Tryz.prog 51 #[.slice A l.length c, .func (.func g) #[] lb] w fun e w' => ∃ i : Int, e = .returned (.int .i64 i) ∧ Aside0 (decide (0 ≤ i) = l.any p) ∧ Below w.heap.size w w' := by
  have hm : l.length ≤ 9223372036854775807 := hr.2.1
  have HR := Aside0.mk hr
  clear hr
  go_enter Tryz.func51, Tryz.ntmps51
  go_wp2
  go_loopg [5, 8] l.length (fun gg _ s8 wr => ∃ kk : Nat, kk ≤ l.length ∧ l.length - kk ≤ gg ∧ s8 = .int .i64 kk ∧ Aside0 (Below w.heap.size w wr) ∧ Aside0 ((l.take kk).any p = false))
  case atStart => exact ⟨0, Nat.zero_le _, by omega, rfl, ⟨Below.refl _ w⟩, ⟨by simp⟩⟩
  case round =>
    obtain ⟨kk, hkk, hg, rfl, BW, AN⟩ := hrel
    by_cases hlt : kk < l.length
    · have hltz : (kk : Int) < (l.length : Int) := by omega
      obtain ⟨ad, cs, hA, hcs, hK, hcell⟩ := Kd.C_get HR.out (0 : Int) (kk : Int) (by omega) hltz
      subst hA
      have hK' : cs = [.int .u8 (l.getD kk 0)] := hK
      have hx := hcell 0 (.int .u8 (l.getD kk 0)) (by rw [hK']; rfl)
      have hx' : w.cell? (ad.add kk) = some (.int .u8 (l.getD kk 0)) := by simpa [Kd.int, Kd.scalar] using hx
      have l2 := (BW.out.cell (World.block_lt_of_cell? w _ hx')).trans hx'
      clear hcell hK hK' hx hx' hcs
      have hmem : l.getD kk 0 ∈ l := by rw [List.getD_eq_getElem?_getD, List.getElem?_eq_getElem hlt]; exact List.getElem_mem hlt
      have hcall := hp wr (l.getD kk 0) hmem BW.out
      have hsn : l.take (kk + 1) = l.take kk ++ [l.getD kk 0] := by
        rw [List.take_succ_eq_append_getElem hlt, List.getD_eq_getElem?_getD, List.getElem?_eq_getElem hlt]; rfl
      have HSN := Aside0.mk hsn
      clear hsn hp
      generalize l.getD kk 0 = y at l2 hcall hmem HSN
      cases hq : p y with
      | true =>
        rw [hq] at hcall
        have HQ := Aside0.mk hq
        clear hq
        go_wp2_with fail
        refine hcall.mono ?_
        rintro e w' ⟨rfl, hb'⟩
        go_wp2
        go_ret
        refine ⟨_, rfl, ⟨?_⟩, BW.out.trans (hb'.mono BW.out.size)⟩
        have : l.any p = true := by
          rw [List.any_eq_true]
          exact ⟨y, hmem, HQ.out⟩
        rw [this]
        simp
      | false =>
        rw [hq] at hcall
        have HQ := Aside0.mk hq
        clear hq
        go_wp2_with fail
        refine hcall.mono ?_
        rintro e w' ⟨rfl, hb'⟩
        go_wp2
        go_roundg (l.length - (kk + 1))
        case measure => omega
        case rel => exact ⟨kk + 1, by omega, by omega, by go_num, ⟨BW.out.trans (hb'.mono BW.out.size)⟩, ⟨by rw [HSN.out, List.any_append, AN.out]; simp [HQ.out]⟩⟩
    · have hltz : ¬ (kk : Int) < (l.length : Int) := by omega
      have hkl : kk = l.length := by omega
      have HN := Aside0.mk (show l.any p = false by have := AN.out; rwa [hkl, List.take_length] at this)
      subst hkl
      go_wp2
      go_ret
      exact ⟨_, rfl, ⟨by rw [HN.out]; rfl⟩, BW.out⟩
end Go.Proofs.YtepljhleaohbcaaGreatDoor.P
end

section
/- slices.ContainsFunc over bytes, for every predicate that answers at the slice's bytes. -/
namespace Go.Proofs.YtepljhleaohbcaaGreatDoor.P
open Go.RowKit Go.Proofs.YtepljhleaohbcaaGreatDoorW.PrintWords Go.Proofs.YtepljhleaohbcaaGreatDoorW.PrintLast Go.Proofs.YtepljhleaohbcaaGreatDoorW.PrintMore

theorem containsBytes (A : Option Addr) (c : Nat) (l : List Int) (g : Nat) (lb : Array Value) (eg : ∀ args w, (callFunc g args).run Tryz.prog w = .ok (.enter g args) w) (p : Int → Bool) (w : World)
    (hr : Kd.C (Kd.int .u8) w A l.length l) (hp : PredOn g lb (.int .u8) p l w) :
    Calls Tryz.prog 30 #[.slice A l.length c, .func (.func g) #[] lb] w fun e w' => e = .returned (.bool (l.any p)) ∧ Below w.heap.size w w' := by
  go_enter Tryz.func30, Tryz.ntmps30
  go_wp2_with fail
  refine (indexBytes A c l g lb eg p w hr hp).mono ?_
  rintro e w' ⟨i, rfl, hi, hb⟩
  go_wp2
  go_ret
  refine ⟨?_, hb⟩
  rw [← hi.out]
  rfl
end Go.Proofs.YtepljhleaohbcaaGreatDoor.P
end

section
/- What library variables hold: the powers of ten, the longest search, the two sentinels of strconv; and it stays. (Laid as FTab in seat 06.) -/
namespace Go.Proofs.YtepljhleaohbcaaGreatDoor.P
open Go.RowKit Go.Proofs.YtepljhleaohbcaaGreatDoorW.PrintWords Go.Proofs.YtepljhleaohbcaaGreatDoorW.PrintLast Go.Proofs.YtepljhleaohbcaaGreatDoorW.PrintMore

def Sent (w : World) (n : String) : Prop := ∃ tp p, w.var? Tryz.prog n = some #[.iface tp p]
def Tab (w : World) : Prop := Lib.TabIs Tryz.prog w "internal/strconv.uint64pow10" .u64 Lib.pow10Tab ∧ (∃ m, w.cell? ⟨0, 0, none⟩ = some (.int .i64 m)) ∧ Sent w "strconv.ErrSyntax" ∧ Sent w "strconv.ErrRange"
theorem tab_global2 : Tryz.prog.globalNamed "internal/strconv.uint64pow10" = some 5 := by kernel_rfl
theorem tab_global3 : Tryz.prog.globalNamed "strconv.ErrSyntax" = some 3 := by kernel_rfl
theorem tab_global4 : Tryz.prog.globalNamed "strconv.ErrRange" = some 4 := by kernel_rfl
theorem Sent.lt {w : World} {n : String} {g : Nat} (hg : Tryz.prog.globalNamed n = some g) (h : Sent w n) : g < w.heap.size := by
  obtain ⟨tp, p, h⟩ := h
  unfold World.var? at h
  simp only [hg, Option.bind_some] at h
  rcases Nat.lt_or_ge g w.heap.size with h' | h'
  · exact h'
  · simp [Array.getElem?_eq_none h'] at h
theorem Sent.same {w W : World} {n : String} {g : Nat} (hg : Tryz.prog.globalNamed n = some g) (h : Sent w n) (e : W.heap[g]? = w.heap[g]?) : Sent W n := by
  obtain ⟨tp, p, h⟩ := h
  refine ⟨tp, p, ?_⟩
  unfold World.var? at *
  simp only [hg, Option.bind_some] at h ⊢
  rw [e]
  exact h
theorem tabIs_same {w W : World} {name : String} {k : IntKind} {zs : List Int} {g : Nat} (hg : Tryz.prog.globalNamed name = some g) (h : Lib.TabIs Tryz.prog w name k zs) (e : W.heap[g]? = w.heap[g]?) : Lib.TabIs Tryz.prog W name k zs := by
  unfold Lib.TabIs World.var? at *
  simp only [hg, Option.bind_some] at h ⊢
  rw [e]
  exact h
theorem Tab.lt {w : World} (h : Tab w) : (5 : Nat) < w.heap.size ∧ (0 : Nat) < w.heap.size ∧ (3 : Nat) < w.heap.size ∧ (4 : Nat) < w.heap.size :=
  ⟨World.block_lt_of_cell? w _ (Lib.TabIs.cell h.1 tab_global2 0 (by decide)), h.2.1.elim fun _ hm => World.block_lt_of_cell? w _ hm, Sent.lt tab_global3 h.2.2.1, Sent.lt tab_global4 h.2.2.2⟩
theorem Tab.same {w W : World} (h : Tab w) (e : ∀ g, g = (5 : Nat) ∨ g = (0 : Nat) ∨ g = (3 : Nat) ∨ g = (4 : Nat) → W.heap[g]? = w.heap[g]?) : Tab W :=
  ⟨tabIs_same tab_global2 h.1 (e _ (.inl rfl)), h.2.1.elim fun m hm => ⟨m, by rw [World.cell?] at hm ⊢; rw [e _ (.inr (.inl rfl))]; exact hm⟩, h.2.2.1.same tab_global3 (e _ (.inr (.inr (.inl rfl)))), h.2.2.2.same tab_global4 (e _ (.inr (.inr (.inr rfl))))⟩
theorem Tab.below {w W : World} (h : Tab w) (hb : Below w.heap.size w W) : Tab W := h.same fun g hg => hb.block g (by
  obtain ⟨h1, h2, h3, h4⟩ := h.lt
  rcases hg with rfl | rfl | rfl | rfl <;> assumption)
theorem Tab.alloc {w : World} (h : Tab w) (o : Obj) : Tab (w.alloc o) := h.below (below_alloc (Below.refl _ _) o)
theorem Tab.drewN {w : World} (h : Tab w) (n : Nat) : Tab (w.drewN n) := h.same fun _ _ => rfl
theorem Tab.drew {w : World} (h : Tab w) : Tab w.drew := h.same fun _ _ => rfl
theorem Tab.set {w0 w : World} {p : Addr} (h : Tab w) (h0 : Tab w0) (hp : w0.heap.size ≤ p.block) (v : Value) : Tab (w.setCell p v) :=
  h.same fun g hg => Below.heap_setCell w p v _ (fun e => by
    obtain ⟨h1, h2, h3, h4⟩ := h0.lt
    rcases hg with rfl | rfl | rfl | rfl <;> omega)
end Go.Proofs.YtepljhleaohbcaaGreatDoor.P
end

section
/- strings.TrimLeft at the cutset " " (lay as FstringsTrimLeft in seat 15). -/
namespace Go.Proofs.YtepljhleaohbcaaGreatDoor.P
open Go.RowKit Go.Proofs.YtepljhleaohbcaaGreatDoorW.PrintWords Go.Proofs.YtepljhleaohbcaaGreatDoorW.PrintLast Go.Proofs.YtepljhleaohbcaaGreatDoorW.PrintMore
def strings_TrimLeft.f (a0 a1 : ByteArray) : Option ByteArray := if a1.data.toList = [32] then some ⟨(Lib.trimLeftB a0.data.toList 32).toArray⟩ else none
theorem strings_TrimLeft.calls (a0 a1 r : ByteArray) (w : World) (h : strings_TrimLeft.f a0 a1 = some r) :
    Calls Tryz.prog 32 #[.string a0, .string a1] w fun e w' => e = .returned (.string r) ∧ Below w.heap.size w w' := by
  unfold strings_TrimLeft.f at h
  split at h
  · rename_i hc
    obtain rfl : a1 = ⟨#[32]⟩ := by
      apply ByteArray.ext
      rw [← Array.toList_inj, hc]
    have hr := Option.some.inj h
    subst hr
    refine (Tryz.strings_TrimLeft_one a0 32 (by decide) w).mono fun e w' ⟨he, hw⟩ => ⟨he, ?_⟩
    subst hw
    exact Below.refl _ _
  · exact absurd h (by simp)
end Go.Proofs.YtepljhleaohbcaaGreatDoor.P
end

section
/- Texts cut at their first byte of a kind. -/
namespace Go.Proofs.YtepljhleaohbcaaGreatDoor.P
open Go

/-- What stands ahead of the first byte c, what behind it; is there one? -/
def cut1 (c : UInt8) : List UInt8 → List UInt8 × List UInt8 × Bool
  | [] => ([], [], false)
  | b :: l => if b = c then ([], l, true) else (b :: (cut1 c l).1, (cut1 c l).2.1, (cut1 c l).2.2)
theorem cut_one (c : UInt8) : ∀ s : List UInt8, Lib.cut s [c] = cut1 c s
  | [] => by
    have : Lib.index [] [c] = -1 := by simp [Lib.index]
    rw [Lib.cut, this, if_neg (by decide)]; rfl
  | b :: l => by
    have ih := cut_one c l
    rw [cut1, ← ih]
    unfold Lib.cut
    rw [Lib.index_one, Lib.index_one]
    have hge : -1 ≤ Lib.indexByte l c := by have := Lib.index_ge l [c]; rw [Lib.index_one] at this; exact this
    by_cases hb : b = c
    · subst hb
      have : Lib.indexByte (b :: l) b = 0 := by simp [Lib.indexByte]
      rw [this, if_pos (by decide), if_pos rfl]; rfl
    · rw [if_neg hb]
      by_cases hn : Lib.indexByte l c = -1
      · have : Lib.indexByte (b :: l) c = -1 := by simp [Lib.indexByte, hb, hn]
        rw [this, hn, if_neg (by decide), if_neg (by decide)]
      · have e : Lib.indexByte (b :: l) c = Lib.indexByte l c + 1 := by simp [Lib.indexByte, hb, hn]
        rw [e, if_pos (by omega), if_pos (by omega)]
        obtain ⟨i, hi⟩ : ∃ i : Nat, Lib.indexByte l c = i := ⟨(Lib.indexByte l c).toNat, by omega⟩
        rw [hi]
        have e1 : ((i : Int) + 1).toNat = i + 1 := by omega
        have e2 : (i : Int).toNat = i := by omega
        rw [e1, e2]
        have e3 : i + 1 + [c].length = (i + [c].length) + 1 := by simp
        rw [e3, List.take_succ_cons, List.drop_succ_cons]
theorem cut1_none (c : UInt8) : ∀ l : List UInt8, c ∉ l → cut1 c l = (l, [], false)
  | [], _ => rfl
  | b :: l, h => by
    simp only [List.mem_cons, not_or] at h
    rw [cut1, if_neg (fun e => h.1 e.symm), cut1_none c l h.2]
theorem cut1_app (c : UInt8) (y : List UInt8) : ∀ x : List UInt8, c ∉ x → cut1 c (x ++ c :: y) = (x, y, true)
  | [], _ => by rw [List.nil_append, cut1, if_pos rfl]
  | b :: x, h => by
    simp only [List.mem_cons, not_or] at h
    rw [List.cons_append, cut1, if_neg (fun e => h.1 e.symm), cut1_app c y x h.2]
theorem cut1_le (c : UInt8) : ∀ l : List UInt8, (cut1 c l).1.length ≤ l.length ∧ (cut1 c l).2.1.length ≤ l.length ∧ (cut1 c l).1.length + (cut1 c l).2.1.length ≤ l.length
  | [] => by simp [cut1]
  | b :: l => by
    have := cut1_le c l
    rw [cut1]
    split
    · simp
    · simp only [List.length_cons]; omega
end Go.Proofs.YtepljhleaohbcaaGreatDoor.P
end

section
/- strings.Cut at a separator of one byte. -/
namespace Go.Proofs.YtepljhleaohbcaaGreatDoor.P
open Go.RowKit Go.Proofs.YtepljhleaohbcaaGreatDoorW.PrintWords Go.Proofs.YtepljhleaohbcaaGreatDoorW.PrintLast Go.Proofs.YtepljhleaohbcaaGreatDoorW.PrintMore

def strings_Cut.f (a0 a1 : ByteArray) : Option (ByteArray × ByteArray × Bool) := if a0.size ≤ 1073741824 ∧ a1.size = 1 then some (⟨(cut1 (a1.get! 0) a0.data.toList).1.toArray⟩, ⟨(cut1 (a1.get! 0) a0.data.toList).2.1.toArray⟩, (cut1 (a1.get! 0) a0.data.toList).2.2) else none
theorem strings_Cut.calls (a0 a1 r1 r2 : ByteArray) (r3 : Bool) (w : World) (hT : Tab w) (h : strings_Cut.f a0 a1 = some (r1, r2, r3)) :
    Calls Tryz.prog 31 #[.string a0, .string a1] w fun e w' => e = .returned (.tuple #[.string r1, .string r2, .bool r3]) ∧ Below w.heap.size w w' := by
  unfold strings_Cut.f at h
  split at h
  · rename_i hc
    obtain ⟨c, rfl⟩ := Lib.one_byte a1 hc.2
    have hr := Option.some.inj h
    have e0 : (⟨#[c]⟩ : ByteArray).get! 0 = c := rfl
    rw [e0, Prod.mk.injEq, Prod.mk.injEq] at hr
    obtain ⟨m, hm⟩ := hT.2.1
    refine (Tryz.strings_Cut a0 ⟨#[c]⟩ m w (by omega) hm).mono ?_
    rintro e w' ⟨rfl, n, rfl⟩
    have e1 : Lib.cut a0.data.toList (⟨#[c]⟩ : ByteArray).data.toList = cut1 c a0.data.toList := cut_one c _
    rw [e1, hr.1, hr.2.1, hr.2.2]
    exact ⟨rfl, pw_below_drewN (Below.refl _ _) _⟩
  · exact absurd h (by simp)
end Go.Proofs.YtepljhleaohbcaaGreatDoor.P
end

section
/- auth.May: may a text be a token? -/
namespace Go.Proofs.YtepljhleaohbcaaGreatDoor.P
open Go.RowKit Go.Proofs.YtepljhleaohbcaaGreatDoorW.PrintWords Go.Proofs.YtepljhleaohbcaaGreatDoorW.PrintLast Go.Proofs.YtepljhleaohbcaaGreatDoorW.PrintMore

def authLow (x : Int) : Int := bits BinOp.or IntKind.u8 x 32
def authSigns : List UInt8 := [45, 46, 95, 126, 43, 47]
/-- A byte that may not stand in a token? -/
def badI (x : Int) : Bool := (decide (authLow x < 97) || decide (122 < authLow x)) && ((decide (x < 48) || decide (57 < x)) && decide (Lib.indexByte authSigns x.toNat.toUInt8 < 0))
set_option maxHeartbeats 2000000 in
theorem badClosure (x : Int) (W : World) : Calls Tryz.prog 28 #[.int .u8 x] W fun e w' => e = .returned (.bool (badI x)) ∧ w' = W := by
  have hIx : ∀ w, Calls Tryz.prog 29 #[.string ⟨#[45, 46, 95, 126, 43, 47]⟩, .int .u8 x] w fun e w' => e = .returned (.int .i64 (Lib.indexByte authSigns x.toNat.toUInt8)) ∧ w' = w := fun w => Tryz.strings_IndexByte ⟨#[45, 46, 95, 126, 43, 47]⟩ x w
  unfold badI authLow
  generalize Lib.indexByte authSigns x.toNat.toUInt8 = ix at hIx ⊢
  have HX := Aside0.mk hIx
  clear hIx
  go_enter Tryz.func28, Tryz.ntmps28
  go_wp2_with (go_at_call 29; refine (HX.out _).mono ?_; rintro e w' ⟨rfl, rfl⟩)
  all_goals go_ret
  all_goals refine ⟨congrArg (fun b => Ending.returned (Value.bool b)) ?_, rfl⟩
  all_goals first | (simp [*]; done) | (rw [Bool.eq_iff_iff]; simp [*]; done) | (rw [Bool.eq_iff_iff]; simp; omega) | (simp; omega)
def auth_May.f (a0 : ByteArray) : Option Bool := if a0.size ≤ 1073741824 then some (!(Lib.trimRightB a0.data.toList 61).isEmpty && (decide (a0.size ≤ 64) && !((bytesOf ⟨(Lib.trimRightB a0.data.toList 61).toArray⟩).any badI))) else none
set_option maxHeartbeats 4000000 in
theorem auth_May.calls (a0 : ByteArray) (r : Bool) (w : World) (h : auth_May.f a0 = some r) :
    Calls Tryz.prog 13 #[.string a0] w fun e w' => e = .returned (.bool r) ∧ Below w.heap.size w w' := by
  unfold auth_May.f at h
  split at h
  · rename_i hs
    have hr := Option.some.inj h
    clear h
    have hle : (Lib.trimRightB a0.data.toList 61).length ≤ 1073741824 := by
      unfold Lib.trimRightB
      have h1 := (List.dropWhile_sublist (fun x : UInt8 => x == 61) (l := a0.data.toList.reverse)).length_le
      have h3 : a0.data.toList.length = a0.size := by rw [Array.length_toList]; rfl
      have h5 : a0.data.toList.reverse.length = a0.data.toList.length := by simp
      rw [h5] at h1
      rw [List.length_reverse]
      omega
    have HT1 := Aside0.mk (strings_TrimRight.calls a0 ⟨#[61]⟩ ⟨(Lib.trimRightB a0.data.toList 61).toArray⟩ w (by unfold strings_TrimRight.f; rw [if_pos ⟨rfl, hs⟩]))
    generalize Lib.trimRightB a0.data.toList 61 = b at hr hle HT1
    have hz : (⟨b.toArray⟩ : ByteArray).size ≤ 9223372036854775807 := by
      rw [show (⟨b.toArray⟩ : ByteArray).size = b.length by simp [ByteArray.size]]; omega
    have kc := fun W => Lib.run_convert_string_bytes (P := Tryz.prog) W 9 42 5 ⟨b.toArray⟩ Tryz.underlying9 Tryz.underlying42 Tryz.underlying5
    have eg : ∀ args w, (callFunc 28 args).run Tryz.prog w = .ok (.enter 28 args) w := enters_of Tryz.func28 (by kernel_rfl) rfl
    have HC := Aside0.mk (fun W : World => containsBytes (some ⟨W.heap.size, 0, none⟩) (grownCap W (⟨b.toArray⟩ : ByteArray).size 0 5) (bytesOf ⟨b.toArray⟩) 28 #[] eg badI (Lib.bytesWorld W 5 ⟨b.toArray⟩) (reads_bytes W ⟨b.toArray⟩ hz) (fun W2 x _ _ => (badClosure x W2).mono fun e w' ⟨he, hw⟩ => ⟨he, by subst hw; exact Below.refl _ _⟩))
    have HK := Aside0.mk (fun W : World => bytes_below (Below.refl W.heap.size W) (Nat.le_refl _) 5 (⟨b.toArray⟩ : ByteArray))
    rw [bytesOf_length] at HC
    have HR := Aside0.mk hr
    clear hr hle eg
    go_enter Tryz.func13, Tryz.ntmps13
    go_wp2_with (first | (go_at_call 27; refine HT1.out.mono ?_; rintro e w1 ⟨rfl, hb⟩; have HB := Aside0.mk hb; clear hb) | (go_at_call 30; refine (HC.out _).mono ?_; rintro e w2 ⟨rfl, hb⟩; have n_ := Aside0.mk (below_step HB.out (below_step (HK.out _) hb)); clear HB hb; have HB := n_; clear n_))
    all_goals go_ret
    all_goals refine ⟨congrArg (fun b => Ending.returned (Value.bool b)) ?_, HB.out⟩
    all_goals have hR := HR.out
    all_goals rw [← hR]
    all_goals clear hR HR HC HK HT1 HB kc hz
    all_goals first
      | (have h64 : decide (a0.size ≤ 64) = true := decide_eq_true (by omega); rw [h64]; simp [*]; done)
      | (have h64 : decide (a0.size ≤ 64) = false := decide_eq_false (by omega); rw [h64]; simp [*]; done)
      | (simp [*]; done)
  · exact absurd h (by simp)
end Go.Proofs.YtepljhleaohbcaaGreatDoor.P
end
