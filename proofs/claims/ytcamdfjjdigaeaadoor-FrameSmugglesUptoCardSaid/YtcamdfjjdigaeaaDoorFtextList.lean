/- text.List: the walk. -/
import Derived.Test.YtcamdfjjdigaeaaDoorFListP
import Derived.Lib.OthersKept
import Derived.WalkSpells
set_option linter.unusedVariables false
set_option linter.unusedSimpArgs false
namespace Go.Proofs.YtcamdfjjdigaeaaDoor.P
open Go.RowKit Go.Proofs.YtcamdfjjdigaeaaDoorW.PrintWords Go.Proofs.YtcamdfjjdigaeaaDoorW.PrintLast Go.Proofs.YtcamdfjjdigaeaaDoorW.PrintMore

def text_List.f (a0 : ByteArray) : Option (List ByteArray) := if a0.size ≤ 4398046511104 then some (listB a0) else none

/-- What lies in memory: the text, where the element begins, what was listed. -/
structure LsMem (w0 : World) (Bs Bf Bl Bi : Nat) (s : ByteArray) (fr : Nat) (v : Value) (acc : List ByteArray) (W : World) : Prop where
  bs : W.heap[Bs]? = some (.cells #[.string s] 9 (0, 0))
  bf : W.heap[Bf]? = some (.cells #[.int .i64 fr] 3 (0, 0))
  bl : W.heap[Bl]? = some (.cells #[v] 42 (0, 0))
  row : Kd.R Kd.string 9 W w0.heap.size (fun k => k ≠ Bs ∧ k ≠ Bf ∧ k ≠ Bl ∧ k ≠ Bi) v acc
  below : Below w0.heap.size w0 W
  gs : w0.heap.size ≤ Bs
  gf : w0.heap.size ≤ Bf
  gl : w0.heap.size ≤ Bl
  ne1 : Bs ≠ Bf
  ne2 : Bs ≠ Bl
  ne3 : Bf ≠ Bl
theorem LsMem.later {w0 W W1 : World} {Bs Bf Bl Bi fr : Nat} {s : ByteArray} {v : Value} {acc : List ByteArray} (M : LsMem w0 Bs Bf Bl Bi s fr v acc W) (hb : Below W.heap.size W W1) : LsMem w0 Bs Bf Bl Bi s fr v acc W1 :=
  ⟨(hb.block Bs (blk_lt M.bs)).trans M.bs, (hb.block Bf (blk_lt M.bf)).trans M.bf, (hb.block Bl (blk_lt M.bl)).trans M.bl, Kd.R_below M.row hb, M.below.trans (hb.mono M.below.size), M.gs, M.gf, M.gl, M.ne1, M.ne2, M.ne3⟩
theorem LsMem.setFrom {w0 W : World} {Bs Bf Bl Bi fr : Nat} {s : ByteArray} {v : Value} {acc : List ByteArray} (M : LsMem w0 Bs Bf Bl Bi s fr v acc W) (n : Nat) : LsMem w0 Bs Bf Bl Bi s n v acc (W.setCell ⟨Bf, 0, none⟩ (.int .i64 n)) :=
  ⟨blk_far M.bs M.ne1 _, (blk_set M.bf 0 _).trans (by simp), blk_far M.bl M.ne3.symm _, Kd.R_far M.row (fun k hk => hk.2.1) _, M.below.setCell M.gf _, M.gs, M.gf, M.gl, M.ne1, M.ne2, M.ne3⟩
theorem LsMem.setList {w0 W W1 : World} {Bs Bf Bl Bi fr : Nat} {s : ByteArray} {v v1 : Value} {acc l1 : List ByteArray} (M : LsMem w0 Bs Bf Bl Bi s fr v acc W) (hg : W.grownBy W1 v.ownBlock) (hb : Below w0.heap.size w0 W1) (ho : Kd.R Kd.string 9 W1 w0.heap.size (fun k => k ≠ Bs ∧ k ≠ Bf ∧ k ≠ Bl ∧ k ≠ Bi) v1 l1) : LsMem w0 Bs Bf Bl Bi s fr v1 l1 (W1.setCell ⟨Bl, 0, none⟩ v1) := by
  have k := M.row.1
  have n1 : some Bs ≠ v.ownBlock := fun e => (k Bs e.symm).1 rfl
  have n2 : some Bf ≠ v.ownBlock := fun e => (k Bf e.symm).2.1 rfl
  have n3 : some Bl ≠ v.ownBlock := fun e => (k Bl e.symm).2.2.1 rfl
  exact ⟨blk_far (blk_grown M.bs hg n1) M.ne2 _, blk_far (blk_grown M.bf hg n2) M.ne3 _, (blk_set (blk_grown M.bl hg n3) 0 _).trans (by simp), Kd.R_far ho (fun k hk => hk.2.2.1) _, hb.setCell M.gl _, M.gs, M.gf, M.gl, M.ne1, M.ne2, M.ne3⟩

theorem lsEnd_cases (s : ByteArray) (acc : List ByteArray) (b e : Nat) : ((trimB (s.extract b e)).toList.isEmpty = true → lsEnd s acc b e = acc) ∧ ((trimB (s.extract b e)).toList.isEmpty = false → lsEnd s acc b e = acc ++ [trimB (s.extract b e)]) := by
  unfold lsEnd
  rw [ByteArray.toList_eq]
  exact ⟨fun h => by rw [h]; rfl, fun h => by rw [h]; rfl⟩
/-- What the closure leaves. -/
def LsAfter (w0 : World) (Bs Bf Bl Bi : Nat) (s : ByteArray) (fr tt pos : Nat) (acc : List ByteArray) (w' : World) : Prop := ∃ v' : Value, LsMem w0 Bs Bf Bl Bi s (tt + 1) v' (lsEnd s acc fr tt) w' ∧ w'.heap[Bi]? = some (.stringIter s pos)

set_option maxRecDepth 100000 in
set_option maxHeartbeats 2000000 in
theorem listEnd (w0 : World) (Bs Bf Bl Bi : Nat) (s : ByteArray) (fr tt pos : Nat) (v : Value) (acc : List ByteArray) (W : World) (M : LsMem w0 Bs Bf Bl Bi s fr v acc W) (hi : W.heap[Bi]? = some (.stringIter s pos)) (h1 : fr ≤ tt) (h2 : tt ≤ s.size) (hs : s.size ≤ 4398046511104) (ha : acc.length ≤ s.size) :
    Calls Tryd.prog 76 (#[.int .i64 tt] ++ #[.pointer (some ⟨Bs, 0, none⟩), .pointer (some ⟨Bf, 0, none⟩), .pointer (some ⟨Bl, 0, none⟩)]) W fun e w' => e = .returned (.tuple #[]) ∧ LsAfter w0 Bs Bf Bl Bi s fr tt pos acc w' := by
  have c0 : W.cell? ⟨Bs, 0, none⟩ = some (.string s) := (blk_cell M.bs 0).trans rfl
  have c1 : W.cell? ⟨Bf, 0, none⟩ = some (.int .i64 fr) := (blk_cell M.bf 0).trans rfl
  have hTr : text_Trim.f (s.extract fr tt) = some (trimB (s.extract fr tt)) := by
    unfold text_Trim.f; rw [if_pos (by rw [ByteArray.size_extract]; omega)]
  have HT := Aside0.mk hTr
  have HM := Aside0.mk M
  have HI := Aside0.mk hi
  have HL := Aside0.mk (And.intro h1 (And.intro h2 (And.intro hs ha)))
  have j1 : (fr : Int) ≤ (tt : Int) := by omega
  have j2 : (tt : Int) ≤ (s.size : Int) := by omega
  clear hTr M hi h1 h2 hs ha
  go_enter Tryd.func76, Tryd.ntmps76
  go_wp2_with fail
  refine (text_Trim.calls _ _ _ HT.out).mono ?_
  rintro e w1 ⟨rfl, hb⟩
  have HM1 := Aside0.mk (HM.out.later hb)
  have HI1 := Aside0.mk ((hb.block Bi (blk_lt HI.out)).trans HI.out)
  clear HM HI hb c0 c1
  have f1 := blk_frozen HM1.out.bf 0
  have f2 := blk_frozen HM1.out.bl 0
  have c1 : w1.cell? ⟨Bf, 0, none⟩ = some (.int .i64 fr) := (blk_cell HM1.out.bf 0).trans rfl
  have c2 : w1.cell? ⟨Bl, 0, none⟩ = some v := (blk_cell HM1.out.bl 0).trans rfl
  have HE := Aside0.mk (lsEnd_cases s acc fr tt)
  obtain ⟨n1, n2, n3, n4⟩ := HL.out
  have HN := Aside0.mk (And.intro n3 n4)
  have HW := Aside0.mk (show wrap64 ((tt : Int) + 1) = ((tt + 1 : Nat) : Int) by unfold wrap64; omega)
  clear HL n1 n2 n3 n4
  cases he : (trimB (s.extract fr tt)).toList.isEmpty with
  | true =>
    go_wp2
    go_end0
    rw [HW.out]
    exact ⟨rfl, v, by rw [HE.out.1 he]; exact HM1.out.setFrom (tt + 1), by rw [Below.heap_setCell _ _ _ _ (fun e => by rw [e] at HI1; have h1 := HI1.out; rw [HM1.out.bf] at h1; cases h1)]; exact HI1.out⟩
  | false =>
    have lb : ∀ k, w1.heap.size ≤ k → k ≠ Bs ∧ k ≠ Bf ∧ k ≠ Bl ∧ k ≠ Bi := fun k hk => by
      have a1 := blk_lt HM1.out.bs; have a2 := blk_lt HM1.out.bf; have a3 := blk_lt HM1.out.bl; have a4 := blk_lt HI1.out
      exact ⟨by omega, by omega, by omega, by omega⟩
    have LB := Aside0.mk lb
    clear lb
    go_wp2_with ((with_reducible refine gate_builtin (b := .append) (xs := #[.tmp 13, .tmp 15]) rfl ?_); at_builtin; refine Kd.R_append Kd.string (w0 := w0) w0.heap.size rfl (.tmp 13) (.tmp 15) 42 9 (.string ⟨#[]⟩) 16 rfl Tryd.underlying42 info9 rfl (by decide) (by decide) v acc (trimB (s.extract fr tt)) [.string (trimB (s.extract fr tt))] (fun k => k ≠ Bs ∧ k ≠ Bf ∧ k ≠ Bl ∧ k ≠ Bi) (fun _ => False) rfl rfl ?aP (fun _ hk => hk.elim) LB.out HM1.out.row HM1.out.below HM1.out.below.size ?aL ?_; (case aP => exact rfl); (case aL => have := HN.out; omega); intro v1 w2 ho hb hg hat; obtain ⟨Ao, co, eo⟩ := Kd.R_slice ho; subst eo; rw [List.length_append, List.length_singleton] at ho; have HM2 := Aside0.mk (HM1.out.setList hg hb ho); have HI2 := Aside0.mk (blk_grown HI1.out hg (fun e => (HM1.out.row.1 Bi e.symm).2.2.2 rfl)); have f3 := blk_frozen (blk_grown HM1.out.bl hg (fun e => (HM1.out.row.1 Bl e.symm).2.2.1 rfl)) 0; have c3 : w2.cell? ⟨Bl, 0, none⟩ = some v := (blk_cell (blk_grown HM1.out.bl hg (fun e => (HM1.out.row.1 Bl e.symm).2.2.1 rfl)) 0).trans rfl; have f4 := blk_frozen HM2.out.bf 0; have c4 : (w2.setCell ⟨Bl, 0, none⟩ (.slice Ao (acc.length + 1) co)).cell? ⟨Bf, 0, none⟩ = some (.int .i64 fr) := (blk_cell HM2.out.bf 0).trans rfl; clear ho hb hg hat)
    go_end0
    rw [HW.out]
    exact ⟨rfl, _, by rw [HE.out.2 he]; exact HM2.out.setFrom (tt + 1), by rw [Below.heap_setCell _ _ _ _ (fun e => by rw [e] at HI1; have h1 := HI1.out; rw [HM1.out.bf] at h1; cases h1), Below.heap_setCell _ _ _ _ (fun e => by rw [e] at HI1; have h1 := HI1.out; rw [HM1.out.bl] at h1; cases h1)]; exact HI2.out⟩

/-- One rune of the scan. -/
theorem lsGo_step (s : ByteArray) (pos b : Nat) (q m : Bool) (acc : List ByteArray) (h : pos < s.size) (rn wd : Nat) (hd : Utf8.decode s pos = (rn, wd)) :
    lsGo s (s.size - pos) pos b q m acc =
      if m then lsGo s (s.size - (pos + wd)) (pos + wd) b q false acc
      else if q && rn == 92 then lsGo s (s.size - (pos + wd)) (pos + wd) b q true acc
      else if rn == 34 then lsGo s (s.size - (pos + wd)) (pos + wd) b (!q) false acc
      else if rn == 44 && !q then lsGo s (s.size - (pos + wd)) (pos + wd) (pos + 1) q false (lsEnd s acc b pos)
      else lsGo s (s.size - (pos + wd)) (pos + wd) b q false acc := by
  by_cases ha : (s[pos]'h).toNat < 128
  · have h1 := decode_ascii s pos h ha
    rw [hd] at h1
    obtain ⟨rfl, rfl⟩ := Prod.mk.inj h1
    obtain ⟨d, hd'⟩ : ∃ d, s.size - pos = d + 1 := ⟨s.size - pos - 1, by omega⟩
    rw [hd', show s.size - (pos + 1) = d by omega, lsGo, get_at' s pos h]
  · have h1 := lsGo_rune s (s.size - pos) pos b q m acc h (by omega) rfl
    have h2 := (decode_high s pos h (by omega)).1
    rw [hd] at h1 h2
    rw [h1]
    have h2 : 128 ≤ rn := h2
    have e1 : (rn == 92) = false := by simp; omega
    have e2 : (rn == 34) = false := by simp; omega
    have e3 : (rn == 44) = false := by simp; omega
    rw [e1, e2, e3]
    cases m <;> cases q <;> rfl
/-- What holds at the loop's head. -/
def LsRel (w0 : World) (a0 : ByteArray) (qb mb : Bool) (wr : World) : Prop := ∃ (pos fr : Nat) (acc : List ByteArray) (v : Value), LsMem w0 w0.heap.size (w0.heap.size + 1 + 1) (w0.heap.size + 1) (w0.heap.size + 1 + 1 + 1) a0 fr v acc wr ∧ wr.heap[w0.heap.size + 1 + 1 + 1]? = some (.stringIter a0 pos) ∧ pos ≤ a0.size ∧ fr ≤ pos ∧ acc.length ≤ pos ∧ listB a0 = lsGo a0 (a0.size - pos) pos fr qb mb acc
theorem LsMem.iterAt {w0 W : World} {Bs Bf Bl Bi fr pos : Nat} {s : ByteArray} {v : Value} {acc : List ByteArray} (M : LsMem w0 Bs Bf Bl Bi s fr v acc W) (hi : W.heap[Bi]? = some (.stringIter s pos)) (hb : w0.heap.size ≤ Bi) (pos' : Nat) : LsMem w0 Bs Bf Bl Bi s fr v acc (W.iterAt Bi s pos') := by
  have n : ∀ g (cs : Array Value) t, W.heap[g]? = some (.cells cs t (0, 0)) → g ≠ Bi := fun g cs t h e => by rw [e, hi] at h; cases h
  exact ⟨(Lib.iterAt_other W Bi Bs s pos' (n _ _ _ M.bs)).trans M.bs, (Lib.iterAt_other W Bi Bf s pos' (n _ _ _ M.bf)).trans M.bf, (Lib.iterAt_other W Bi Bl s pos' (n _ _ _ M.bl)).trans M.bl, Kd.R_move M.row (fun k hk => Lib.iterAt_other W Bi k s pos' hk.2.2.2), Lib.below_iterAt M.below hb s pos', M.gs, M.gf, M.gl, M.ne1, M.ne2, M.ne3⟩

set_option maxRecDepth 1000000 in
set_option maxHeartbeats 4000000 in
theorem text_List.calls (a0 : ByteArray) (r : List ByteArray) (w : World) (h : text_List.f a0 = some r) :
    Calls Tryd.prog 67 #[.string a0] w fun e w' => ∃ v0_ : Value, e = .returned (v0_) ∧ Kd.R Kd.string 9 w' w.heap.size (fun _ => True) v0_ r ∧ Below w.heap.size w w' := by
  unfold text_List.f at h
  split at h
  · rename_i hs
    have HR := Aside0.mk (Option.some.inj h)
    have HS := Aside0.mk hs
    clear h hs
    have eg : ∀ args w, (callFunc 76 args).run Tryd.prog w = .ok (.enter 76 args) w := enters_of Tryd.func76 (by kernel_rfl) rfl
    go_enter Tryd.func67, Tryd.ntmps67
    go_wp2
    go_loopw [5, 6] (fun q m wr => ∃ (qb mb : Bool), q = .bool qb ∧ m = .bool mb ∧ Aside0 (LsRel w a0 qb mb wr)) (fun _ _ wr => a0.size - wr.iterPos (w.heap.size + 1 + 1 + 1))
    case atStart =>
      refine ⟨false, false, rfl, rfl, ⟨⟨0, 0, [], .slice none 0 0, ?_, ?_, Nat.zero_le _, Nat.zero_le _, Nat.zero_le _, rfl⟩⟩⟩
      · have z : ∀ (W : World) (o : Obj), (W.alloc o).heap.size = W.heap.size + 1 := fun W o => by simp
        have b0 := blk_new w (.cells #[.string a0] 9 (0, 0))
        have b1 := blk_new (w.alloc (.cells #[.string a0] 9 (0, 0))) (.cells #[.slice none 0 0] 42 (0, 0))
        have b2 := blk_new ((w.alloc (.cells #[.string a0] 9 (0, 0))).alloc (.cells #[.slice none 0 0] 42 (0, 0))) (.cells #[.int .i64 0] 3 (0, 0))
        rw [z] at b1
        rw [z, z] at b2
        exact ⟨blk_alloc (blk_alloc (blk_alloc b0 _) _) _, blk_alloc b2 _, blk_alloc (blk_alloc b1 _) _, Kd.R_nil _ _ _ _ _, below_alloc (below_alloc (below_alloc (below_alloc (Below.refl _ w) _) _) _) _, by omega, by omega, by omega, by omega, by omega, by omega⟩
      · have z : ∀ (W : World) (o : Obj), (W.alloc o).heap.size = W.heap.size + 1 := fun W o => by simp
        have b3 := World.iter_heap (((w.alloc (.cells #[.string a0] 9 (0, 0))).alloc (.cells #[.slice none 0 0] 42 (0, 0))).alloc (.cells #[.int .i64 0] 3 (0, 0))) a0 0
        rw [z, z, z] at b3
        exact b3
    case round =>
      obtain ⟨qb, mb, rfl, rfl, HREL⟩ := hrel
      obtain ⟨pos, fr, acc, v, M, hit, k1, k2, k3, k4⟩ := HREL.out
      clear HREL
      by_cases hp : pos < a0.size
      · obtain ⟨rn, wd, hd⟩ : ∃ rn wd, Utf8.decode a0 pos = (rn, wd) := ⟨_, _, rfl⟩
        have hw := decode_width a0 pos hp
        have hnx0 : ∀ ty, (Instr.next (.pointer (some ⟨w.heap.size + 1 + 1 + 1, 0, none⟩)) true ty).run Tryd.prog wr = .ok (.tuple #[.bool true, .int .i64 pos, .int .i32 rn]) (wr.iterAt (w.heap.size + 1 + 1 + 1) a0 (pos + wd)) := fun ty => by
          have := Lib.run_next_any_at (P := Tryd.prog) wr (w.heap.size + 1 + 1 + 1) a0 pos ty hit hp
          rw [hd] at this
          exact this
        have HST := Aside0.mk (lsGo_step a0 pos fr qb mb acc hp rn wd hd)
        rw [hd] at hw
        have HW := Aside0.mk (show 1 ≤ wd ∧ pos + wd ≤ a0.size from hw)
        have HK := Aside0.mk (And.intro k1 (And.intro k2 (And.intro k3 k4)))
        have HM := Aside0.mk (M.iterAt hit (by omega) (pos + wd))
        have HI := Aside0.mk (Lib.iterAt_heap wr (w.heap.size + 1 + 1 + 1) a0 pos (pos + wd) hit)
        have HI0 := Aside0.mk hit
        clear hd hw M hit k1 k2 k3 k4 hp
        -- where nothing is appended
        have fin : ∀ (qb' mb' : Bool), lsGo a0 (a0.size - pos) pos fr qb mb acc = lsGo a0 (a0.size - (pos + wd)) (pos + wd) fr qb' mb' acc → LsRel w a0 qb' mb' (wr.iterAt (w.heap.size + 1 + 1 + 1) a0 (pos + wd)) := fun qb' mb' e =>
          ⟨pos + wd, fr, acc, v, HM.out, HI.out, HW.out.2, by have := HK.out.2.1; omega, by have := HK.out.2.2.1; omega, HK.out.2.2.2.trans e⟩
        have FIN := Aside0.mk fin
        clear fin
        have mea : ∀ W : World, W.heap[w.heap.size + 1 + 1 + 1]? = some (.stringIter a0 (pos + wd)) → a0.size - W.iterPos (w.heap.size + 1 + 1 + 1) < a0.size - wr.iterPos (w.heap.size + 1 + 1 + 1) := fun W hW => by
          simp only [World.iterPos, hW, HI0.out]
          have := HW.out; omega
        have MEA := Aside0.mk mea
        clear mea
        cases mb with
        | true =>
          go_wp2
          go_roundw
          case rel => exact ⟨qb, false, rfl, rfl, ⟨FIN.out _ _ (by rw [HST.out]; rfl)⟩⟩
          case measure => exact MEA.out _ HI.out
        | false =>
          cases qb with
          | true =>
            by_cases h92 : rn = 92
            · have e92 : ((rn : Int) == 92) = true := by simp; omega
              have N92 := Aside0.mk h92
              clear h92
              go_wp2
              go_roundw
              case rel => exact ⟨true, true, rfl, rfl, ⟨FIN.out _ _ (by rw [HST.out]; simp [N92.out])⟩⟩
              case measure => exact MEA.out _ HI.out
            · by_cases h34 : rn = 34
              · have e92 : ((rn : Int) == 92) = false := by simp; omega
                have e34 : ((rn : Int) == 34) = true := by simp; omega
                have N92 := Aside0.mk h92
                clear h92
                have N34 := Aside0.mk h34
                clear h34
                go_wp2
                go_roundw
                case rel => exact ⟨false, false, rfl, rfl, ⟨FIN.out _ _ (by rw [HST.out]; simp [N92.out, N34.out])⟩⟩
                case measure => exact MEA.out _ HI.out
              · by_cases h44 : rn = 44
                · have e92 : ((rn : Int) == 92) = false := by simp; omega
                  have e34 : ((rn : Int) == 34) = false := by simp; omega
                  have e44 : ((rn : Int) == 44) = true := by simp; omega
                  have N92 := Aside0.mk h92
                  clear h92
                  have N34 := Aside0.mk h34
                  clear h34
                  have N44 := Aside0.mk h44
                  clear h44
                  go_wp2
                  go_roundw
                  case rel => exact ⟨true, false, rfl, rfl, ⟨FIN.out _ _ (by rw [HST.out]; simp [N92.out, N34.out, N44.out])⟩⟩
                  case measure => exact MEA.out _ HI.out
                · have e92 : ((rn : Int) == 92) = false := by simp; omega
                  have e34 : ((rn : Int) == 34) = false := by simp; omega
                  have e44 : ((rn : Int) == 44) = false := by simp; omega
                  have N92 := Aside0.mk h92
                  clear h92
                  have N34 := Aside0.mk h34
                  clear h34
                  have N44 := Aside0.mk h44
                  clear h44
                  go_wp2
                  go_roundw
                  case rel => exact ⟨true, false, rfl, rfl, ⟨FIN.out _ _ (by rw [HST.out]; simp [N92.out, N34.out, N44.out])⟩⟩
                  case measure => exact MEA.out _ HI.out
          | false =>
            by_cases h34 : rn = 34
            · have e34 : ((rn : Int) == 34) = true := by simp; omega
              have N34 := Aside0.mk h34
              clear h34
              go_wp2
              go_roundw
              case rel => exact ⟨true, false, rfl, rfl, ⟨FIN.out _ _ (by rw [HST.out]; simp [N34.out])⟩⟩
              case measure => exact MEA.out _ HI.out
            · by_cases h44 : rn = 44
              · have e34 : ((rn : Int) == 34) = false := by simp; omega
                have e44 : ((rn : Int) == 44) = true := by simp; omega
                have N34 := Aside0.mk h34
                have N44 := Aside0.mk h44
                clear h34 h44
                have HEND := Aside0.mk (listEnd w _ _ _ _ a0 fr pos (pos + wd) v acc _ HM.out HI.out HK.out.2.1 HK.out.1 HS.out (by have := HK.out; omega))
                go_wp2_with fail
                refine HEND.out.mono ?_
                rintro e w' ⟨rfl, hA⟩
                have HA := Aside0.mk hA
                clear hA
                go_wp2
                go_roundw
                case rel =>
                  obtain ⟨v', M', hI'⟩ := HA.out
                  have hl := lsEnd_length a0 acc fr pos
                  have hw' := HW.out
                  have hk' := HK.out
                  exact ⟨false, false, rfl, rfl, ⟨⟨pos + wd, pos + 1, lsEnd a0 acc fr pos, v', M', hI', hw'.2, by omega, by omega, by rw [hk'.2.2.2, HST.out]; simp [N34.out, N44.out]⟩⟩⟩
                case measure => exact MEA.out _ (by obtain ⟨v', M', hI'⟩ := HA.out; exact hI')
              · have e34 : ((rn : Int) == 34) = false := by simp; omega
                have e44 : ((rn : Int) == 44) = false := by simp; omega
                have N34 := Aside0.mk h34
                clear h34
                have N44 := Aside0.mk h44
                clear h44
                go_wp2
                go_roundw
                case rel => exact ⟨false, false, rfl, rfl, ⟨FIN.out _ _ (by rw [HST.out]; simp [N34.out, N44.out])⟩⟩
                case measure => exact MEA.out _ HI.out
      · have hnx0 : ∀ ty, (Instr.next (.pointer (some ⟨w.heap.size + 1 + 1 + 1, 0, none⟩)) true ty).run Tryd.prog wr = _ := fun ty => Lib.run_next_end_at wr (w.heap.size + 1 + 1 + 1) a0 pos ty hit hp
        have c0 : wr.cell? ⟨w.heap.size, 0, none⟩ = some (.string a0) := (blk_cell M.bs 0).trans rfl
        have HEND := Aside0.mk (listEnd w _ _ _ _ a0 fr a0.size pos v acc _ M hit (by omega) (Nat.le_refl _) HS.out (by omega))
        have HK := Aside0.mk (And.intro k1 (And.intro k3 k4))
        have HP := Aside0.mk hp
        clear M hit k1 k2 k3 k4 hp
        go_wp2_with fail
        refine HEND.out.mono ?_
        rintro e w' ⟨rfl, hA⟩
        obtain ⟨v', M', hI'⟩ := hA
        have c2 : w'.cell? ⟨w.heap.size + 1, 0, none⟩ = some v' := (blk_cell M'.bl 0).trans rfl
        have hr : lsEnd a0 acc fr a0.size = r := by
          have k4 := HK.out.2.2
          have hp := HP.out
          have k1 := HK.out.1
          rw [← HR.out, k4, show a0.size - pos = 0 by omega, lsGo]
        obtain ⟨Ao, co, eo⟩ := Kd.R_slice M'.row
        rw [hr] at M' eo
        have HM := Aside0.mk M'
        clear M' hr HEND HK
        subst eo
        go_wp2
        go_ret
        exact ⟨_, rfl, Kd.R_mono HM.out.row (fun _ _ => trivial), HM.out.below⟩
  · exact absurd h (by simp)
end Go.Proofs.YtcamdfjjdigaeaaDoor.P
