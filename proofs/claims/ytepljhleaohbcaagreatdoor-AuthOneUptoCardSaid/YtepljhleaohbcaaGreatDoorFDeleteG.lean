/- slices.DeleteFunc over fields: the walk. -/
import Derived.Test.YtepljhleaohbcaaGreatDoorFDeleteF
set_option linter.unusedVariables false
set_option linter.unusedSimpArgs false
namespace Go.Proofs.YtepljhleaohbcaaGreatDoor.P
open Go.RowKit Go.Proofs.YtepljhleaohbcaaGreatDoorW.PrintWords Go.Proofs.YtepljhleaohbcaaGreatDoorW.PrintLast Go.Proofs.YtepljhleaohbcaaGreatDoorW.PrintMore

def keptF (p : S48 → Bool) (l : List S48) : List S48 := l.filter fun x => !p x
/-- Behind j places: i were kept; they stand first; from j on all is as it was. -/
def KeptTo (p : S48 → Bool) (l cur : List S48) (i j : Nat) : Prop := i < j ∧ j ≤ l.length ∧ cur.length = l.length ∧ cur.take i = keptF p (l.take j) ∧ (keptF p (l.take j)).length = i ∧ ∀ k, j ≤ k → cur[k]? = l[k]?
theorem take_snocF (l : List S48) (j : Nat) (h : j < l.length) : l.take (j + 1) = l.take j ++ [l.getD j z48] := by
  rw [List.take_succ_eq_append_getElem h, List.getD_eq_getElem?_getD, List.getElem?_eq_getElem h]; rfl
theorem keptF_none (p : S48 → Bool) (l : List S48) (h : l.any p = false) : keptF p l = l := by
  unfold keptF
  rw [List.filter_eq_self]
  intro x hx
  rw [List.any_eq_false] at h
  have := h x hx
  simp [this]
theorem KeptTo.start {p : S48 → Bool} {l : List S48} {k : Nat} (hk : k < l.length) (h0 : (l.take k).any p = false) (h1 : p (l.getD k z48) = true) : KeptTo p l l k (k + 1) := by
  have e : keptF p (l.take (k + 1)) = l.take k := by
    rw [take_snocF l k hk]
    unfold keptF
    rw [List.filter_append]
    have := keptF_none p _ h0
    unfold keptF at this
    rw [this]
    generalize l.getD k z48 = y at h1
    simp [h1]
  refine ⟨by omega, by omega, rfl, e.symm, by rw [e, List.length_take]; omega, fun _ _ => rfl⟩
theorem KeptTo.skip {p : S48 → Bool} {l cur : List S48} {i j : Nat} (h : KeptTo p l cur i j) (hj : j < l.length) (h1 : p (l.getD j z48) = true) : KeptTo p l cur i (j + 1) := by
  obtain ⟨a, b, c, d, e, f⟩ := h
  have g : keptF p (l.take (j + 1)) = keptF p (l.take j) := by
    rw [take_snocF l j hj]
    unfold keptF
    rw [List.filter_append]
    generalize l.getD j z48 = y at h1
    simp [h1]
  exact ⟨by omega, by omega, c, by rw [g]; exact d, by rw [g]; exact e, fun k hk => f k (by omega)⟩
theorem KeptTo.keep {p : S48 → Bool} {l cur : List S48} {i j : Nat} (h : KeptTo p l cur i j) (hj : j < l.length) (h1 : p (l.getD j z48) = false) : KeptTo p l (cur.set i (l.getD j z48)) (i + 1) (j + 1) := by
  obtain ⟨a, b, c, d, e, f⟩ := h
  have g : keptF p (l.take (j + 1)) = keptF p (l.take j) ++ [l.getD j z48] := by
    rw [take_snocF l j hj]
    unfold keptF
    rw [List.filter_append]
    generalize l.getD j z48 = y at h1
    simp [h1]
  refine ⟨by omega, by omega, by rw [List.length_set]; exact c, ?_, by rw [g, List.length_append, e]; rfl, fun k hk => ?_⟩
  · rw [g, ← d, List.take_set, List.take_succ_eq_append_getElem (by omega), List.set_append_right _ _ (by rw [List.length_take]; omega)]
    rw [show i - (cur.take i).length = 0 by rw [List.length_take]; omega]
    rfl
  · rw [List.getElem?_set_ne (by omega)]
    exact f k (by omega)

theorem blk_alloc' (w : World) (o : Obj) (g : Nat) (h : g < w.heap.size) : (w.alloc o).heap[g]? = w.heap[g]? := Below.heap_alloc w o g h

set_option maxHeartbeats 2000000 in
theorem deleteFields (g0 cap : Nat) (l : List S48) (g : Nat) (lb : Array Value) (eg : ∀ args w, (callFunc g args).run Tryz.prog w = .ok (.enter g args) w) (p : S48 → Bool) (w : World)
    (hr : RowF g0 cap l w) (hp : ∀ (W : World) (x : S48), x ∈ l → KBut w W g0 → Calls Tryz.prog g (#[encF x] ++ lb) W fun e w' => e = .returned (.bool (p x)) ∧ Below W.heap.size W w') :
    Calls Tryz.prog 36 #[.slice (some ⟨g0, 0, none⟩) l.length cap, .func (.func g) #[] lb] w fun e w' => e = .returned (.slice (some ⟨g0, 0, none⟩) (keptF p l).length cap) ∧ RowF g0 cap (keptF p l) w' ∧ KBut w w' g0 := by
  have hm : cap ≤ maxLen := by obtain ⟨_, _, _, _, h, _⟩ := hr; exact h
  have hlc : l.length ≤ cap := by obtain ⟨_, _, _, h, _⟩ := hr; exact h
  unfold maxLen at hm
  have hC : Kd.C k48 w (some ⟨g0, 0, none⟩) l.length l := by
    have h := hr.R (Nat.zero_le _) l.length (Nat.le_refl _)
    rw [List.take_length] at h
    obtain ⟨A, c, he, _, h2⟩ := Kd.R_reads h
    injection he with he
    rw [he]; exact h2
  have hix := indexFields (some ⟨g0, 0, none⟩) cap l g lb eg p w hC (fun W x hx hb => hp W x hx (.of_below hb g0))
  have HIX := Aside0.mk hix
  have HP := Aside0.mk hp
  have HR := Aside0.mk hr
  clear hix hC hp hr
  go_enter Tryz.func36, Tryz.ntmps36
  go_wp2_with fail
  refine HIX.out.mono ?_
  rintro e w1 ⟨i0, rfl, hi, hb1⟩
  have HR1 := Aside0.mk (HR.out.same (hb1.block g0 HR.out.lt))
  have HK1 := Aside0.mk (KBut.of_below hb1 g0)
  clear hb1
  rcases hi.out with ⟨rfl, hnone⟩ | ⟨k, rfl, hk, hn, hy⟩
  · have HN := Aside0.mk (keptF_none p l hnone)
    clear hi hnone
    go_wp2
    go_ret
    rw [HN.out]
    exact ⟨rfl, HR1.out, HK1.out⟩
  · have HS := Aside0.mk (KeptTo.start hk hn hy)
    clear hi hn hy
    have hne : ((k : Int) == -1) = false := beq_eq_false_iff_ne.2 (by omega)
    go_wp2
    go_loopg [5, 6] l.length (fun gg s5 s6 wr => ∃ (i j : Nat) (cur : List S48), s5 = .int .i64 i ∧ s6 = .int .i64 j ∧ j ≤ l.length ∧ i < j ∧ l.length - j ≤ gg ∧ Aside0 (KeptTo p l cur i j) ∧ Aside0 (RowF g0 cap cur wr) ∧ Aside0 (KBut w wr g0))
    case atStart => exact ⟨k, k + 1, l, rfl, by go_num, by omega, by omega, by omega, HS, HR1, HK1⟩
    case round =>
      clear HS HR1 HK1 hne
      obtain ⟨i, j, cur, rfl, rfl, hjl, hij, hg, HT, HC, HK⟩ := hrel
      by_cases hlt : j < l.length
      · have hltz : (j : Int) < (l.length : Int) := by omega
        have hcl : j < cur.length := by rw [HT.out.2.2.1]; exact hlt
        obtain ⟨l2, l3⟩ := HC.out.at j hcl
        have hcj : cur.getD j z48 = l.getD j z48 := by rw [List.getD_eq_getElem?_getD, List.getD_eq_getElem?_getD, HT.out.2.2.2.2.2 j (Nat.le_refl _)]
        rw [hcj] at l2 l3
        have hmem : l.getD j z48 ∈ l := by rw [List.getD_eq_getElem?_getD, List.getElem?_eq_getElem hlt]; exact List.getElem_mem hlt
        have HSK := Aside0.mk (HT.out.skip hlt)
        have HKP := Aside0.mk (HT.out.keep hlt)
        clear hcj
        have HPx := Aside0.mk (fun W hK => HP.out W _ hmem hK)
        have f2 := HC.out.free
        obtain ⟨ci0, ci1⟩ := HC.out.at i (by omega)
        have hg0 := HC.out.lt
        generalize cur.getD i z48 = old at ci0 ci1
        generalize l.getD j z48 = y at l2 l3 hmem HSK HKP HPx
        have hKa := HK.out.step ((Below.refl _ wr).alloc (Nat.le_refl _) (.cells #[.string y.f0, .string y.f1] 48))
        have hcall := HPx.out _ hKa
        have HKa := Aside0.mk hKa
        unfold encF at hcall
        clear hKa
        have hgz : ∀ o : Obj, (wr.alloc o).heap.size = wr.heap.size + 1 := fun o => by simp
        have hce0 : (wr.alloc (.cells #[.string y.f0, .string y.f1] 48)).cell? ⟨wr.heap.size, 0, none⟩ = some (.string y.f0) := (blk_cell (blk_new wr _) 0).trans rfl
        have hce1 : (wr.alloc (.cells #[.string y.f0, .string y.f1] 48)).cell? ⟨wr.heap.size, 1, none⟩ = some (.string y.f1) := (blk_cell (blk_new wr _) 1).trans rfl
        have HE := Aside0.mk (And.intro hce0 hce1)
        have HRA := Aside0.mk (HC.out.same (blk_alloc' wr (.cells #[.string y.f0, .string y.f1] 48) g0 hg0))
        clear hce0 hce1 ci0 ci1 f2
        cases hq : p y with
        | true =>
          rw [hq] at hcall
          have HS' := Aside0.mk (HSK.out hq)
          have HCL := Aside0.mk hcall
          clear hq hcall HSK HKP
          go_wp2_with fail
          refine HCL.out.mono ?_
          rintro e w2 ⟨rfl, hb⟩
          have HK2 := Aside0.mk (HKa.out.step hb)
          have HR2 := Aside0.mk (HRA.out.same (hb.block g0 HRA.out.lt))
          clear hb
          go_wp2
          go_roundg (l.length - (j + 1))
          case measure => omega
          case rel => exact ⟨i, j + 1, cur, rfl, by go_num, by omega, by omega, by omega, HS', HR2, HK2⟩
        | false =>
          rw [hq] at hcall
          have HS' := Aside0.mk (HKP.out hq)
          have HCL := Aside0.mk hcall
          clear hq hcall HSK HKP
          go_wp2_with fail
          refine HCL.out.mono ?_
          rintro e w2 ⟨rfl, hb⟩
          have HK2 := Aside0.mk (HKa.out.step hb)
          have HR2 := Aside0.mk (HRA.out.same (hb.block g0 HRA.out.lt))
          have d0 := (hb.cell (p := ⟨wr.heap.size, 0, none⟩) (by rw [hgz]; exact Nat.lt_succ_self _)).trans HE.out.1
          have d1 := (hb.cell (p := ⟨wr.heap.size, 1, none⟩) (by rw [hgz]; exact Nat.lt_succ_self _)).trans HE.out.2
          obtain ⟨ci0, ci1⟩ := HR2.out.at i (by omega)
          have fi0 := HR2.out.free (i * 2)
          have fi1 := HR2.out.free (i * 2 + 1)
          have HSet := Aside0.mk (HR2.out.set i (by omega) y)
          generalize cur.getD i z48 = old at ci0 ci1
          clear hb
          go_wp2
          go_roundg (l.length - (j + 1))
          case measure => omega
          case rel => exact ⟨i + 1, j + 1, cur.set i y, by go_num, by go_num, by omega, by omega, by omega, HS', HSet, ⟨(HK2.out.set _ _).set _ _⟩⟩
      · obtain rfl : j = l.length := by omega
        have hltz : ¬ (l.length : Int) < (l.length : Int) := by omega
        have hcl : i ≤ cur.length := by have := HT.out.2.2.1; omega
        obtain ⟨vs, hclr⟩ := run_clearF wr g0 cap i (l.length - i) (cap - i) cur (by omega) HC.out (by omega)
        have HCut := Aside0.mk (HC.out.cut hcl vs)
        have HK2 := Aside0.mk (KBut.setCells vs (i * 2) wr HK.out)
        have HL := Aside0.mk (by have := HT.out; rw [KeptTo, List.take_length] at this; exact this)
        clear HC hcl
        go_wp2
        go_ret
        obtain ⟨_, _, _, ht, hlen, _⟩ := HL.out
        refine ⟨by rw [hlen]; rfl, ?_, HK2.out⟩
        rw [← ht]; exact HCut.out

set_option maxHeartbeats 1000000 in
theorem deleteNone (g : Nat) (lb : Array Value) (eg : ∀ args w, (callFunc g args).run Tryz.prog w = .ok (.enter g args) w) (w : World) :
    Calls Tryz.prog 36 #[.slice none 0 0, .func (.func g) #[] lb] w fun e w' => e = .returned (.slice none 0 0) ∧ Below w.heap.size w w' := by
  have HIX := Aside0.mk (indexFields none 0 [] g lb eg (fun _ => false) w ⟨rfl, by simp, fun h => by simp at h⟩ (fun W x hx _ => by cases hx))
  go_enter Tryz.func36, Tryz.ntmps36
  go_wp2_with fail
  refine HIX.out.mono ?_
  rintro e w1 ⟨i0, rfl, hi, hb1⟩
  rcases hi.out with ⟨rfl, _⟩ | ⟨k, _, hk, _⟩
  · clear hi
    go_wp2
    go_ret
    exact ⟨rfl, hb1⟩
  · exact absurd hk (by simp)
end Go.Proofs.YtepljhleaohbcaaGreatDoor.P
