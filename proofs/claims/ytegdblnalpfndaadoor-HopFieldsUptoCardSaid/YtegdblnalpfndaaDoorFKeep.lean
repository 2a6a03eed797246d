/- An append that leaves the elder slice to be read: what it was handed still reads as it did. -/
import Derived.Test.YtegdblnalpfndaaDoorQ0
set_option linter.unusedVariables false
set_option linter.unusedSimpArgs false
namespace Go.Proofs.YtegdblnalpfndaaDoor.P
open Go.RowKit Go.Proofs.YtegdblnalpfndaaDoorW.PrintWords Go.Proofs.YtegdblnalpfndaaDoorW.PrintLast Go.Proofs.YtegdblnalpfndaaDoorW.PrintMore

/-- Either it wrote behind the elder slice's end, or all that was is as it was. -/
theorem append_keeps {P : Program} {w w' : World} (base : Nat) (t ty e : TypeId) (i : TypeInfo) (z : Value) (size bytes : Nat) (ht : P.underlying t = some (.slice e)) (hi : P.info? e = some i) (hz : i.zero = some z)
    (hsize : i.size = size) (hby : i.bytes = bytes) (hzs : z.cells.size = size) (hsz : 0 < size)
    (v v' : Value) (n : Nat) (xs : List Value) (hown : w.ownsRow base e size v n xs)
    (a : Addr) (m c : Nat) (news : List Value) (hm : 0 < m) (hl : news.length = m * size) (hnews : ∀ j u, news[j]? = some u → w.cell? (a.add j) = some u) (h1 : ∀ u ∈ news, u.oneCell' = true)
    (h63 : n + m ≤ maxLen) (hbytes : (n + m) * bytes ≤ 140737488355328)
    (hr : (Builtin.append_ #[t, t] ty #[v, .slice (some a) m c]).run P w = .ok v' w') : v'.ownBlock = v.ownBlock ∨ Below w.heap.size w w' := by
  subst hsize
  subst hby
  have hsmall : n + m ≤ 9223372036854775807 := by simp only [maxLen] at h63; omega
  have new : ∀ o : Obj, Below w.heap.size w (w.drew.alloc o) := fun o => below_alloc (below_drew1 (Below.refl _ w)) o
  rcases hown.2 with ⟨rfl, rfl⟩ | ⟨g, cap, cur, rfl, hbg, hg, hnc, hcm, hcs, htake⟩
  · have h := run_append_nil (P := P) w t ty e i z ht hi hz a m c news hl hnews (by omega) (by omega) (by have hb := hbytes; simp only [Nat.zero_add] at hb; omega)
    rw [hr] at h
    injection h with h2 h3
    exact .inr (by rw [h3]; exact new _)
  · by_cases hroom : n + m ≤ cap
    · have hfit : n * i.size + news.length ≤ cur.size := by rw [hl, hcs, ← Nat.add_mul]; exact Nat.mul_le_mul_right _ hroom
      have h := run_append_room (P := P) w t ty e i ht hi g n cap cur hg a m c news hl hnews h1 hroom hfit
      rw [hr] at h
      injection h with h2 h3
      exact .inl (by rw [h2]; rfl)
    · have holds : ∀ j u, xs[j]? = some u → w.cell? ((⟨g, 0, none⟩ : Addr).add j) = some u := hown.cells (g := g) rfl
      have h := run_append_grow (P := P) w t ty e i z ht hi hz ⟨g, 0, none⟩ n cap xs hown.1 holds a m c news hl hnews (by omega) (by omega) (growslice_fits (by omega) hbytes)
      rw [hr] at h
      injection h with h2 h3
      exact .inr (by rw [h3]; exact new _)
theorem C_prefix {α : Type} {d : Kd α} {w : World} {A : Option Addr} {xs ys : List α} (h : d.C w A (xs ++ ys).length (xs ++ ys)) : d.C w A xs.length xs := by
  obtain ⟨_, h2, h3⟩ := h
  rw [List.length_append] at h2
  refine ⟨rfl, by omega, fun hn => ?_⟩
  obtain ⟨ad, e, hc⟩ := h3 (by rw [List.length_append]; omega)
  refine ⟨ad, e, fun j p hj => hc j p ?_⟩
  have hjl := (List.getElem?_eq_some_iff.1 hj).1
  rw [List.getElem?_append_left hjl]; exact hj

section
variable {P : Program} {ops : Array Oper} {rest : List Oper} {o : Oper} {a : Act} {Q : Exit → Act → World → Prop} {α : Type}
theorem R_append_keep (d : Kd α) {w0 W : World} (base : Nat) (hgd : o.guard = none) (s x : Operand) (t e : TypeId) (z : Value) (bytes : Nat)
    (ho : o.op = .call { callee := .builtin .append, args := #[s, x], argTypes := #[t, t] })
    (ht : P.underlying t = some (.slice e)) (hinfo : (P.info? e).map (fun i => (i.zero, i.size, i.bytes)) = some (some z, d.sz, bytes)) (hz : z.cells.size = d.sz) (hs0 : 0 < d.sz) (hb0 : 0 < bytes)
    (A0 : Option Addr) (c0 : Nat) (xs : List α) (p : α) (cs : List Value) (ok okp : Nat → Prop) (hs : a.eval s = .slice A0 xs.length c0) (hx : a.eval x = .slice (some ⟨W.heap.size, 0, none⟩) 1 1) (hp : d.M W base okp p cs) (hokp : ∀ k, okp k → ok k ∧ some k ≠ (Value.slice A0 xs.length c0).ownBlock) (hfresh : ∀ k, W.heap.size ≤ k → ok k)
    (HO : d.R e W base ok (.slice A0 xs.length c0) xs) (HB : Below base w0 W) (hbase : base ≤ W.heap.size) (hl : (xs.length + 1) * bytes ≤ 140737488355328)
    (h : ∀ v1 w1, d.R e w1 base ok v1 (xs ++ [p]) → Below base w0 w1 → W.grownBy w1 (Value.slice A0 xs.length c0).ownBlock → (v1.ownBlock = (Value.slice A0 xs.length c0).ownBlock ∨ ∃ b, v1.ownBlock = some b ∧ W.heap.size ≤ b) → d.C w1 A0 xs.length xs → wpList P ops Q rest (a.put o.dst v1) w1) :
    wpList P ops Q (o :: rest) a (W.alloc (.cells cs.toArray e)) := by
  have HO0 := HO
  obtain ⟨h0, inner, hown, hr⟩ := HO
  obtain ⟨i0, hi, hzz⟩ := Option.map_eq_some_iff.1 hinfo
  simp only [Prod.mk.injEq] at hzz
  obtain ⟨hz0, hz1, hz2⟩ := hzz
  have hys := d.K_len (d.K_of_M hp)
  have h1 := d.K_one (d.K_of_M hp)
  have hlen : xs.length + 1 ≤ 140737488355328 := Nat.le_trans (Nat.le_mul_of_pos_right _ hb0) hl
  have hnews : ∀ j u, cs[j]? = some u → (W.alloc (.cells cs.toArray e)).cell? ((⟨W.heap.size, 0, none⟩ : Addr).add j) = some u := by
    simpa using World.news_of_block (cs := cs.toArray) (t := e) (fr := (0, 0)) (heap_alloc_new W (.cells cs.toArray e))
  have hnl : cs.length = 1 * d.sz := by rw [hys]; simp
  obtain ⟨v1, w1, hrun, hown1, hg1, _, hat1⟩ := run_append_own_at (P := P) (W.alloc (.cells cs.toArray e)) base t o.type e i0 z d.sz bytes ht hi hz0 hz1 hz2 hz hs0 (.slice A0 xs.length c0) xs.length inner (hown.alloc _) ⟨W.heap.size, 0, none⟩ 1 1 cs hnl hnews h1 (by simp only [maxLen]; omega) hl (by simp; omega)
  have hk := append_keeps (P := P) base t o.type e i0 z d.sz bytes ht hi hz0 hz1 hz2 hz hs0 (.slice A0 xs.length c0) v1 xs.length inner (hown.alloc _) ⟨W.heap.size, 0, none⟩ 1 1 cs (by omega) hnl hnews h1 (by simp only [maxLen]; omega) hl hrun
  have hB1 : Below base w0 w1 := (HB.alloc hbase _).grown hg1 (by simp; omega) (own_base hown)
  have hg2 := World.grownBy.trans (World.grownBy_alloc W (.cells cs.toArray e) (Value.slice A0 xs.length c0).ownBlock) hg1
  have hat2 : v1.ownBlock = (Value.slice A0 xs.length c0).ownBlock ∨ ∃ b, v1.ownBlock = some b ∧ W.heap.size ≤ b := by
    rcases hat1 with hat | hat
    · exact .inl hat
    · exact .inr ⟨_, hat, by simp⟩
  have hR1 := Kd.R_appended h0 hr hp hokp hfresh hown1 hg2 hat2
  have hC : d.C w1 A0 xs.length xs := by
    rcases hk with hk | hk
    · obtain ⟨A1, c1, rfl, _, hC1⟩ := Kd.R_reads hR1
      cases A0 with
      | none =>
        have hz : xs.length = 0 := by
          rcases hown.2 with ⟨_, h⟩ | ⟨g, cap, cur, h, _⟩
          · exact h
          · injection h with h; cases h
        rw [List.eq_nil_of_length_eq_zero hz]
        exact Kd.C_nil d w1
      | some b0 =>
        have he : A1 = some b0 := by
          have hb0 : b0 = ⟨b0.block, 0, none⟩ := by
            rcases hown.2 with ⟨h, _⟩ | ⟨g, cap, cur, h, _⟩
            · injection h with h; cases h
            · injection h with h; injection h with h; rw [h]
          rcases hown1.2 with ⟨h, _⟩ | ⟨g, cap, cur, h, _⟩
          · injection h with h
            rw [h] at hk
            simp [Value.ownBlock] at hk
          · injection h with h
            rw [h] at hk ⊢
            have : g = b0.block := by simpa [Value.ownBlock] using hk
            rw [hb0, this]
        rw [he] at hC1
        exact C_prefix hC1
    · have hb : Below W.heap.size W w1 := (below_alloc (Below.refl _ W) _).trans (hk.mono (by simp))
      have := Kd.R_below HO0 hb
      exact (Kd.R_reads' this).2.2
  have hex : (execOp a.eval o).run P (W.alloc (.cells cs.toArray e)) = .ok (.value v1) w1 := by
    unfold execOp
    simp only [ho, resolve, invoke, builtin, Sem.run_bind, Sem.run_pure, Result.andThen_ok, List.map_toArray, List.map_cons, List.map_nil, hs, hx, hrun]
  exact Kd.event_run hgd hex (h v1 w1 hR1 hB1 hg2 hat2 hC)
end
end Go.Proofs.YtegdblnalpfndaaDoor.P
