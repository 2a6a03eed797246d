/- Plain law: AuthLess. -/
import Derived.Test.YtepljhleaohbcaaGreatDoorPTenC
import Derived.Test.YtepljhleaohbcaaGreatDoorFHeapT
import Derived.Test.YtepljhleaohbcaaGreatDoorQtollhouselaw15AuthLess
set_option linter.unusedVariables false
set_option linter.unusedSimpArgs false
namespace Go.Proofs.YtepljhleaohbcaaGreatDoor.P
open Go.RowKit Go.Proofs.YtepljhleaohbcaaGreatDoorW.PrintWords Go.Proofs.YtepljhleaohbcaaGreatDoorW.PrintLast Go.Proofs.YtepljhleaohbcaaGreatDoorW.PrintMore

/-- Without the tenant at a place; with one more there. -/
def less (l : List S27) (k : Nat) : List S27 := ([] ++ l.take k) ++ l.drop (k + 1)
def more (l : List S27) (k : Nat) (x : S27) : List S27 := (([] ++ l.take k) ++ [x]) ++ l.drop k
theorem cfgEnd_iff (n : Nat) (s t : Int) : cfgEnd n s t = true ↔ (1 ≤ n ∧ n ≤ 8) ∧ (0 ≤ s ∧ s ≤ 16 ∧ 1 ≤ t ∧ t ≤ 1099511627776) := by
  unfold cfgEnd
  simp
  omega
section
variable (l : List S27) (s t : Int) (k : Nat) (x : S27) (hv : (cfgOk l [] && cfgEnd l.length s t) = true) (hk : k < l.length)
theorem less_eq : less l k = l.eraseIdx k := by
  unfold less
  rw [List.nil_append, List.eraseIdx_eq_take_drop_succ]
theorem more_len : (more l k x).length = l.length + 1 := by
  unfold more
  simp only [List.length_append, List.nil_append, List.length_take, List.length_drop, List.length_cons, List.length_nil]
  omega
theorem more_mem (y : S27) : y ∈ more l k x ↔ y = x ∨ y ∈ l := by
  unfold more
  rw [List.nil_append, List.mem_append, List.mem_append, List.mem_singleton]
  conv => rhs; rw [← List.take_append_drop k l, List.mem_append]
  constructor
  · rintro ((h | h) | h)
    · exact .inr (.inl h)
    · exact .inl h
    · exact .inr (.inr h)
  · rintro (h | h | h)
    · exact .inl (.inr h)
    · exact .inl (.inl h)
    · exact .inr h
include hk in
theorem less_len : (less l k).length = l.length - 1 := by rw [less_eq, List.length_eraseIdx, if_pos hk]
theorem less_mem (y : S27) (h : y ∈ less l k) : y ∈ l := by
  rw [less_eq] at h
  exact (List.eraseIdx_sublist l k).subset h
include hv hk in
theorem less_ok : (cfgOk (less l k) [] && cfgEnd (less l k).length s t) = decide ((l.length : Int) > 1) := by
  rw [Bool.and_eq_true] at hv
  obtain ⟨h1, h2⟩ := hv
  obtain ⟨a1, a2, _⟩ := (cfgOk_iff l []).1 h1
  have b := (cfgEnd_iff _ _ _).1 h2
  have c1 : cfgOk (less l k) [] = true := (cfgOk_iff _ _).2 ⟨fun y hy => a1 y (less_mem l k y hy), by rw [less_eq]; exact a2.sublist ((List.eraseIdx_sublist l k).map _), fun y _ => by simp⟩
  rw [c1, Bool.true_and, less_len l k hk, Bool.eq_iff_iff, cfgEnd_iff, decide_eq_true_eq]
  omega
include hv in
theorem more_ok : (cfgOk (more l k x) [] && cfgEnd (more l k x).length s t) = ((tenMay x && !(l.any fun y => y.f0.toList == x.f0.toList)) && decide (l.length < 8)) := by
  rw [Bool.and_eq_true] at hv
  obtain ⟨h1, h2⟩ := hv
  obtain ⟨a1, a2, _⟩ := (cfgOk_iff l []).1 h1
  have b := (cfgEnd_iff _ _ _).1 h2
  have hm : (l.any fun y => y.f0.toList == x.f0.toList) = true ↔ x.f0 ∈ l.map (·.f0) := by
    rw [List.any_eq_true, List.mem_map]
    constructor
    · rintro ⟨y, hy, e⟩; exact ⟨y, hy, tlInj (beq_iff_eq.1 e)⟩
    · rintro ⟨y, hy, e⟩; exact ⟨y, hy, by rw [e]; exact beq_self_eq_true _⟩
  have hnd : ((more l k x).map (·.f0)).Nodup ↔ x.f0 ∉ l.map (·.f0) := by
    have e : (more l k x).map (·.f0) = (l.take k).map (·.f0) ++ x.f0 :: (l.drop k).map (·.f0) := by
      unfold more
      simp [List.map_append]
    rw [e, List.perm_middle.nodup_iff, List.nodup_cons, ← List.map_append, List.take_append_drop]
    exact ⟨fun h => h.1, fun h => ⟨h, a2⟩⟩
  have hc : cfgOk (more l k x) [] = (tenMay x && !(l.any fun y => y.f0.toList == x.f0.toList)) := by
    rw [Bool.eq_iff_iff, cfgOk_iff, Bool.and_eq_true, Bool.not_eq_true', hnd, ← Bool.not_eq_true, hm]
    constructor
    · rintro ⟨h, h', _⟩; exact ⟨h x ((more_mem l k x x).2 (.inl rfl)), h'⟩
    · rintro ⟨h, h'⟩
      refine ⟨fun y hy => ?_, h', fun y _ => by simp⟩
      rcases (more_mem l k x y).1 hy with rfl | hy
      · exact h
      · exact a1 y hy
  have he : cfgEnd (more l k x).length s t = decide (l.length < 8) := by
    rw [more_len, Bool.eq_iff_iff, cfgEnd_iff, decide_eq_true_eq]
    omega
  rw [hc, he]
variable (hl : l.length ≤ 1048576) (hT : ∀ y ∈ l, T2 y) (hx : T2 x)
include hv hk hl hT hx in
theorem less_l0 : ∀ (d i : Nat), l.length - i = d → i ≤ l.length → Ev (fun kk => tollhouselaw15_AuthLess.l0 kk ((l.take i).any fun y => y.f0.toList == x.f0.toList) (i : Int) l s t x.f0 x.f1 x.f2 x.f3 x.f4 x.f5 x.f6 x.f7 x.f8 (less l k) s t (more l k x) s t) true := by
  intro d
  induction d with
  | zero =>
    intro i hd hi
    obtain rfl : i = l.length := by omega
    rw [List.take_length]
    have e1 := config_code (less l k) s t (by rw [less_len l k hk]; omega) (fun y hy => hT y (less_mem l k y hy))
    rw [less_ok l s t k hv hk] at e1
    have e2 := config_code (more l k x) s t (by rw [more_len]; have := ((cfgEnd_iff _ _ _).1 ((Bool.and_eq_true _ _ ▸ hv).2)).1; omega) (fun y hy => by
      rcases (more_mem l k x y).1 hy with rfl | hy
      · exact hx
      · exact hT y hy)
    rw [more_ok l s t k x hv] at e2
    have e3 : auth_Tenant.f x.f0 x.f1 x.f2 x.f3 x.f4 x.f5 x.f6 x.f7 x.f8 = some (tenMay x) := tenant_code hx
    have e8 : decide (l.length < 8) = decide ((l.length : Int) < 8) := by congr 1; rw [eq_iff_iff]; omega
    rw [e8] at e2
    refine Ev.step (fun kk => by rw [tollhouselaw15_AuthLess.l0, if_neg (by omega)]) ?_
    refine Ev.congr (fun kk => by rw [e1, Option.bind_some]) ?_
    refine Ev.congr (fun kk => if_pos (beq_self_eq_true _)) ?_
    refine Ev.congr (fun kk => by rw [e2, Option.bind_some]) ?_
    refine Ev.congr (fun kk => by rw [e3, Option.bind_some]) ?_
    cases tenMay x with
    | false => exact Ev.congr (fun kk => if_neg (by decide)) (Ev.congr (fun kk => if_pos (by simp)) (Ev.bind wakesEv15 (Ev.now _)))
    | true =>
      refine Ev.congr (fun kk => if_pos rfl) ?_
      cases l.any fun y => y.f0.toList == x.f0.toList with
      | true => exact Ev.congr (fun kk => if_pos rfl) (Ev.congr (fun kk => if_pos (by simp)) (Ev.bind wakesEv15 (Ev.now _)))
      | false => exact Ev.congr (fun kk => if_neg (by decide)) (Ev.congr (fun kk => if_pos (by simp)) (Ev.bind wakesEv15 (Ev.now _)))
  | succ d ih =>
    intro i hd hi
    have hlt : i < l.length := by omega
    have hnx := ih (i + 1) (by omega) (by omega)
    rw [List.take_succ_eq_append_getElem hlt, List.any_append, List.any_cons, List.any_nil, Bool.or_false] at hnx
    refine Ev.step (fun kk => by rw [tollhouselaw15_AuthLess.l0, if_pos (by omega), w64n i (by omega)]) ?_
    cases ha : (l.take i).any fun y => y.f0.toList == x.f0.toList with
    | true =>
      rw [ha, Bool.true_or] at hnx
      exact Ev.congr (fun kk => if_pos rfl) hnx
    | false =>
      rw [ha, Bool.false_or] at hnx
      refine Ev.congr (fun kk => if_neg (by decide)) (Ev.congr (fun kk => by rw [if_pos (by omega), rdTen l i hlt]) hnx)
end
theorem wf_u8 {x : Int} (h : (Lit.int .u8 x).wf = true) : 0 ≤ x ∧ x ≤ 255 := by
  have h1 : IntKind.u8.min = 0 := by decide
  have h2 : IntKind.u8.max = 255 := by decide
  simp [Lit.wf, h1, h2] at h
  omega
theorem AuthLess_true (l : List S27) (s t : Int) (x : S27) (a2 : Int) (hr0 : (∀ x ∈ l, TenLe x 1048576) ∧ l.length ≤ 1048576) (hr1 : TenLe x 1048576) (w2 : (Lit.int .u8 a2).wf = true) (hB : 0 ≤ 1048576) : ∃ k, tollhouselaw15_AuthLess.f k l s t x.f0 x.f1 x.f2 x.f3 x.f4 x.f5 x.f6 x.f7 x.f8 a2 = some true := by
  refine Ev.rounds (g := fun k => tollhouselaw15_AuthLess.f k l s t x.f0 x.f1 x.f2 x.f3 x.f4 x.f5 x.f6 x.f7 x.f8 a2) ?_
  have hb := wf_u8 w2
  unfold tollhouselaw15_AuthLess.f
  refine Ev.congr (fun kk => by rw [config_code l s t hr0.2 hr0.1, Option.bind_some]) ?_
  cases hc : (cfgOk l [] && cfgEnd l.length s t) with
  | false => exact Ev.congr (fun k => if_neg (by decide)) (Ev.bind wakesEv15 (Ev.now _))
  | true =>
    have hn := ((cfgEnd_iff _ _ _).1 ((Bool.and_eq_true _ _ ▸ hc).2)).1
    obtain ⟨k, hk, e⟩ : ∃ k : Nat, k < l.length ∧ Int.tmod (wrap64 a2) (l.length : Int) = (k : Int) := by
      refine ⟨a2.toNat % l.length, Nat.mod_lt _ (by omega), ?_⟩
      have e1 : wrap64 a2 = ((a2.toNat : Nat) : Int) := by unfold wrap64; omega
      rw [e1]
      rfl
    have ek : wrap64 ((k : Int) + 1) = ((k + 1 : Nat) : Int) := w64n k (by omega)
    have hlt : (l.take k).length ≤ 8 := by rw [List.length_take]; omega
    have hld : (l.drop k).length ≤ 8 := by rw [List.length_drop]; omega
    have hld1 : (l.drop (k + 1)).length ≤ 8 := by rw [List.length_drop]; omega
    refine Ev.congr (fun kk => if_pos rfl) ?_
    rw [e, ek]
    refine Ev.congr (fun kk => if_neg (by omega)) (Ev.congr (fun kk => if_pos (by omega)) (Ev.congr (fun kk => if_pos (by omega)) ?_))
    rw [Int.toNat_natCast, Int.toNat_natCast]
    refine Ev.congr (fun kk => Option.bind_some _ _) (Ev.congr (fun kk => if_pos (by rw [List.length_nil]; omega)) (Ev.congr (fun kk => Option.bind_some _ _) ?_))
    refine Ev.congr (fun kk => if_pos (by omega)) (Ev.congr (fun kk => if_pos (by omega)) (Ev.congr (fun kk => Option.bind_some _ _) (Ev.congr (fun kk => if_pos (by rw [List.nil_append]; omega)) ?_)))
    refine Ev.congr (fun kk => Option.bind_some _ _) (Ev.congr (fun kk => if_pos (by rw [List.length_nil]; omega)) (Ev.congr (fun kk => Option.bind_some _ _) (Ev.congr (fun kk => Option.bind_some _ _) ?_)))
    refine Ev.congr (fun kk => if_pos (by rw [List.nil_append, List.length_singleton]; omega)) (Ev.congr (fun kk => Option.bind_some _ _) (Ev.congr (fun kk => Option.bind_some _ _) ?_))
    refine Ev.congr (fun kk => if_pos (by rw [List.nil_append, List.length_append, List.length_singleton]; omega)) ?_
    exact less_l0 l s t k x hc hk hr0.2 hr0.1 hr1 l.length 0 (by omega) (Nat.zero_le _)
end Go.Proofs.YtepljhleaohbcaaGreatDoor.P
