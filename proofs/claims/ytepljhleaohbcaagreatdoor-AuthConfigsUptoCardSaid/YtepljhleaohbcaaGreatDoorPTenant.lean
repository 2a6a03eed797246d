/- Tenants and configurations, plain: what the code and the document answer. -/
import Derived.Test.YtepljhleaohbcaaGreatDoorFauthConfig
import Derived.Test.YtepljhleaohbcaaGreatDoorFOpenT
import Derived.Test.YtepljhleaohbcaaGreatDoorPRules
import Derived.Test.YtepljhleaohbcaaGreatDoorPTextR
set_option linter.unusedVariables false
set_option linter.unusedSimpArgs false
namespace Go.Proofs.YtepljhleaohbcaaGreatDoor.P
open Go.RowKit Go.Proofs.YtepljhleaohbcaaGreatDoorW.PrintWords Go.Proofs.YtepljhleaohbcaaGreatDoorW.PrintLast Go.Proofs.YtepljhleaohbcaaGreatDoorW.PrintMore

def allB (l : List S46) : Bool := decide (l.length ≤ 16) && l.all mayB
theorem allRef_ok (l : List S46) (hl : l.length ≤ 1048576) (hR : ∀ x ∈ l, R2 x) : Ev (fun k => tollhouseref14_All.f k l) (allB l) := by
  have h := all_ref_l0 l hl hR l.length 0 (by omega) (Nat.zero_le _)
  rw [List.drop_zero, Bool.and_comm] at h
  exact h
section
variable (s : ByteArray) (l : List S46) (a2 a3 a4 a5 a6 a7 a8 : Int) (hs : s.size ≤ 1048576) (hl : l.length ≤ 1048576) (hR : ∀ x ∈ l, R2 x)
include hs hl hR
theorem ten_code : auth_Tenant.f s l a2 a3 a4 a5 a6 a7 a8 = some (tenB (tokMay s.data.toList && allB l) a2 a3 a4 a5 a6 a7 a8) := by
  unfold auth_Tenant.f
  have e := may_code s.data.toList (by rw [Array.length_toList]; have : s.data.size = s.size := rfl; omega)
  rw [mkB_data] at e
  rw [e, Option.bind_some]
  cases tokMay s.data.toList with
  | true => rw [if_pos rfl, all_code l hl hR, Option.bind_some, Bool.true_and]; rfl
  | false => rw [if_neg (by decide), Option.bind_some, Bool.false_and]
theorem ten_ref : Ev (fun k => tollhouseref15_Tenant.f k s l a2 a3 a4 a5 a6 a7 a8) (tenB (tokMay s.data.toList && allB l) a2 a3 a4 a5 a6 a7 a8) := by
  unfold tollhouseref15_Tenant.f
  have e := refMay15_ok s.data.toList (by rw [Array.length_toList]; have : s.data.size = s.size := rfl; omega)
  rw [mkB_data] at e
  have hj : ∀ b : Bool, Ev (fun k => tollhouseref15_Tenant.j0 k b s l a2 a3 a4 a5 a6 a7 a8) (tenB (!b) a2 a3 a4 a5 a6 a7 a8) := fun b => by
    refine Ev.step (f := fun _ => some (tenB (!b) a2 a3 a4 a5 a6 a7 a8)) (fun k => ?_) (Ev.now _)
    rw [tollhouseref15_Tenant.j0]
    cases b with
    | true => rw [if_pos rfl]; unfold tenB inB; simp
    | false =>
      rw [if_neg (by decide)]
      unfold tenB inB
      by_cases h0 : a2 < 0
      · rw [if_pos h0, decide_eq_false (show ¬ 0 ≤ a2 by omega)]; simp
      rw [if_neg h0, decide_eq_true (show 0 ≤ a2 by omega)]
      by_cases h1 : a2 > 262144
      · rw [if_pos h1, decide_eq_false (show ¬ a2 ≤ 262144 by omega)]; simp
      rw [if_neg h1, decide_eq_true (show a2 ≤ 262144 by omega)]
      by_cases h2 : a3 < 0
      · rw [if_pos h2, decide_eq_false (show ¬ 0 ≤ a3 by omega)]; simp
      rw [if_neg h2, decide_eq_true (show 0 ≤ a3 by omega)]
      by_cases h3 : a3 > 64
      · rw [if_pos h3, decide_eq_false (show ¬ a3 ≤ 64 by omega)]; simp
      rw [if_neg h3, decide_eq_true (show a3 ≤ 64 by omega)]
      by_cases h4 : a4 < 1
      · rw [if_pos h4, decide_eq_false (show ¬ 1 ≤ a4 by omega)]; simp
      rw [if_neg h4, decide_eq_true (show 1 ≤ a4 by omega)]
      by_cases h5 : a4 > 16
      · rw [if_pos h5, decide_eq_false (show ¬ a4 ≤ 16 by omega)]; simp
      rw [if_neg h5, decide_eq_true (show a4 ≤ 16 by omega)]
      by_cases h6 : a5 < 1
      · rw [if_pos h6, decide_eq_false (show ¬ 1 ≤ a5 by omega)]; simp
      rw [if_neg h6, decide_eq_true (show 1 ≤ a5 by omega)]
      by_cases h7 : a5 > 8
      · rw [if_pos h7, decide_eq_false (show ¬ a5 ≤ 8 by omega)]; simp
      rw [if_neg h7, decide_eq_true (show a5 ≤ 8 by omega)]
      by_cases h8 : a6 ≥ 0
      rotate_left
      · rw [if_neg h8, decide_eq_false (show ¬ 0 ≤ a6 by omega)]; simp
      rw [if_pos h8, decide_eq_true (show 0 ≤ a6 by omega)]
      by_cases h9 : a6 ≤ 16
      rotate_left
      · rw [if_neg h9, decide_eq_false (show ¬ a6 ≤ 16 by omega)]; simp
      rw [if_pos h9, decide_eq_true (show a6 ≤ 16 by omega)]
      by_cases h10 : a7 ≥ 1
      rotate_left
      · rw [if_neg h10, decide_eq_false (show ¬ 1 ≤ a7 by omega)]; simp
      rw [if_pos h10, decide_eq_true (show 1 ≤ a7 by omega)]
      by_cases h11 : a7 ≤ 1000
      rotate_left
      · rw [if_neg h11, decide_eq_false (show ¬ a7 ≤ 1000 by omega)]; simp
      rw [if_pos h11, decide_eq_true (show a7 ≤ 1000 by omega)]
      by_cases h12 : a8 ≥ 1
      rotate_left
      · rw [if_neg h12, decide_eq_false (show ¬ 1 ≤ a8 by omega)]; simp
      rw [if_pos h12, decide_eq_true (show 1 ≤ a8 by omega)]
      simp
  refine Ev.bind e ?_
  cases tokMay s.data.toList with
  | true =>
    refine Ev.congr (fun k => if_pos rfl) (Ev.bind (allRef_ok l hl hR) ?_)
    rw [Bool.true_and]
    have := hj (!(allB l))
    rw [Bool.not_not] at this
    exact this
  | false =>
    refine Ev.congr (fun k => if_neg (by decide)) ?_
    rw [Bool.false_and]
    exact hj true
end
/-! ### tenants -/
def tenMay (x : S27) : Bool := tenB (tokMay x.f0.data.toList && allB x.f1) x.f2 x.f3 x.f4 x.f5 x.f6 x.f7 x.f8
def T2 (x : S27) : Prop := TenLe x 1048576
theorem T2.rules {x : S27} (h : T2 x) : ∀ y ∈ x.f1, R2 y := h.2.2
theorem tenant_code {x : S27} (h : T2 x) : tenantO x = some (tenMay x) := ten_code x.f0 x.f1 x.f2 x.f3 x.f4 x.f5 x.f6 x.f7 x.f8 h.1 h.2.1 h.rules
theorem tenant_ref {x : S27} (h : T2 x) : Ev (fun k => tollhouseref15_Tenant.f k x.f0 x.f1 x.f2 x.f3 x.f4 x.f5 x.f6 x.f7 x.f8) (tenMay x) := ten_ref x.f0 x.f1 x.f2 x.f3 x.f4 x.f5 x.f6 x.f7 x.f8 h.1 h.2.1 h.rules
/-- May these tenants be, and did none of their tokens stand ahead? -/
def cfgOk : List S27 → List ByteArray → Bool
  | [], _ => true
  | x :: r, met => tenMay x && (!met.any (fun y => y.toList == x.f0.toList) && cfgOk r (x.f0 :: met))
theorem any_mem (x : ByteArray) (met : List ByteArray) : met.any (fun y => y.toList == x.toList) = true ↔ x ∈ met := by
  rw [List.any_eq_true]
  constructor
  · rintro ⟨y, hy, e⟩
    rw [← toList_inj' (beq_iff_eq.1 e)]
    exact hy
  · intro h
    exact ⟨x, h, beq_self_eq_true _⟩
theorem cfgAll_code : ∀ (l : List S27) (met : List ByteArray), (∀ x ∈ l, T2 x) → cfgAll l met = some (cfgOk l met)
  | [], _, _ => rfl
  | x :: r, met, h => by
    rw [cfgAll, cfgOk, tenant_code (h x List.mem_cons_self), Option.bind_some]
    cases hm : tenMay x with
    | false => rw [if_neg (by rintro ⟨h, _⟩; cases h), Bool.false_and]
    | true =>
      rw [Bool.true_and]
      by_cases hx : x.f0 ∈ met
      · rw [if_neg (fun h => h.2 hx), (any_mem _ _).2 hx]; rfl
      · rw [if_pos ⟨rfl, hx⟩, cfgAll_code r _ (fun y hy => h y (List.mem_cons_of_mem _ hy)), show met.any (fun y => y.toList == x.f0.toList) = false from Bool.eq_false_iff.2 fun h => hx ((any_mem _ _).1 h)]; rfl
theorem config_code (l : List S27) (s t : Int) (hl : l.length ≤ 1048576) (h : ∀ x ∈ l, T2 x) : auth_Config.f l s t = some (cfgOk l [] && cfgEnd l.length s t) := by
  unfold auth_Config.f
  rw [if_pos (by omega), cfgAll_code l [] h, Option.bind_some]
theorem rdTen (l : List S27) (i : Nat) (h : i < l.length) : rd_T27 l (i : Int) = l[i]'h := by
  unfold rd_T27
  rw [Int.toNat_natCast, List.getD_eq_getElem?_getD, List.getElem?_eq_getElem h]
  rfl
theorem config_l1 (l : List S27) (s t : Int) (hl : l.length ≤ 1048576) (i : Nat) (hi : i < l.length) (r : Bool) (hr : Ev (fun k => tollhouseref15_Config.l0 k ((i + 1 : Nat) : Int) l s t) r) : ∀ (d j : Nat), i - j = d → j ≤ i → Ev (fun k => tollhouseref15_Config.l1 k (i : Int) (j : Int) l s t) (!(((l.take i).drop j).any fun y => y.f0.toList == l[i].f0.toList) && r) := by
  intro d
  induction d with
  | zero =>
    intro j hd hj
    rw [List.drop_eq_nil_of_le (by rw [List.length_take]; omega), List.any_nil, Bool.not_false, Bool.true_and]
    exact Ev.step (fun k => by rw [tollhouseref15_Config.l1, if_neg (by omega), w64n i (by omega)]) hr
  | succ d ih =>
    intro j hd hj
    have hlt : j < (l.take i).length := by rw [List.length_take]; omega
    have hjl : j < l.length := by omega
    rw [List.drop_eq_getElem_cons hlt, List.any_cons, List.getElem_take]
    by_cases he : l[j].f0.toList = l[i].f0.toList
    · rw [show (l[j].f0.toList == l[i].f0.toList) = true from beq_iff_eq.2 he, Bool.true_or, Bool.not_true, Bool.false_and]
      exact Ev.step (f := fun _ => some false) (fun k => by rw [tollhouseref15_Config.l1, if_pos (by omega), if_pos (by omega), if_pos (by omega), if_pos (by omega), if_pos (by omega), rdTen l j hjl, rdTen l i hi, if_pos he]) (Ev.now _)
    · rw [show (l[j].f0.toList == l[i].f0.toList) = false from beq_eq_false_iff_ne.2 he, Bool.false_or]
      exact Ev.step (fun k => by rw [tollhouseref15_Config.l1, if_pos (by omega), if_pos (by omega), if_pos (by omega), if_pos (by omega), if_pos (by omega), rdTen l j hjl, rdTen l i hi, if_neg he, w64n j (by omega)]) (ih (j + 1) (by omega) (by omega))
theorem config_end (k n : Nat) (s t : Int) : (if (n : Int) < 1 then (some false) else (if (n : Int) > 8 then (some false) else (if s < 0 then (some false) else (if s > 16 then (some false) else (if t ≥ 1 then (some (decide (t ≤ 1099511627776))) else (some false)))))) = some (cfgEnd n s t) := by
  unfold cfgEnd
  repeat' split
  all_goals refine congrArg some ?_
  all_goals rw [Bool.eq_iff_iff]
  all_goals simp
  all_goals omega
theorem any_rev (l : List S27) (b : ByteArray) : ((l.map (·.f0)).reverse.any fun y => y.toList == b.toList) = l.any fun y => y.f0.toList == b.toList := by
  rw [Bool.eq_iff_iff, List.any_eq_true, List.any_eq_true]
  constructor
  · rintro ⟨y, hy, e⟩
    obtain ⟨x, hx, rfl⟩ := List.mem_map.1 (List.mem_reverse.1 hy)
    exact ⟨x, hx, e⟩
  · rintro ⟨x, hx, e⟩
    exact ⟨x.f0, List.mem_reverse.2 (List.mem_map.2 ⟨x, hx, rfl⟩), e⟩
theorem config_l0 (l : List S27) (s t : Int) (hl : l.length ≤ 1048576) (h : ∀ x ∈ l, T2 x) : ∀ (d i : Nat), l.length - i = d → i ≤ l.length → Ev (fun k => tollhouseref15_Config.l0 k (i : Int) l s t) (cfgOk (l.drop i) ((l.take i).map (·.f0)).reverse && cfgEnd l.length s t) := by
  intro d
  induction d with
  | zero =>
    intro i hd hi
    rw [List.drop_eq_nil_of_le (by omega), show cfgOk [] ((l.take i).map (·.f0)).reverse = true from rfl, Bool.true_and]
    exact Ev.step (f := fun _ => some (cfgEnd l.length s t)) (fun k => by rw [tollhouseref15_Config.l0, if_neg (by omega), config_end k]) (Ev.now _)
  | succ d ih =>
    intro i hd hi
    have hlt : i < l.length := by omega
    have hn := ih (i + 1) (by omega) (by omega)
    rw [List.drop_eq_getElem_cons hlt, cfgOk, any_rev]
    refine Ev.step (f := fun k => (tollhouseref15_Tenant.f k l[i].f0 l[i].f1 l[i].f2 l[i].f3 l[i].f4 l[i].f5 l[i].f6 l[i].f7 l[i].f8).bind fun t315 => (if t315 = true then (tollhouseref15_Config.l1 k (i : Int) 0 l s t) else (some false))) (fun k => by rw [tollhouseref15_Config.l0, if_pos (by omega), if_pos (by omega), rdTen l i hlt]) ?_
    refine Ev.bind (tenant_ref (h _ (List.getElem_mem hlt))) ?_
    cases tenMay l[i] with
    | false => rw [Bool.false_and, Bool.false_and]; exact Ev.congr (fun k => if_neg (by decide)) (Ev.now _)
    | true =>
      rw [Bool.true_and]
      refine Ev.congr (fun k => if_pos rfl) ?_
      have e : ((l.take (i + 1)).map (·.f0)).reverse = l[i].f0 :: ((l.take i).map (·.f0)).reverse := by
        rw [List.take_succ_eq_append_getElem hlt, List.map_append, List.reverse_append]
        rfl
      rw [e] at hn
      have := config_l1 l s t hl i hlt _ hn i 0 rfl (Nat.zero_le _)
      rw [List.drop_zero] at this
      rw [Bool.and_assoc]
      exact this
theorem config_ref (l : List S27) (s t : Int) (hl : l.length ≤ 1048576) (h : ∀ x ∈ l, T2 x) : Ev (fun k => tollhouseref15_Config.f k l s t) (cfgOk l [] && cfgEnd l.length s t) := by
  have := config_l0 l s t hl h l.length 0 (by omega) (Nat.zero_le _)
  rw [List.drop_zero] at this
  exact this
/-- What it is to be a configuration's tenants. -/
theorem cfgOk_iff : ∀ (l : List S27) (met : List ByteArray), cfgOk l met = true ↔ (∀ x ∈ l, tenMay x = true) ∧ (l.map (·.f0)).Nodup ∧ ∀ x ∈ l, x.f0 ∉ met
  | [], met => by simp [cfgOk]
  | x :: r, met => by
    have ha := any_mem x.f0 met
    rw [cfgOk, Bool.and_eq_true, Bool.and_eq_true, cfgOk_iff r, Bool.not_eq_true', List.map_cons, List.nodup_cons]
    constructor
    · rintro ⟨h1, h2, h3, h4, h5⟩
      refine ⟨?_, ⟨?_, h4⟩, ?_⟩
      · intro y hy
        rcases List.mem_cons.1 hy with rfl | hy
        · exact h1
        · exact h3 y hy
      · intro hm
        obtain ⟨y, hy, e⟩ := List.mem_map.1 hm
        exact h5 y hy (by rw [show y.f0 = x.f0 from e]; exact List.mem_cons_self)
      · intro y hy
        rcases List.mem_cons.1 hy with rfl | hy
        · intro hm; rw [ha.2 hm] at h2; cases h2
        · exact fun hm => h5 y hy (List.mem_cons_of_mem _ hm)
    · rintro ⟨h1, ⟨h2, h3⟩, h4⟩
      refine ⟨h1 x List.mem_cons_self, ?_, fun y hy => h1 y (List.mem_cons_of_mem _ hy), h3, ?_⟩
      · rw [Bool.eq_false_iff]; exact fun h => h4 x List.mem_cons_self (ha.1 h)
      · intro y hy hm
        rcases List.mem_cons.1 hm with e | hm
        · exact h2 (List.mem_map.2 ⟨y, hy, e⟩)
        · exact h4 y (List.mem_cons_of_mem _ hy) hm
end Go.Proofs.YtepljhleaohbcaaGreatDoor.P
