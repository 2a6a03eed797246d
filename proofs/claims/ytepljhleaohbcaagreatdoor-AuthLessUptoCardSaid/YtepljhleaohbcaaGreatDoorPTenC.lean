/- Tenants and configurations, plain: what the code answers. -/
import Derived.Test.YtepljhleaohbcaaGreatDoorFauthConfig
import Derived.Test.YtepljhleaohbcaaGreatDoorFOpenT
import Derived.Test.YtepljhleaohbcaaGreatDoorPRulesC
import Derived.Test.YtepljhleaohbcaaGreatDoorPText
set_option linter.unusedVariables false
set_option linter.unusedSimpArgs false
namespace Go.Proofs.YtepljhleaohbcaaGreatDoor.P
open Go.RowKit Go.Proofs.YtepljhleaohbcaaGreatDoorW.PrintWords Go.Proofs.YtepljhleaohbcaaGreatDoorW.PrintLast Go.Proofs.YtepljhleaohbcaaGreatDoorW.PrintMore

theorem tlInj {a b : ByteArray} (h : a.toList = b.toList) : a = b := by
  rw [ByteArray.toList_eq, ByteArray.toList_eq] at h
  cases a; cases b
  congr 1
  exact Array.toList_inj.1 h
def allB (l : List S46) : Bool := decide (l.length ≤ 16) && l.all mayB
section
variable (s : ByteArray) (l : List S46) (a2 a3 a4 a5 a6 a7 a8 : Int) (hs : s.size ≤ 1048576) (hl : l.length ≤ 1048576) (hR : ∀ x ∈ l, R2 x)
include hs hl hR
theorem ten_code : auth_Tenant.f s l a2 a3 a4 a5 a6 a7 a8 = some (tenB (tokMay s.data.toList && allB l) a2 a3 a4 a5 a6 a7 a8) := by
  unfold auth_Tenant.f
  have e := may_code s.data.toList (by rw [Array.length_toList]; have : s.data.size = s.size := rfl; omega)
  rw [mkB_data] at e
  rw [e, Option.bind_some]
  cases tokMay s.data.toList with
  | true => rw [if_pos rfl, all_code l hl hR, Option.bind_some, Bool.true_and]; rfl
  | false => rw [if_neg (by decide), Option.bind_some, Bool.false_and]
end
/-! ### tenants -/
def tenMay (x : S27) : Bool := tenB (tokMay x.f0.data.toList && allB x.f1) x.f2 x.f3 x.f4 x.f5 x.f6 x.f7 x.f8
def T2 (x : S27) : Prop := TenLe x 1048576
theorem T2.rules {x : S27} (h : T2 x) : ∀ y ∈ x.f1, R2 y := h.2.2
theorem tenant_code {x : S27} (h : T2 x) : tenantO x = some (tenMay x) := ten_code x.f0 x.f1 x.f2 x.f3 x.f4 x.f5 x.f6 x.f7 x.f8 h.1 h.2.1 h.rules
/-- May these tenants be, and did none of their tokens stand ahead? -/
def cfgOk : List S27 → List ByteArray → Bool
  | [], _ => true
  | x :: r, met => tenMay x && (!met.any (fun y => y.toList == x.f0.toList) && cfgOk r (x.f0 :: met))
theorem any_mem (x : ByteArray) (met : List ByteArray) : met.any (fun y => y.toList == x.toList) = true ↔ x ∈ met := by
  rw [List.any_eq_true]
  constructor
  · rintro ⟨y, hy, e⟩
    rw [← tlInj (beq_iff_eq.1 e)]
    exact hy
  · intro h
    exact ⟨x, h, beq_self_eq_true _⟩
theorem cfgAll_code : ∀ (l : List S27) (met : List ByteArray), (∀ x ∈ l, T2 x) → cfgAll l met = some (cfgOk l met)
  | [], _, _ => rfl
  | x :: r, met, h => by
    rw [cfgAll, cfgOk, tenant_code (h x List.mem_cons_self), Option.bind_some]
    cases hm : tenMay x with
    | false => rw [if_neg (by rintro ⟨h, _⟩; cases h), Bool.false_and]
    | true =>
      rw [Bool.true_and]
      by_cases hx : x.f0 ∈ met
      · rw [if_neg (fun h => h.2 hx), (any_mem _ _).2 hx]; rfl
      · rw [if_pos ⟨rfl, hx⟩, cfgAll_code r _ (fun y hy => h y (List.mem_cons_of_mem _ hy)), show met.any (fun y => y.toList == x.f0.toList) = false from Bool.eq_false_iff.2 fun h => hx ((any_mem _ _).1 h)]; rfl
theorem config_code (l : List S27) (s t : Int) (hl : l.length ≤ 1048576) (h : ∀ x ∈ l, T2 x) : auth_Config.f l s t = some (cfgOk l [] && cfgEnd l.length s t) := by
  unfold auth_Config.f
  rw [if_pos (by omega), cfgAll_code l [] h, Option.bind_some]
theorem rdTen (l : List S27) (i : Nat) (h : i < l.length) : rd_T27 l (i : Int) = l[i]'h := by
  unfold rd_T27
  rw [Int.toNat_natCast, List.getD_eq_getElem?_getD, List.getElem?_eq_getElem h]
  rfl
/-- What it is to be a configuration's tenants. -/
theorem cfgOk_iff : ∀ (l : List S27) (met : List ByteArray), cfgOk l met = true ↔ (∀ x ∈ l, tenMay x = true) ∧ (l.map (·.f0)).Nodup ∧ ∀ x ∈ l, x.f0 ∉ met
  | [], met => by simp [cfgOk]
  | x :: r, met => by
    have ha := any_mem x.f0 met
    rw [cfgOk, Bool.and_eq_true, Bool.and_eq_true, cfgOk_iff r, Bool.not_eq_true', List.map_cons, List.nodup_cons]
    constructor
    · rintro ⟨h1, h2, h3, h4, h5⟩
      refine ⟨?_, ⟨?_, h4⟩, ?_⟩
      · intro y hy
        rcases List.mem_cons.1 hy with rfl | hy
        · exact h1
        · exact h3 y hy
      · intro hm
        obtain ⟨y, hy, e⟩ := List.mem_map.1 hm
        exact h5 y hy (by rw [show y.f0 = x.f0 from e]; exact List.mem_cons_self)
      · intro y hy
        rcases List.mem_cons.1 hy with rfl | hy
        · intro hm; rw [ha.2 hm] at h2; cases h2
        · exact fun hm => h5 y hy (List.mem_cons_of_mem _ hm)
    · rintro ⟨h1, ⟨h2, h3⟩, h4⟩
      refine ⟨h1 x List.mem_cons_self, ?_, fun y hy => h1 y (List.mem_cons_of_mem _ hy), h3, ?_⟩
      · rw [Bool.eq_false_iff]; exact fun h => h4 x List.mem_cons_self (ha.1 h)
      · intro y hy hm
        rcases List.mem_cons.1 hm with e | hm
        · exact h2 (List.mem_map.2 ⟨y, hy, e⟩)
        · exact h4 y (List.mem_cons_of_mem _ hy) hm
end Go.Proofs.YtepljhleaohbcaaGreatDoor.P
