/- HopJudged: the plain law. -/
import Derived.Test.YtegdblnalpfndaaDoorPwakes11
import Derived.Test.YtegdblnalpfndaaDoorPRef02
import Derived.Test.YtegdblnalpfndaaDoorQtollhouselaw11HopJudged
set_option linter.unusedVariables false
set_option linter.unusedSimpArgs false
namespace Go.Proofs.YtegdblnalpfndaaDoor.P
open Go.RowKit Go.Proofs.YtegdblnalpfndaaDoorW.PrintWords Go.Proofs.YtegdblnalpfndaaDoorW.PrintLast Go.Proofs.YtegdblnalpfndaaDoorW.PrintMore

theorem tok_lowfin : ∀ n : Fin 256, tokI (lowI ((n.val : Nat) : Int)) = tokI ((n.val : Nat) : Int) := by decide +kernel
theorem tokB_low (a : ByteArray) : tokB (lowB a) = tokB a := by
  unfold tokB
  have h1 : (lowB a).data.toList.isEmpty = a.data.toList.isEmpty := by
    have : (lowB a).data.toList = a.data.toList.map lowU := rfl
    rw [this, List.isEmpty_map]
  have h2 : (bytesOf (lowB a)).all tokI = (bytesOf a).all tokI := by
    rw [bytes_lowB, List.all_map, Bool.eq_iff_iff, List.all_eq_true, List.all_eq_true]
    have e : ∀ c ∈ bytesOf a, (tokI ∘ lowI) c = tokI c := fun c hc => by
      obtain ⟨n, rfl⟩ := bytesOf_range hc
      exact tok_lowfin n
    exact ⟨fun h c hc => (e c hc) ▸ h c hc, fun h c hc => (e c hc).symm ▸ h c hc⟩
  rw [h1, h2]
theorem forAllB_low {a b : ByteArray} (h : lowB a = lowB b) : forAllB a = forAllB b := by
  unfold forAllB askS
  rw [← tokB_low a, ← tokB_low b, h]
theorem hopNames_not : hopNames.all (fun n => !forAllB n) = true := by decide +kernel
theorem getB_drop (l : List S32) (ns : List ByteArray) (n : ByteArray) (h : ∀ n' ∈ ns, lowB n' ≠ lowB n) : getB (dropB l ns) n = getB l n := by
  unfold getB dropB
  rw [List.filter_filter]
  congr 1
  apply List.filter_congr
  intro x _
  cases hs : sameB x.f0 n with
  | false => rfl
  | true =>
    have hn : hasName ns x = false := by
      unfold hasName
      rw [List.any_eq_false]
      intro n' hn' hc
      exact h n' hn' ((sameB_iff.1 hc).symm.trans (sameB_iff.1 hs))
    rw [hn]; rfl
theorem strip_keeps (l : List S32) (n : ByteArray) (h : forAllB n = true) : getB (stripB l) n = getB l n := by
  unfold stripB
  rw [getB_drop _ hopNames n, getB_drop _ (saidB l) n]
  · intro n' hn' e
    have h1 : forAllB n' = false := by
      have := (List.mem_filter.1 hn').2
      simpa using this
    rw [forAllB_low e, h] at h1
    cases h1
  · intro n' hn' e
    have h1 := List.all_eq_true.1 hopNames_not n' hn'
    rw [forAllB_low e, h] at h1
    cases h1
def connF (v : ByteArray) : S32 := ⟨⟨#[67, 111, 110, 110, 101, 99, 116, 105, 111, 110]⟩, v⟩
theorem conn_not : forAllB (⟨#[67, 111, 110, 110, 101, 99, 116, 105, 111, 110]⟩ : ByteArray) = false := by decide +kernel
theorem forAll_ok (a : ByteArray) (h : a.size ≤ 4398046511104) : hop_ForAll.f a = some (forAllB a) := by unfold hop_ForAll.f; rw [if_pos h]
theorem strip_ok (l : List S32) (h : bulkL l ≤ 1073741824) : hop_Strip.f l = some (stripB l) := by unfold hop_Strip.f; rw [if_pos h]
theorem stripB_bulk (l : List S32) : bulkL (stripB l) ≤ bulkL l := by unfold stripB; exact Nat.le_trans (dropB_bulk _ _) (dropB_bulk _ _)
theorem get_evH (l : List S32) (n : ByteArray) (hl : bulkL l ≤ 1073741824) (hn : n.size ≤ 1073741824) : Ev (fun k => head_Get.f k l n) (getB l n) := ⟨l.length + 1, fun k hk => get_ok k l n (by have := bulkL_len l; omega) (fun x hx => by have := bulkL_mem hx; omega) (by omega) (by omega)⟩
theorem t1 : forAllB (⟨#[69, 84, 97, 103]⟩ : ByteArray) = true := by decide +kernel
theorem t2 : forAllB (⟨#[99, 97, 99, 104, 101, 45, 99, 111, 110, 116, 114, 111, 108]⟩ : ByteArray) = true := by decide +kernel
theorem t3 : forAllB (⟨#[99, 111, 110, 110, 101, 99, 116, 105, 111, 110]⟩ : ByteArray) = false := by decide +kernel
theorem t4 : forAllB (⟨#[]⟩ : ByteArray) = false := by decide +kernel
theorem t5 : forAllB (⟨#[97, 103, 101, 32, 97, 117, 116, 104, 111, 114, 105, 122, 97, 116, 105, 111, 110]⟩ : ByteArray) = false := by decide +kernel
theorem judged_l1 (l s : List S32) (x7 : Int) (vs : List ByteArray) (hv : vs.length < 9223372036854775807) (next : Ev (fun k => tollhouselaw11_HopJudged.l0 k l s (wrap64 (x7 + 1))) true) : ∀ (d i : Nat), vs.length - i = d → i ≤ vs.length → Ev (fun k => tollhouselaw11_HopJudged.l1 k l s x7 vs vs (i : Int)) true := by
  intro d
  induction d with
  | zero =>
    intro i hd hi
    exact Ev.step (fun k => by rw [tollhouselaw11_HopJudged.l1, if_neg (by omega)]) next
  | succ d ih =>
    intro i hd hi
    refine Ev.step (fun k => by rw [tollhouselaw11_HopJudged.l1, if_pos (by omega), if_pos (by omega), if_pos (by omega), if_pos rfl, wrap1 i (by omega)]) (ih (i + 1) (by omega) (by omega))
theorem judged_l0 (l s : List S32) (hl : bulkL l ≤ 1048576) (hs : bulkL s ≤ 1073741824) (hk : ∀ x ∈ l, forAllB x.f0 = true → getB s x.f0 = getB l x.f0) : ∀ (d i : Nat), l.length - i = d → i ≤ l.length → Ev (fun k => tollhouselaw11_HopJudged.l0 k l s (i : Int)) true := by
  have hlen := bulkL_len l
  intro d
  induction d with
  | zero =>
    intro i hd hi
    refine Ev.step (fun k => by rw [tollhouselaw11_HopJudged.l0, if_neg (by omega), forAll_ok _ (by decide), t1, Option.bind_some, if_pos rfl, forAll_ok _ (by decide), t2, Option.bind_some, if_pos rfl, forAll_ok _ (by decide), t3, Option.bind_some, if_neg (by decide), forAll_ok _ (by decide), t4, Option.bind_some, if_neg (by decide), forAll_ok _ (by decide), t5, Option.bind_some, if_neg (by decide)]) (Ev.bind wakes11_ev (Ev.now _))
  | succ d ih =>
    intro i hd hi
    have hlt : i < l.length := by omega
    have hmem : l[i] ∈ l := List.getElem_mem hlt
    have hsz := bulkL_mem hmem
    have hgl := getB_length l l[i].f0
    have nxt := ih (i + 1) (by omega) (by omega)
    rw [← wrap1 i (by omega)] at nxt
    refine Ev.step (fun k => by rw [tollhouselaw11_HopJudged.l0, if_pos (by omega), if_pos (by omega), rd_at l i hlt, forAll_ok _ (by omega), Option.bind_some]) ?_
    cases hf : forAllB l[i].f0 with
    | false => exact Ev.congr (fun k => if_neg (by decide)) nxt
    | true =>
      refine Ev.congr (fun k => if_pos rfl) (Ev.bind (get_evH l l[i].f0 (by omega) (by omega)) (Ev.bind (get_evH s l[i].f0 hs (by omega)) ?_))
      rw [hk _ hmem hf]
      refine Ev.congr (fun k => if_pos rfl) ?_
      exact judged_l1 l s (i : Int) (getB l l[i].f0) (by omega) nxt _ 0 rfl (Nat.zero_le _)
theorem HopJudged_true (l : List S32) (a : ByteArray) (hl0 : l.length * 32 ≤ 140737488351232) (hy0 : ∀ x ∈ l, x.f0.size ≤ 140737488351232 ∧ x.f1.size ≤ 140737488351232) (w1 : a.size ≤ 140737488351232) (hB : bulkFs l + a.size ≤ 1048576) : ∃ k, tollhouselaw11_HopJudged.f k l a = some true := by
  have hbl := bulkFs_L' l
  have hlen := bulkL_len l
  have hb : bulkL l ≤ 1048576 := by omega
  refine Ev.rounds (g := fun k => tollhouselaw11_HopJudged.f k l a) ?_
  have hm : bulkL ([connF a] ++ l) ≤ 1073741824 := by
    rw [bulkL_append, bulkL_cons, show (connF a).f0.size = 10 from rfl, show (connF a).f1 = a from rfl, show bulkL [] = 0 from rfl]; omega
  have core := judged_l0 l (stripB ([connF a] ++ l)) hb (Nat.le_trans (stripB_bulk _) hm) (fun x hx hf => by
    rw [strip_keeps _ _ hf, getB_app, getB_not (connF a) x.f0 (by
      cases hs : sameB (connF a).f0 x.f0 with
      | false => rfl
      | true =>
        have e := forAllB_low (sameB_iff.1 hs)
        rw [hf] at e
        rw [show forAllB (connF a).f0 = false from conn_not] at e
        cases e), List.nil_append]) l.length 0 (by omega) (Nat.zero_le _)
  unfold tollhouselaw11_HopJudged.f
  refine Ev.congr (fun k => ?_) core
  rw [Option.bind_some, if_pos (by simp only [List.length_cons, List.length_nil]; omega)]
  have e := strip_ok ([connF a] ++ l) hm
  unfold connF at e
  rw [e, Option.bind_some]
  rfl
end Go.Proofs.YtegdblnalpfndaaDoor.P
