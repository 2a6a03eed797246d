/- HeadBack: fields go as bytes and come back. -/
import Derived.Test.YtdofgilfmgdpkaaDoorPParse
import Derived.Test.YtdofgilfmgdpkaaDoorPRef05
import Derived.Test.YtdofgilfmgdpkaaDoorPHead
import Derived.Test.YtdofgilfmgdpkaaDoorPwakes05
import Derived.Test.YtdofgilfmgdpkaaDoorQtollhouselaw05HeadBack
set_option linter.unusedVariables false
set_option linter.unusedSimpArgs false
namespace Go.Proofs.YtdofgilfmgdpkaaDoor.P
open Go.RowKit Go.Proofs.YtdofgilfmgdpkaaDoorW.PrintWords Go.Proofs.YtdofgilfmgdpkaaDoorW.PrintLast Go.Proofs.YtdofgilfmgdpkaaDoorW.PrintMore

theorem wakes_evB : Ev (fun k => tollhouselaw05_wakes.f k) true := Ev.of (fun k => tollhouselaw05_wakes.mono k) wakes05_true
theorem refSame_evB (a b : List S45) (hl : a.length < 9223372036854775807) : Ev (fun k => tollhouseref05_Same.f k a b) (decide (a = b)) := ⟨a.length + 1, fun k hk => refSame_ok k a b hl (by omega)⟩

/-- From one place to another without an end. -/
def PRun : List Int → Nat → PSt → PSt → Prop
  | [], _, s, t => s = t
  | c :: r, p, s, t => p < 2048 ∧ ∃ s', pstep s c = .go s' ∧ PRun r (p + 1) s' t
theorem pRun_pm : ∀ (a b : List Int) (p : Nat) (s t : PSt), PRun a p s t → pm (a ++ b) p s = pm b (p + a.length) t
  | [], b, p, s, t, h => by rw [PRun] at h; rw [h]; rfl
  | c :: r, b, p, s, t, h => by
    obtain ⟨hp, s', h1, h2⟩ := h
    rw [List.cons_append, pm_go (by omega) h1, pRun_pm r b (p + 1) s' t h2, List.length_cons]
    congr 1; omega
theorem pRun_app : ∀ (a b : List Int) (p : Nat) (s t u : PSt), PRun a p s t → PRun b (p + a.length) t u → PRun (a ++ b) p s u
  | [], b, p, s, t, u, h, k => by rw [PRun] at h; rw [h]; exact k
  | c :: r, b, p, s, t, u, h, k => by
    obtain ⟨hp, s', h1, h2⟩ := h
    exact ⟨hp, s', h1, pRun_app r b (p + 1) s' t u h2 (by rw [List.length_cons] at k; rwa [show p + 1 + r.length = p + (r.length + 1) by omega])⟩
/-- Of each beginning more is wanted. -/
theorem pRun_more : ∀ (a : List Int) (p : Nat) (s t : PSt) (k : Nat), PRun a p s t → pm (a.take k) p s = ([], 0, 8)
  | [], p, s, t, k, h => by rw [List.take_nil, pm_nil]
  | c :: r, p, s, t, 0, h => by rw [List.take_zero, pm_nil]
  | c :: r, p, s, t, k + 1, h => by
    obtain ⟨hp, s', h1, h2⟩ := h
    rw [List.take_succ_cons, pm_go (by omega) h1]
    exact pRun_more r (p + 1) s' t k h2
theorem run_name : ∀ (r nm : List Int) (l : List S45) (p : Nat), r.all tokI = true → nm.length + r.length ≤ 512 → p + r.length ≤ 2048 → PRun r p (.name nm l) (.name (nm ++ r) l)
  | [], nm, l, p, _, _, _ => by rw [PRun, List.append_nil]
  | c :: r, nm, l, p, h, h1, h2 => by
    rw [List.all_cons, Bool.and_eq_true] at h
    rw [List.length_cons] at h1 h2
    refine ⟨by omega, .name (nm ++ [c]) l, ?_, ?_⟩
    · rw [pstep, if_neg (by omega), if_neg (fun e => by rw [e, tok58] at h; exact absurd h.1 (by decide)), if_pos h.1]
    · have := run_name r (nm ++ [c]) l (p + 1) h.2 (by rw [List.length_append]; simp; omega) (by omega)
      rwa [List.append_assoc] at this
theorem run_value (nm : List Int) : ∀ (r vl : List Int) (l : List S45) (p : Nat), r.all shownI = true → nm.length + 1 + vl.length + r.length ≤ 512 → p + r.length ≤ 2048 → PRun r p (.value nm vl l) (.value nm (vl ++ r) l)
  | [], vl, l, p, _, _, _ => by rw [PRun, List.append_nil]
  | c :: r, vl, l, p, h, h1, h2 => by
    rw [List.all_cons, Bool.and_eq_true] at h
    rw [List.length_cons] at h1 h2
    refine ⟨by omega, .value nm (vl ++ [c]) l, ?_, ?_⟩
    · rw [pstep, if_neg (fun e => by rw [e] at h; exact absurd h.1 (by decide)), if_neg (by omega), if_pos h.1]
    · have := run_value nm r (vl ++ [c]) l (p + 1) h.2 (by rw [List.length_append]; simp; omega) (by omega)
      rwa [List.append_assoc] at this
theorem trim_blank (v : List Int) (h : trimL v = v) : trimL (32 :: v) = v := by
  conv => rhs; rw [← h]
  unfold trimL
  rw [List.reverse_cons]
  by_cases ha : v.reverse.all blankI = true
  · rw [dropW_pre _ _ _ ha, dropW_all _ _ ha]; rfl
  · rw [dropW_some _ _ _ (by simpa using ha), List.reverse_append, List.reverse_singleton, List.singleton_append, List.dropWhile_cons_of_pos (by decide)]
/-- One field's line. -/
theorem run_line (x : S45) (l : List S45) (p : Nat) (h : okF x = true) (hl : l.length < 32) (hp : p + (bytesOf (lineB x)).length ≤ 2048) : PRun (bytesOf (lineB x)) p (.line l) (.line (l ++ [x])) := by
  have hs : (bytesOf (lineB x)).length = x.f0.size + 2 + x.f1.size + 2 := by rw [bytesOf_length, lineB_size]
  unfold okF at h
  simp only [Bool.and_eq_true, decide_eq_true_eq] at h
  obtain ⟨ht, hv, htr, hn⟩ := h
  have htok : (bytesOf x.f0).all tokI = true ∧ bytesOf x.f0 ≠ [] := by
    unfold tokenB at ht
    rw [Bool.and_eq_true] at ht
    refine ⟨ht.2, fun e => ?_⟩
    have : x.f0.data.toList = [] := List.map_eq_nil_iff.1 e
    rw [this] at ht; simp at ht
  have hvis : (bytesOf x.f1).all shownI = true := hv
  have htrim : trimL (bytesOf x.f1) = bytesOf x.f1 := by
    rw [← bytes_trimB]
    have : trimB x.f1 = x.f1 := toList_inj' (by rw [ByteArray.toList_eq, ByteArray.toList_eq]; exact beq_iff_eq.1 htr)
    rw [this]
  have hb : bytesOf (lineB x) = bytesOf x.f0 ++ ([58] ++ (([32] ++ bytesOf x.f1) ++ [13, 10])) := by
    unfold lineB
    rw [bytes_append, bytes_append, bytes_append, show bytesOf ⟨#[58, 32]⟩ = [58, 32] from by decide, show bytesOf ⟨#[13, 10]⟩ = [13, 10] from by decide]
    simp
  rw [hs] at hp
  rw [hb]
  have h0 : (bytesOf x.f0).length = x.f0.size := bytesOf_length _
  have h1 : (bytesOf x.f1).length = x.f1.size := bytesOf_length _
  cases hf : bytesOf x.f0 with
  | nil => exact absurd hf htok.2
  | cons c r =>
    rw [hf] at htok h0
    rw [List.length_cons] at h0
    have hc := htok.1
    rw [List.all_cons, Bool.and_eq_true] at hc
    have hc13 : c ≠ 13 := fun e => by rw [e, tok13] at hc; exact absurd hc.1 (by decide)
    refine ⟨by omega, .name [c] l, by rw [pstep, if_neg hc13, if_neg (by omega), if_pos hc.1], ?_⟩
    have rn := run_name r [c] l (p + 1) hc.2 (by simp; omega) (by omega)
    refine pRun_app r _ (p + 1) _ _ _ rn ⟨by omega, .value ([c] ++ r) [] l, ?_, ?_⟩
    · rw [pstep, if_neg (by simp; omega), if_pos rfl]
    have rv := run_value ([c] ++ r) ([32] ++ bytesOf x.f1) [] l (p + 1 + r.length + 1) (by rw [List.all_append, hvis]; decide) (by simp; omega) (by simp; omega)
    have hsz : ([32] ++ bytesOf x.f1).length = x.f1.size + 1 := by rw [List.length_append, h1]; simp; omega
    refine pRun_app ([32] ++ bytesOf x.f1) [13, 10] _ _ _ _ rv ⟨by rw [hsz]; omega, .ended ([c] ++ r) ([] ++ ([32] ++ bytesOf x.f1)) l, by rw [pstep, if_pos rfl], by rw [hsz]; omega, .line (l ++ [x]), ?_, by rw [PRun]⟩
    rw [pstep, if_pos rfl]
    refine congrArg (fun y => PRes.go (PSt.line (l ++ [y]))) (field_eta _ _ ?_ ?_)
    · show strOfNums ([c] ++ r) = x.f0
      rw [List.singleton_append, ← hf, strNums_bytes]
    · show trimB (strOfNums ([] ++ ([32] ++ bytesOf x.f1))) = x.f1
      apply bytes_inj
      rw [bytes_trimB, bytes_strNums _ (fun y hy => by
        rw [List.nil_append] at hy
        rcases List.mem_append.1 hy with h | h
        · rw [List.mem_singleton.1 h]; omega
        · exact bytes_range h), List.nil_append, List.singleton_append, trim_blank _ htrim]
theorem run_lines : ∀ (r l : List S45) (p : Nat), r.all okF = true → l.length + r.length ≤ 32 → p + (r.flatMap fun x => bytesOf (lineB x)).length ≤ 2048 → PRun (r.flatMap fun x => bytesOf (lineB x)) p (.line l) (.line (l ++ r))
  | [], l, p, _, _, _ => by rw [List.flatMap_nil, PRun, List.append_nil]
  | x :: r, l, p, h, h1, h2 => by
    rw [List.all_cons, Bool.and_eq_true] at h
    rw [List.flatMap_cons, List.length_append] at h2
    rw [List.length_cons] at h1
    rw [List.flatMap_cons]
    refine pRun_app _ _ _ _ _ _ (run_line x l p h.1 (by omega) (by omega)) ?_
    have := run_lines r (l ++ [x]) (p + (bytesOf (lineB x)).length) h.2 (by rw [List.length_append]; simp; omega) (by omega)
    rwa [List.append_assoc] at this
theorem run_plain (l : List S45) (h : mayB l = true) : PRun (l.flatMap (fun x => bytesOf (lineB x)) ++ [13]) 0 (.line []) (.fin l) ∧ (l.flatMap fun x => bytesOf (lineB x)).length + 2 ≤ 2048 := by
  have hp := may_plain h
  have hlen : (plainB l).length = (l.flatMap fun x => bytesOf (lineB x)).length + 2 := by unfold plainB; rw [List.length_append]; rfl
  refine ⟨pRun_app _ _ _ _ _ _ (run_lines l [] 0 hp.2.2 (by simp; exact hp.2.1) (by omega)) ?_, by omega⟩
  rw [List.nil_append]
  exact ⟨by omega, .fin l, by rw [pstep, if_pos rfl], rfl⟩
theorem back_whole (l : List S45) (h : mayB l = true) (behind : List Int) : parseB (plainB l ++ behind) = (l, ((plainB l).length : Int), 0) := by
  obtain ⟨hr, hl⟩ := run_plain l h
  have hlen : (plainB l).length = (l.flatMap fun x => bytesOf (lineB x)).length + 2 := by unfold plainB; rw [List.length_append]; rfl
  unfold parseB
  rw [show plainB l ++ behind = (l.flatMap (fun x => bytesOf (lineB x)) ++ [13]) ++ (10 :: behind) by unfold plainB; simp, pRun_pm _ _ _ _ _ hr]
  have h13 : (l.flatMap (fun x => bytesOf (lineB x)) ++ [13]).length = (l.flatMap fun x => bytesOf (lineB x)).length + 1 := by rw [List.length_append]; rfl
  rw [pm_done (l := l) (by rw [h13]; omega) (by rw [pstep, if_pos rfl]), h13, hlen]
  congr 2
  omega
theorem back_part (l : List S45) (h : mayB l = true) (k : Nat) (hk : k < (plainB l).length) : parseB ((plainB l).take k) = ([], 0, 8) := by
  obtain ⟨hr, hl⟩ := run_plain l h
  have hlen : (plainB l).length = (l.flatMap fun x => bytesOf (lineB x)).length + 2 := by unfold plainB; rw [List.length_append]; rfl
  unfold parseB
  have : (plainB l).take k = (l.flatMap (fun x => bytesOf (lineB x)) ++ [13]).take k := by
    have h13 : (l.flatMap (fun x => bytesOf (lineB x)) ++ [13]).length = (l.flatMap fun x => bytesOf (lineB x)).length + 1 := by rw [List.length_append]; rfl
    rw [show plainB l = (l.flatMap (fun x => bytesOf (lineB x)) ++ [13]) ++ [10] by unfold plainB; simp, List.take_append_of_le_length (by rw [h13]; omega)]
  rw [this]
  exact pRun_more _ _ _ _ k hr
theorem plain_bytes (l : List S45) : (plainB l).all isByte = true := by
  have hb : ∀ x : Int, 0 ≤ x ∧ x ≤ 255 → isByte x = true := fun x h => by unfold isByte; rw [decide_eq_true h.1, decide_eq_true h.2]; rfl
  unfold plainB
  rw [List.all_append, Bool.and_eq_true]
  refine ⟨List.all_eq_true.2 fun x hx => ?_, by decide⟩
  obtain ⟨y, _, hy⟩ := List.mem_flatMap.1 hx
  exact hb x (bytes_range hy)
theorem wf_byteB {x : Int} (h : (Lit.int .u8 x).wf = true) : isByte x = true := by
  have h2 : 0 ≤ x ∧ x ≤ 255 := by
    have h1 : IntKind.u8.min = 0 := by decide
    have h2 : IntKind.u8.max = 255 := by decide
    simp [Lit.wf, h1, h2] at h
    omega
  unfold isByte
  simp [h2.1, h2.2]

theorem HeadBack_row (l : List S45) (b : List Int) (at_ : Int) (hl : l.length * 32 ≤ 140737488351232) (hx : ∀ x ∈ l, x.f0.size ≤ 140737488351232 ∧ x.f1.size ≤ 140737488351232) (hbl : b.length * 1 ≤ 140737488351232) (hbx : ∀ x ∈ b, (Lit.int .u8 x).wf = true) (hat : (Lit.int .u16 at_).wf = true) :
    ∃ k, tollhouselaw05_HeadBack.f k l b at_ = some true := by
  have hat2 : 0 ≤ at_ ∧ at_ ≤ 65535 := by
    have h1 : IntKind.u16.min = 0 := by decide
    have h2 : IntKind.u16.max = 65535 := by decide
    simp [Lit.wf, h1, h2] at hat
    omega
  refine Ev.rounds (g := fun k => tollhouselaw05_HeadBack.f k l b at_) ?_
  unfold tollhouselaw05_HeadBack.f
  refine Ev.bind (put_ok l hx) ?_
  rw [may_ok l hx]
  simp only [Option.bind_some]
  unfold putB
  by_cases hm : mayB l = true
  · have hp := may_plain hm
    rw [if_pos hm, hm]
    refine ev_if (fun h => by simp at h) (fun _ => ?_)
    refine ev_if (fun _ => ?_) (fun h => by simp at h)
    refine ev_if (fun _ => ?_) (fun h => absurd (show ([] : List Int).length + (plainB l).length < 140737488355328 by simp; omega) h)
    rw [List.nil_append]
    refine ev_if (fun _ => ?_) (fun h => absurd (show (plainB l).length + b.length < 140737488355328 by omega) h)
    rw [parse_ok (plainB l ++ b) (by rw [List.length_append]; omega) (by rw [List.all_append, plain_bytes, List.all_eq_true.2 fun x hx => wf_byteB (hbx x hx)]; rfl), back_whole l hm]
    simp only [Option.bind_some]
    refine ev_if (fun _ => ?_) (fun h => by simp at h)
    refine ev_if (fun _ => ?_) (fun h => by simp at h)
    refine Ev.bind (refSame_evB l l (by omega)) ?_
    rw [decide_eq_true rfl]
    refine ev_if (fun _ => ?_) (fun h => by simp at h)
    rw [decide_eq_false (show ¬ ((plainB l).length : Int) > 2048 by omega)]
    have hpos : 2 ≤ (plainB l).length := by unfold plainB; rw [List.length_append]; simp
    have hmod : 0 ≤ Int.tmod at_ ((plainB l).length : Int) ∧ Int.tmod at_ ((plainB l).length : Int) < ((plainB l).length : Int) := by
      rw [Int.tmod_eq_emod_of_nonneg hat2.1]
      exact ⟨Int.emod_nonneg _ (by omega), Int.emod_lt_of_pos _ (by omega)⟩
    have hw : wrap64 at_ = at_ := by unfold wrap64; omega
    refine Ev.step (f := fun k => (tollhouselaw05_wakes.f k).bind fun t351 => some t351) (fun k => ?_) (Ev.bind wakes_evB (Ev.now _))
    rw [tollhouselaw05_HeadBack.j0, if_neg (by decide), if_neg (by omega), hw, if_pos hmod.1, if_pos (by omega)]
    rw [parse_ok _ (by rw [List.length_take]; omega) (List.all_eq_true.2 fun x hx => List.all_eq_true.1 (plain_bytes l) x (List.mem_of_mem_take hx)), back_part l hm _ (by omega)]
    rfl
  · rw [if_neg hm]
    rw [Bool.not_eq_true] at hm
    rw [hm]
    refine ev_if (fun h => by simp at h) (fun _ => ?_)
    refine ev_if (fun h => by simp at h) (fun _ => ?_)
    refine ev_if (fun _ => ?_) (fun h => by simp at h)
    refine ev_if (fun _ => ?_) (fun h => by simp at h)
    exact Ev.bind wakes_evB (Ev.now _)
end Go.Proofs.YtdofgilfmgdpkaaDoor.P
