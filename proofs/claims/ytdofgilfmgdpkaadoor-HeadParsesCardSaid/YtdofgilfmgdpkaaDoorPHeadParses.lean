/- HeadParses: true for all bytes. -/
import Derived.Test.YtdofgilfmgdpkaaDoorPParse
import Derived.Test.YtdofgilfmgdpkaaDoorPRefSame
import Derived.Test.YtdofgilfmgdpkaaDoorPwakes05
import Derived.Test.YtdofgilfmgdpkaaDoorQtollhouselaw05HeadParses
set_option linter.unusedVariables false
set_option linter.unusedSimpArgs false
namespace Go.Proofs.YtdofgilfmgdpkaaDoor.P
open Go.RowKit Go.Proofs.YtdofgilfmgdpkaaDoorW.PrintWords Go.Proofs.YtdofgilfmgdpkaaDoorW.PrintLast Go.Proofs.YtdofgilfmgdpkaaDoorW.PrintMore

theorem wf_byte {x : Int} (h : (Lit.int .u8 x).wf = true) : isByte x = true := by
  have h2 : 0 ≤ x ∧ x ≤ 255 := by
    have h1 : IntKind.u8.min = 0 := by decide
    have h2 : IntKind.u8.max = 255 := by decide
    simp [Lit.wf, h1, h2] at h
    omega
  unfold isByte
  simp [h2.1, h2.2]
theorem wf_bytes {l : List Int} (h : ∀ x ∈ l, (Lit.int .u8 x).wf = true) : l.all isByte = true := List.all_eq_true.2 fun x hx => wf_byte (h x hx)
theorem wakes_ev : Ev (fun k => tollhouselaw05_wakes.f k) true := Ev.of (fun k => tollhouselaw05_wakes.mono k) wakes05_true
theorem refSame_ev (a b : List S45) (hl : a.length < 9223372036854775807) : Ev (fun k => tollhouseref05_Same.f k a b) (decide (a = b)) := ⟨a.length + 1, fun k hk => refSame_ok k a b hl (by omega)⟩
theorem pm_small : ∀ (b : List Int) (p : Nat) (s : PSt), (match s with | .line l => l.length ≤ 32 | .name _ l => l.length < 32 | .value _ _ l => l.length < 32 | .ended _ _ l => l.length < 32 | .fin l => l.length ≤ 32) → (pm b p s).1.length ≤ 32
  | [], _, _, _ => by rw [pm_nil]; exact Nat.zero_le _
  | c :: r, p, s, h => by
    by_cases hq : 2048 ≤ p
    · rw [pm_big _ _ _ _ hq]; exact Nat.zero_le _
    have ih := fun s' h' => pm_small r (p + 1) s' h'
    have herr : ∀ e : Int, pstep s c = .err e → (pm (c :: r) p s).1.length ≤ 32 := fun e he => by rw [pm_err hq he]; exact Nat.zero_le _
    match s, h, herr with
    | .line l, h, herr =>
      by_cases c13 : c = 13
      · rw [pm_go hq (by rw [pstep, if_pos c13])]; exact ih _ h
      by_cases h3 : 32 ≤ l.length
      · exact herr _ (by rw [pstep, if_neg c13, if_pos h3])
      by_cases ht : tokI c = true
      · rw [pm_go hq (by rw [pstep, if_neg c13, if_neg h3, if_pos ht])]; exact ih _ (show l.length < 32 by omega)
      · exact herr _ (by rw [pstep, if_neg c13, if_neg h3, if_neg ht])
    | .name nm l, h, herr =>
      by_cases h1 : c ≠ 13 ∧ 512 < nm.length + 1
      · exact herr _ (by rw [pstep, if_pos h1])
      by_cases h2 : c = 58
      · rw [pm_go hq (by rw [pstep, if_neg h1, if_pos h2])]; exact ih _ h
      by_cases ht : tokI c = true
      · rw [pm_go hq (by rw [pstep, if_neg h1, if_neg h2, if_pos ht])]; exact ih _ h
      · exact herr _ (by rw [pstep, if_neg h1, if_neg h2, if_neg ht])
    | .value nm vl l, h, herr =>
      by_cases c13 : c = 13
      · rw [pm_go hq (by rw [pstep, if_pos c13])]; exact ih _ h
      by_cases h1 : 512 < nm.length + 1 + vl.length + 1
      · exact herr _ (by rw [pstep, if_neg c13, if_pos h1])
      by_cases ht : shownI c = true
      · rw [pm_go hq (by rw [pstep, if_neg c13, if_neg h1, if_pos ht])]; exact ih _ h
      · exact herr _ (by rw [pstep, if_neg c13, if_neg h1, if_neg ht])
    | .ended nm vl l, h, herr =>
      by_cases c10 : c = 10
      · rw [pm_go hq (by rw [pstep, if_pos c10])]; exact ih _ (by simp at h ⊢; omega)
      · exact herr _ (by rw [pstep, if_neg c10])
    | .fin l, h, herr =>
      by_cases c10 : c = 10
      · rw [pm_done hq (by rw [pstep, if_pos c10])]; exact h
      · exact herr _ (by rw [pstep, if_neg c10])
theorem parseB_small (b : List Int) : (parseB b).1.length ≤ 32 := pm_small b 0 _ (Nat.zero_le _)

theorem HeadParses_row (l : List Int) (hl : l.length * 1 ≤ 140737488351232) (hx : ∀ x ∈ l, (Lit.int .u8 x).wf = true) : ∃ k, tollhouselaw05_HeadParses.f k l = some true := by
  have hb := wf_bytes hx
  have hs := parseB_small l
  refine Ev.rounds (g := fun k => tollhouselaw05_HeadParses.f k l) ?_
  refine Ev.congr (f := fun k => (tollhouseref05_Parse.f k l).bind fun bt => (tollhouseref05_Same.f k (parseB l).1 bt.1).bind fun t => if t = true then (if (parseB l).2.1 = bt.2.1 then (if (parseB l).2.2 = bt.2.2 then (if (strOfNums l).toList = (strOfNums l).toList then ((tollhouselaw05_wakes.f k).bind fun t => some t) else some false) else some false) else some false) else some false) (fun k => ?_) ?_
  · unfold tollhouselaw05_HeadParses.f
    rw [if_pos (by simp; omega), Option.bind_some, List.nil_append, parse_ok l (by omega) hb, Option.bind_some]
  · refine Ev.bind (refParse_ok l (by omega) hb) ?_
    refine Ev.bind (refSame_ev _ _ (by omega)) ?_
    simp only [decide_true, if_true]
    exact Ev.bind wakes_ev (Ev.now _)
end Go.Proofs.YtdofgilfmgdpkaaDoor.P
