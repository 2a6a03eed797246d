/- FrameBodiless: the plain law. -/
import Derived.Test.YtcamdfjjdigaeaaDoorPawake07
import Derived.Test.YtcamdfjjdigaeaaDoorQtollhouselaw07FrameBodiless
set_option linter.unusedVariables false
set_option linter.unusedSimpArgs false
namespace Go.Proofs.YtcamdfjjdigaeaaDoor.P
open Go.RowKit Go.Proofs.YtcamdfjjdigaeaaDoorW.PrintWords Go.Proofs.YtcamdfjjdigaeaaDoorW.PrintLast Go.Proofs.YtcamdfjjdigaeaaDoorW.PrintMore

theorem bodyR_err (l : List S34) : (bodyR l).2.2 = 0 ∨ (bodyR l).2.2 = 21 := by
  unfold bodyR
  by_cases h : getB l teS ≠ []
  · rw [if_pos h]; exact .inl rfl
  · rw [if_neg h]
    cases elemsB l clS with
    | nil => exact .inl rfl
    | cons x r =>
      dsimp only
      by_cases h0 : (nB x).2 = 0
      · rw [if_pos h0]
        by_cases h4 : (nB x).1 > 4096
        · rw [if_pos h4]; exact .inr rfl
        · rw [if_neg h4]; exact .inl rfl
      · rw [if_neg h0]; exact .inr rfl
/-- What has no body by its status or method. -/
theorem bare_tells (status : Int) (method : ByteArray) (minor : Int) (l : List S34) (h : bareR status method) : respR status method minor l = (0, 0, if badMinor minor then 1 else if status < 100 ∨ status > 599 then 1 else if sureR minor l = false then 22 else 0) := by
  unfold respR
  by_cases h1 : badMinor minor
  · rw [if_pos h1, if_pos h1]
  · rw [if_neg h1, if_neg h1]
    by_cases h2 : status < 100 ∨ status > 599
    · rw [if_pos h2, if_pos h2]
    · rw [if_neg h2, if_neg h2]
      by_cases h3 : sureR minor l = false
      · rw [if_pos h3, if_pos h3]
      · rw [if_neg h3, if_neg h3, if_pos h]
theorem req_err (minor : Int) (l : List S34) : (badMinor minor ∧ (reqR minor l).2.2 = 1) ∨ (¬ badMinor minor ∧ sureR minor l = false ∧ (reqR minor l).2.2 = 22) ∨ (¬ badMinor minor ∧ sureR minor l = true ∧ ((reqR minor l).2.2 = 0 ∨ (reqR minor l).2.2 = 21)) := by
  unfold reqR
  by_cases h1 : badMinor minor
  · rw [if_pos h1]; exact .inl ⟨h1, rfl⟩
  · rw [if_neg h1]
    cases hs : sureR minor l with
    | false => rw [if_pos rfl]; exact .inr (.inl ⟨h1, rfl, rfl⟩)
    | true => rw [if_neg (by decide)]; exact .inr (.inr ⟨h1, rfl, bodyR_err l⟩)
theorem bare_like (status : Int) (method : ByteArray) (minor : Int) (l : List S34) (h : bareR status method) (h1 : 100 ≤ status) (h2 : status ≤ 599) : (respR status method minor l).1 = 0 ∧ ((respR status method minor l).2.2 = 0 ∨ (respR status method minor l).2.2 = (reqR minor l).2.2) := by
  rw [bare_tells status method minor l h]
  refine ⟨rfl, ?_⟩
  rcases req_err minor l with ⟨a, b⟩ | ⟨a, b, c⟩ | ⟨a, b, c⟩
  · rw [if_pos a, b]; exact .inr rfl
  · rw [if_neg a, if_neg (by omega), if_pos b, c]; exact .inr rfl
  · rw [if_neg a, if_neg (by omega), b, if_neg (by decide)]; exact .inl rfl
theorem bodiless_end (status : Int) (method : ByteArray) (minor : Int) (l : List S34) (hl : bulkL l ≤ 1073741824) (i : Nat) (hi : 4 ≤ i) : Ev (fun k => tollhouselaw07_FrameBodiless.l0 k (reqR minor l).2.2 [100, 199, 204, 304] 4 (i : Int) status method minor l) true := by
  refine Ev.step (f := fun k => (frame_Response.f k 299 (⟨#[67, 79, 78, 78, 69, 67, 84]⟩ : ByteArray) minor l).bind fun bt332 => ((tollhouselaw07_awake.f k).bind fun t335 => (if t335 = true then (if bt332.1 = 0 then (if bt332.2.2 = 0 then (some true) else (some (bt332.2.2 == (reqR minor l).2.2))) else (some false)) else (some false)))) (fun k => by rw [tollhouselaw07_FrameBodiless.l0, if_neg (by omega)]) (Ev.bind (resp_ok _ _ _ _ hl) (Ev.bind awake07_ev ?_))
  obtain ⟨h1, h2⟩ := bare_like 299 ⟨#[67, 79, 78, 78, 69, 67, 84]⟩ minor l (.inr (.inr (.inr (.inr ⟨by rw [ByteArray.toList_eq]; rfl, by decide⟩)))) (by decide) (by decide)
  refine Ev.congr (fun k => by rw [if_pos rfl, if_pos h1]) ?_
  by_cases h0 : (respR 299 ⟨#[67, 79, 78, 78, 69, 67, 84]⟩ minor l).2.2 = 0
  · exact Ev.congr (fun k => if_pos h0) (Ev.now _)
  · refine Ev.congr (fun k => if_neg h0) ?_
    rw [h2.resolve_left h0, beq_self_eq_true]
    exact Ev.now _
theorem bodiless_step (status : Int) (method : ByteArray) (minor : Int) (l : List S34) (hl : bulkL l ≤ 1073741824) (i : Nat) (s : Int) (hi : i < 4) (hs : rd [100, 199, 204, 304] (i : Int) = s) (hb : bareR s method) (h1 : 100 ≤ s) (h2 : s ≤ 599) (next : Ev (fun k => tollhouselaw07_FrameBodiless.l0 k (reqR minor l).2.2 [100, 199, 204, 304] 4 ((i + 1 : Nat) : Int) status method minor l) true) :
    Ev (fun k => tollhouselaw07_FrameBodiless.l0 k (reqR minor l).2.2 [100, 199, 204, 304] 4 (i : Int) status method minor l) true := by
  refine Ev.step (f := fun k => (frame_Response.f k s method minor l).bind fun bt329 => (if bt329.1 = 0 then (if bt329.2.2 = 0 then (tollhouselaw07_FrameBodiless.l0 k (reqR minor l).2.2 [100, 199, 204, 304] 4 ((i + 1 : Nat) : Int) status method minor l) else (if bt329.2.2 = (reqR minor l).2.2 then (tollhouselaw07_FrameBodiless.l0 k (reqR minor l).2.2 [100, 199, 204, 304] 4 ((i + 1 : Nat) : Int) status method minor l) else (some false))) else (some false))) (fun k => by rw [tollhouselaw07_FrameBodiless.l0, if_pos (by omega), if_pos (by omega), if_pos (by simp only [List.length_cons, List.length_nil]; omega), hs, w64n i (by omega)]) (Ev.bind (resp_ok _ _ _ _ hl) ?_)
  obtain ⟨a, b⟩ := bare_like s method minor l hb h1 h2
  refine Ev.congr (fun k => if_pos a) ?_
  by_cases h0 : (respR s method minor l).2.2 = 0
  · exact Ev.congr (fun k => if_pos h0) next
  · exact Ev.congr (fun k => by rw [if_neg h0, if_pos (b.resolve_left h0)]) next
theorem FrameBodiless_true (status : Int) (method : ByteArray) (minor : Int) (l : List S34) (hB : method.size + bulkFs l ≤ 1048576) : ∃ k, tollhouselaw07_FrameBodiless.f k status method minor l = some true := by
  have hb := bulkFs_L' l
  have hl : bulkL l ≤ 1073741824 := by omega
  refine Ev.rounds (g := fun k => tollhouselaw07_FrameBodiless.f k status method minor l) ?_
  have loop : Ev (fun k => tollhouselaw07_FrameBodiless.l0 k (reqR minor l).2.2 [100, 199, 204, 304] 4 ((0 : Nat) : Int) status method minor l) true :=
    bodiless_step status method minor l hl 0 100 (by decide) rfl (.inr (.inl (by decide))) (by decide) (by decide)
      (bodiless_step status method minor l hl 1 199 (by decide) rfl (.inr (.inl (by decide))) (by decide) (by decide)
        (bodiless_step status method minor l hl 2 204 (by decide) rfl (.inr (.inr (.inl rfl))) (by decide) (by decide)
          (bodiless_step status method minor l hl 3 304 (by decide) rfl (.inr (.inr (.inr (.inl rfl)))) (by decide) (by decide)
            (bodiless_end status method minor l hl 4 (by decide)))))
  have j3 : Ev (fun k => tollhouselaw07_FrameBodiless.j3 k (reqR minor l).2.2 false status method minor l) true :=
    Ev.step (f := fun k => tollhouselaw07_FrameBodiless.l0 k (reqR minor l).2.2 [100, 199, 204, 304] 4 ((0 : Nat) : Int) status method minor l) (fun k => by rw [tollhouselaw07_FrameBodiless.j3, if_neg (by decide), Option.bind_some]; rfl) loop
  have j2 : ∀ e : Int, Ev (fun k => tollhouselaw07_FrameBodiless.j2 k 0 0 e (reqR minor l).2.2 e status method minor l) true := fun e =>
    Ev.step (f := fun k => tollhouselaw07_FrameBodiless.j3 k (reqR minor l).2.2 false status method minor l) (fun k => by rw [tollhouselaw07_FrameBodiless.j2, if_pos rfl, if_pos rfl]; rfl) j3
  have j1 : ∀ (e x : Int) (b : Bool), (if b = true then 1 else x) = e → Ev (fun k => tollhouselaw07_FrameBodiless.j1 k 0 0 e (reqR minor l).2.2 x b status method minor l) true := fun e x b he => by
    subst he
    cases b with
    | true => exact Ev.step (f := fun k => tollhouselaw07_FrameBodiless.j2 k 0 0 1 (reqR minor l).2.2 1 status method minor l) (fun k => by rw [tollhouselaw07_FrameBodiless.j1, if_pos rfl]; rfl) (j2 1)
    | false => exact Ev.step (f := fun k => tollhouselaw07_FrameBodiless.j2 k 0 0 x (reqR minor l).2.2 x status method minor l) (fun k => by rw [tollhouselaw07_FrameBodiless.j1, if_neg (by decide)]; rfl) (j2 x)
  have j0 : ∀ (e x : Int), (if status < 100 ∨ status > 599 then 1 else x) = e → Ev (fun k => tollhouselaw07_FrameBodiless.j0 k 0 0 e (reqR minor l).2.2 x status method minor l) true := fun e x he => by
    refine Ev.step (f := fun k => if status < 100 then (tollhouselaw07_FrameBodiless.j1 k 0 0 e (reqR minor l).2.2 x true status method minor l) else (tollhouselaw07_FrameBodiless.j1 k 0 0 e (reqR minor l).2.2 x (decide (status > 599)) status method minor l)) (fun k => by rw [tollhouselaw07_FrameBodiless.j0]) ?_
    by_cases a : status < 100
    · rw [if_pos (.inl a)] at he
      exact Ev.congr (fun k => if_pos a) (j1 e x true (by rw [if_pos rfl]; exact he))
    · refine Ev.congr (fun k => if_neg a) ?_
      by_cases b : status > 599
      · rw [if_pos (.inr b)] at he
        rw [decide_eq_true b]
        exact j1 e x true (by rw [if_pos rfl]; exact he)
      · rw [if_neg (by omega)] at he
        rw [decide_eq_false b]
        exact j1 e x false (by rw [if_neg (by decide)]; exact he)
  unfold tollhouselaw07_FrameBodiless.f
  refine Ev.bind (resp_ok _ _ _ _ hl) (Ev.bind (req_ok minor l hl) ?_)
  rw [bare_tells status ⟨#[72, 69, 65, 68]⟩ minor l (.inl (by rw [ByteArray.toList_eq]; rfl))]
  dsimp only
  rcases req_err minor l with ⟨a, b⟩ | ⟨a, b, c⟩ | ⟨a, b, c⟩
  · refine Ev.congr (fun k => if_neg (by rw [b]; decide)) (j0 _ _ ?_)
    rw [if_pos a, b]; split <;> rfl
  · refine Ev.congr (fun k => if_neg (by rw [c]; decide)) (j0 _ _ ?_)
    rw [if_neg a, if_pos b, c]
  · rcases c with c | c
    · refine Ev.congr (fun k => if_neg (by rw [c]; decide)) (j0 _ _ ?_)
      rw [if_neg a, b, if_neg (show ¬ true = false by decide), c]
    · refine Ev.congr (fun k => if_pos c) (j0 _ _ ?_)
      rw [if_neg a, b, if_neg (show ¬ true = false by decide)]
end Go.Proofs.YtcamdfjjdigaeaaDoor.P
