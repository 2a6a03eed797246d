/- Plain law: StartRequests. -/
import Derived.Test.YtjmaobipfpiddaaDoorPRef06
import Derived.Test.YtjmaobipfpiddaaDoorQtollhouselaw06StartRequests
set_option linter.unusedVariables false
set_option linter.unusedSimpArgs false
namespace Go.Proofs.YtjmaobipfpiddaaDoor.P
open Go.RowKit Go.Proofs.YtjmaobipfpiddaaDoorW.PrintWords Go.Proofs.YtjmaobipfpiddaaDoorW.PrintLast Go.Proofs.YtjmaobipfpiddaaDoorW.PrintMore

theorem wakesEv06 : Ev (fun k => tollhouselaw06_wakes.f k) true := Ev.of (fun k => tollhouselaw06_wakes.mono k) tollhouselaw06_wakes.told
theorem i64Of {a : Int} (h : (Lit.int .i64 a).wf = true) : I64 a := by
  simp [Lit.wf, IntKind.min, IntKind.max, IntKind.signed, IntKind.bits] at h
  unfold I64
  omega
theorem mkOf (s : ByteArray) : ∃ l, s = mkB l := ⟨_, (mkB_data s).symm⟩
theorem ReqEv (l : U8s) (hl : l.length ≤ 1073741824) : Ev (fun k => start_Request.f k (mkB l)) (asQ (readQ l)) := Ev.of (fun k => start_Request.mono _ k) (Request_eq 0 l hl)
theorem digit01 {n : Int} (h0 : 0 ≤ n) (h1 : n ≤ 1) : strOfNums [(wrap64 (48 + n)) % 256] = mkB (Lib.itoa n) := by
  obtain rfl | rfl : n = 0 ∨ n = 1 := by omega
  · rw [show Lib.itoa 0 = [48] by decide +kernel]; decide +kernel
  · rw [show Lib.itoa 1 = [49] by decide +kernel]; decide +kernel
theorem refPutQ_bad (m t : ByteArray) (n : Int) : Ev (fun k => tollhouseref06_PutRequest.j0 k m t n true) (mkB [], 1) :=
  Ev.step (f := fun _ => some (mkB [], 1)) (fun k => by rw [tollhouseref06_PutRequest.j0, if_pos rfl]; rfl) (Ev.now _)
theorem refPutQ_good (m t : U8s) (n : Int) (hm : m.length ≤ 1048576) (ht : t.length ≤ 1048576) (h0 : 0 ≤ n) (h1 : n ≤ 1) : Ev (fun k => tollhouseref06_PutRequest.j0 k (mkB m) (mkB t) n false) (mkB (putQ m t n).1, (putQ m t n).2) := by
  have hI : (Lib.itoa n).length = 1 := by rw [(itoa_01 h0 h1).2.2.2.2]; rfl
  have e8 : (⟨#[32, 72, 84, 84, 80, 47, 49, 46]⟩ : ByteArray) = mkB (32 :: ver) := rfl
  have e1 : (⟨#[32]⟩ : ByteArray) = mkB [32] := rfl
  have hv : ver.length = 7 := rfl
  have hcat : (((mkB m ++ mkB [32]) ++ mkB t) ++ mkB (32 :: ver)) ++ mkB (Lib.itoa n) = mkB (lineQ m t n) := by
    rw [mkB_app, mkB_app, mkB_app, mkB_app]
    congr 1
    simp [lineQ]
  have hlen : (lineQ m t n).length ≤ 1073741824 := by unfold lineQ; simp only [List.length_append, List.length_cons]; omega
  refine Ev.step (f := fun k => (tollhouseref06_Request.f k (mkB (lineQ m t n))).bind fun bt235 => (if bt235.2.2.2 = 0 then (if bt235.1.toList = m then (if bt235.2.1.toList = t then (if bt235.2.2.1 = n then some (mkB (lineQ m t n), 0) else some (mkB [], 1)) else some (mkB [], 1)) else some (mkB [], 1)) else some (mkB [], 1))) (fun k => ?_) ?_
  · rw [tollhouseref06_PutRequest.j0, if_neg (by decide), e1, e8, if_pos (by rw [mkB_size]; omega), if_pos (by rw [mkB_app, mkB_size, mkB_size, List.length_append]; simp only [List.length_cons, List.length_nil]; omega), if_pos (by rw [mkB_app, mkB_app, mkB_size]; simp only [List.length_append, List.length_cons, List.length_nil]; omega), Option.bind_some, digit01 h0 h1,
      if_pos (by rw [mkB_app, mkB_app, mkB_app, mkB_size, mkB_size]; simp only [List.length_append, List.length_cons, List.length_nil]; omega), hcat, mkB_toList, mkB_toList]
    rfl
  · refine Ev.bind (refReq_mk _ hlen) ?_
    rcases putQ_cases m t n with ⟨h, ho⟩ | h
    · rw [read_put_Q h, h]
      refine Ev.congr (fun k => ?_) (Ev.now _)
      show (if (0 : Int) = 0 then (if (mkB m).toList = m then (if (mkB t).toList = t then (if n = n then some (mkB (lineQ m t n), (0 : Int)) else _) else _) else _) else _) = _
      rw [if_pos rfl, if_pos (mkB_toList m), if_pos (mkB_toList t), if_pos rfl]
    · rw [h]
      refine Ev.congr (fun k => ?_) (Ev.now _)
      rcases readQ_cases (lineQ m t n) with g | ⟨m', t', n', g, hp, _⟩
      · rw [g]; rfl
      · rw [g]
        show (if (0 : Int) = 0 then (if (mkB m').toList = m then (if (mkB t').toList = t then (if n' = n then some (mkB (lineQ m t n), (0 : Int)) else _) else _) else _) else _) = _
        rw [if_pos rfl, mkB_toList, mkB_toList]
        by_cases q1 : m' = m
        · rw [if_pos q1]
          by_cases q2 : t' = t
          · rw [if_pos q2]
            by_cases q3 : n' = n
            · subst q1 q2 q3
              rw [h] at hp
              exact absurd (Prod.mk.inj hp).2 (by decide)
            · rw [if_neg q3]
          · rw [if_neg q2]
        · rw [if_neg q1]
theorem refPutQ_mk (m t : U8s) (n : Int) (hm : m.length ≤ 1048576) (ht : t.length ≤ 1048576) : Ev (fun k => tollhouseref06_PutRequest.f k (mkB m) (mkB t) n) (mkB (putQ m t n).1, (putQ m t n).2) := by
  unfold tollhouseref06_PutRequest.f
  by_cases h0 : n = 0
  · refine Ev.congr (fun k => if_pos h0) ?_
    exact refPutQ_good m t n hm ht (by omega) (by omega)
  · refine Ev.congr (fun k => if_neg h0) ?_
    by_cases h1 : n = 1
    · rw [show (n != 1) = false by simpa using h1]
      exact refPutQ_good m t n hm ht (by omega) (by omega)
    · rw [show (n != 1) = true by simpa using h1]
      have e : putQ m t n = ([], 1) := by
        unfold putQ
        rw [if_neg (fun o : okQ m t n => by have := o.2.2.2.1; have := o.2.2.2.2.1; omega)]
      rw [e]
      exact refPutQ_bad _ _ _
theorem StartRequests_true (line method target : ByteArray) (minor : Int) (w0 : line.size ≤ 140737488351232) (w1 : method.size ≤ 140737488351232) (w2 : target.size ≤ 140737488351232) (w3 : (Lit.int .i64 minor).wf = true) (hB : line.size + method.size + target.size ≤ 1048576) : ∃ k, tollhouselaw06_StartRequests.f k line method target minor = some true := by
  obtain ⟨l, rfl⟩ := mkOf line
  obtain ⟨m, rfl⟩ := mkOf method
  obtain ⟨t, rfl⟩ := mkOf target
  simp only [mkB_size] at hB
  refine Ev.rounds (g := fun k => tollhouselaw06_StartRequests.f k (mkB l) (mkB m) (mkB t) minor) ?_
  unfold tollhouselaw06_StartRequests.f
  refine Ev.bind (ReqEv l (by omega)) (Ev.bind (refReq_mk l (by omega)) ?_)
  refine Ev.congr (fun k => by rw [PutRequest_eq m t minor (by omega) (by omega) (i64Of w3), Option.bind_some]) (Ev.bind (refPutQ_mk m t minor (by omega) (by omega)) ?_)
  refine Ev.congr (fun k => by rw [if_pos rfl, if_pos rfl, if_pos rfl, if_pos rfl, if_pos rfl, if_pos rfl]) (Ev.bind wakesEv06 (Ev.now _))
end Go.Proofs.YtjmaobipfpiddaaDoor.P
