/- HopLoops: the plain law. -/
import Derived.Test.YtegdblnalpfndaaDoorPwakes11
import Derived.Test.YtegdblnalpfndaaDoorQtollhouselaw11HopLoops
set_option linter.unusedVariables false
set_option linter.unusedSimpArgs false
namespace Go.Proofs.YtegdblnalpfndaaDoor.P
open Go.RowKit Go.Proofs.YtegdblnalpfndaaDoorW.PrintWords Go.Proofs.YtegdblnalpfndaaDoorW.PrintLast Go.Proofs.YtegdblnalpfndaaDoorW.PrintMore

def viaF : S32 := ⟨⟨#[86, 105, 97]⟩, ⟨#[49, 46, 49, 32, 116, 111, 108, 108, 104, 111, 117, 115, 101]⟩⟩
def closeF : S32 := ⟨⟨#[99, 111, 110, 110, 101, 99, 116, 105, 111, 110]⟩, ⟨#[97, 44, 32, 67, 76, 79, 83, 69]⟩⟩
theorem via_els : elemsB [viaF] viaN = [viaF.f1] := by decide +kernel
theorem via_loops : loopB viaF.f1 = true := by decide +kernel
theorem close_says : saysB [closeF] closeN = true := by decide +kernel
theorem via_low : lowB (⟨#[86, 73, 65]⟩ : ByteArray) = lowB viaN := by decide +kernel
theorem bulk_viaF : bulkL [viaF] = 17 := by decide +kernel
theorem bulk_closeF : bulkL [closeF] = 19 := by decide +kernel
theorem via_ok (l : List S32) (hl : bulkL l ≤ 1048576) : hop_Via.f l = some (l ++ [viaF]) := by
  have h1 := bulkL_len l
  unfold hop_Via.f cloneField.f
  rw [if_pos (by omega), Option.bind_some, if_pos (by omega)]
  rfl
theorem loops_ok (l : List S32) (hl : bulkL l ≤ 1073741824) : hop_Loops.f l = some (loopsB l) := by unfold hop_Loops.f; rw [if_pos hl]
theorem closes_ok (m : Int) (l : List S32) (hl : bulkL l ≤ 1073741824) : hop_Closes.f m l = some (closesB m l) := by unfold hop_Closes.f; rw [if_pos hl]
theorem loops_off (l : List S32) (f : S32) (h : sameB f.f0 viaN = false) : loopsB (l ++ [f]) = loopsB l := by
  unfold loopsB
  rw [elemsB_app, show elemsB [f] viaN = [] by unfold elemsB; rw [getB_not f viaN h]; rfl, List.append_nil]
theorem says_app (a b : List S32) (n : ByteArray) : saysB (a ++ b) n = (saysB a n || saysB b n) := by unfold saysB; rw [elemsB_app, List.any_append]
theorem closes_off (m : Int) (l : List S32) (f : S32) (h : sameB f.f0 connC = false) : closesB m (l ++ [f]) = closesB m l := by
  have e : ∀ n, saysB (l ++ [f]) n = saysB l n := fun n => by
    unfold saysB
    rw [elemsB_app, show elemsB [f] connC = [] by unfold elemsB; rw [getB_not f connC h]; rfl, List.append_nil]
  unfold closesB
  rw [e, e]
theorem HopLoops_true (l : List S32) (a b : ByteArray) (minor : Int) (hl0 : l.length * 32 ≤ 140737488351232) (hy0 : ∀ x ∈ l, x.f0.size ≤ 140737488351232 ∧ x.f1.size ≤ 140737488351232) (wa : a.size ≤ 140737488351232) (wb : b.size ≤ 140737488351232) (wi : (Lit.int .i64 minor).wf = true) (hB : bulkFs l + (a.size + b.size + 3) ≤ 1048576) : ∃ k, tollhouselaw11_HopLoops.f k l a b minor = some true := by
  have hbl := bulkFs_L' l
  have hlen := bulkL_len l
  have hb : bulkL l ≤ 1048576 := by omega
  refine Ev.rounds (g := fun k => tollhouselaw11_HopLoops.f k l a b minor) ?_
  have hf : bulkL [(⟨a, b⟩ : S32)] = a.size + b.size + 1 := by rw [bulkL_cons]; simp [bulkL]
  have hmore : bulkL (l ++ [(⟨a, b⟩ : S32)]) ≤ 1073741824 := by rw [bulkL_append, hf]; omega
  have hvia : bulkL (l ++ [viaF]) ≤ 1073741824 := by rw [bulkL_append, bulk_viaF]; omega
  have j2 : Ev (fun k => tollhouselaw11_HopLoops.j2 k l false) true := by
    have h1 := elements_ev (l ++ [viaF]) ⟨#[86, 73, 65]⟩ hvia (by decide)
    have h2 := elements_ev l ⟨#[118, 105, 97]⟩ (by omega) (by decide)
    have hle := elemsB_length l viaN
    refine Ev.step (fun k => by rw [tollhouselaw11_HopLoops.j2, if_neg (by decide), via_ok l hb, Option.bind_some]) (Ev.bind h1 (Ev.bind h2 ?_))
    have e : ((elemsB (l ++ [viaF]) ⟨#[86, 73, 65]⟩).length : Int) = wrap64 (((elemsB l ⟨#[118, 105, 97]⟩).length : Int) + 1) := by
      have e1 : elemsB (l ++ [viaF]) ⟨#[86, 73, 65]⟩ = elemsB l viaN ++ [viaF.f1] := by
        rw [elemsB_app]
        unfold elemsB
        rw [getB_like l via_low, getB_like [viaF] via_low]
        exact congrArg (fun z => elsB (getB l viaN) ++ z) via_els
      have e2 : elemsB l ⟨#[118, 105, 97]⟩ = elemsB l viaN := rfl
      rw [e1, e2, List.length_append, wrap1 _ (by omega)]
      rfl
    refine Ev.congr (fun k => if_pos e) ?_
    exact Ev.bind wakes11_ev (Ev.now _)
  have j1 : Ev (fun k => tollhouselaw11_HopLoops.j1 k l minor (l ++ [(⟨a, b⟩ : S32)]) false a b) true := by
    refine Ev.step (fun k => by rw [tollhouselaw11_HopLoops.j1, if_neg (by decide), textSame_ok a _ (by omega) (by decide), Option.bind_some, closes_ok _ _ hmore, closes_ok _ _ (show bulkL l ≤ 1073741824 by omega), Option.bind_some, Option.bind_some]) ?_
    cases hs : sameB a (⟨#[99, 111, 110, 110, 101, 99, 116, 105, 111, 110]⟩ : ByteArray) with
    | true => exact Ev.congr (fun k => if_pos rfl) j2
    | false =>
      refine Ev.congr (fun k => if_neg (by decide)) ?_
      rw [closes_off minor l ⟨a, b⟩ hs, bne_self_eq_false]
      exact j2
  have j0 : Ev (fun k => tollhouselaw11_HopLoops.j0 k l minor false a b) true := by
    refine Ev.step (fun k => by rw [tollhouselaw11_HopLoops.j0, if_neg (by decide), if_pos (by simp only [List.length_nil]; omega), Option.bind_some, Option.bind_some, List.nil_append, if_pos (by simp only [List.length_cons, List.length_nil]; omega), Option.bind_some, textSame_ok a _ (by omega) (by decide), Option.bind_some, loops_ok _ hmore, loops_ok _ (show bulkL l ≤ 1073741824 by omega), Option.bind_some, Option.bind_some]) ?_
    cases hs : sameB a (⟨#[118, 105, 97]⟩ : ByteArray) with
    | true => exact Ev.congr (fun k => if_pos rfl) j1
    | false =>
      refine Ev.congr (fun k => if_neg (by decide)) ?_
      rw [loops_off l ⟨a, b⟩ hs, bne_self_eq_false]
      exact j1
  have hL : loopsB (l ++ [viaF]) = true := by
    unfold loopsB
    rw [elemsB_app, List.any_append, via_els, List.any_cons, via_loops]
    simp
  have hC : closesB minor ([closeF] ++ l) = true := by
    unfold closesB
    rw [says_app, close_says, Bool.true_or, if_pos rfl]
  have hcl : bulkL ([closeF] ++ l) ≤ 1073741824 := by rw [bulkL_append, bulk_closeF]; omega
  unfold tollhouselaw11_HopLoops.f
  refine Ev.congr (fun k => ?_) j0
  rw [via_ok l hb, Option.bind_some, loops_ok _ hvia, hL, Option.bind_some, if_pos rfl, Option.bind_some, if_pos (by simp only [List.length_cons, List.length_nil]; omega)]
  have e := closes_ok minor ([closeF] ++ l) hcl
  rw [hC] at e
  unfold closeF at e
  rw [e, Option.bind_some]
  rfl
end Go.Proofs.YtegdblnalpfndaaDoor.P
