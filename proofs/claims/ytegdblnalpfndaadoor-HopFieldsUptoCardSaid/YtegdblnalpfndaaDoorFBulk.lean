/- The elements of the values of all fields of a name: what the walk of hop.Elements tells. -/
import Derived.Test.YtegdblnalpfndaaDoorFBulkA
import Derived.Test.YtegdblnalpfndaaDoorQhopElements
set_option linter.unusedVariables false
set_option linter.unusedSimpArgs false
namespace Go.Proofs.YtegdblnalpfndaaDoor.P
open Go.RowKit Go.Proofs.YtegdblnalpfndaaDoorW.PrintWords Go.Proofs.YtegdblnalpfndaaDoorW.PrintLast Go.Proofs.YtegdblnalpfndaaDoorW.PrintMore

theorem elements_from (vs : List ByteArray) (hs : sumS vs ≤ 1073741824) : ∀ (d i : Nat) (acc : List ByteArray), vs.length - i = d → i ≤ vs.length → acc = elsB (vs.take i) → Ev (fun k => hop_Elements.l0 k acc vs (vs.length : Int) (i : Int)) (elsB vs) := by
  have hlen : vs.length ≤ sumS vs := by
    clear hs
    induction vs with
    | nil => simp
    | cons x r ih => rw [sumS_cons, List.length_cons]; omega
  intro d
  induction d with
  | zero =>
    intro i acc hd hi ha
    rw [ha, List.take_of_length_le (by omega)]
    exact Ev.step (f := fun _ => some (elsB vs)) (fun k => by rw [hop_Elements.l0, if_neg (by omega)]) (Ev.now _)
  | succ d ih =>
    intro i acc hd hi ha
    have hlt : i < vs.length := by omega
    have hsz : vs[i].size + 1 ≤ sumS vs := by
      have : ∀ (l : List ByteArray) (x : ByteArray), x ∈ l → x.size + 1 ≤ sumS l := fun l => by
        induction l with
        | nil => intro x hx; cases hx
        | cons y r ih => intro x hx; rw [sumS_cons]; rcases List.mem_cons.1 hx with rfl | hx; omega; have := ih x hx; omega
      exact this vs _ (List.getElem_mem hlt)
    have ht : elsB (vs.take (i + 1)) = elsB (vs.take i) ++ listB vs[i] := by
      unfold elsB
      rw [List.take_succ_eq_append_getElem hlt, List.flatMap_append]; simp
    have htl : (elsB (vs.take (i + 1))).length ≤ sumS vs := by
      refine Nat.le_trans (elsB_length _) ?_
      conv => rhs; rw [← List.take_append_drop (i + 1) vs]
      unfold sumS; rw [List.map_append, List.sum_append]; omega
    refine Ev.step (f := fun k => hop_Elements.l0 k (elsB (vs.take (i + 1))) vs (vs.length : Int) ((i + 1 : Nat) : Int)) (fun k => ?_) (ih (i + 1) _ (by omega) (by omega) rfl)
    rw [ht, List.length_append] at htl
    rw [hop_Elements.l0, if_pos (by omega), if_pos (by omega), if_pos (by omega), rdS_at vs i hlt, list_ok _ (by omega), Option.bind_some, ha, if_pos (by omega), wrap1 i (by omega), ht]
theorem elements_ev (l : List S32) (n : ByteArray) (hl : bulkL l ≤ 1073741824) (hn : n.size ≤ 1073741824) : Ev (fun k => hop_Elements.f k l n) (elemsB l n) := by
  have h1 := bulkL_len l
  have h2 := getB_sum l n
  unfold hop_Elements.f
  refine Ev.bind ⟨l.length + 1, fun k hk => get_ok k l n (by omega) (fun x hx => by have := bulkL_mem hx; omega) (by omega) (by omega)⟩ ?_
  exact elements_from (getB l n) (by omega) _ 0 [] rfl (Nat.zero_le _) (by simp [elsB])
end Go.Proofs.YtegdblnalpfndaaDoor.P
