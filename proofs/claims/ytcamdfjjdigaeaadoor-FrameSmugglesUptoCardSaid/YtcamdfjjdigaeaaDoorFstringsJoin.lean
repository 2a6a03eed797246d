/- strings.Join of a row of the call's own. -/
import Derived.Test.YtcamdfjjdigaeaaDoorQ0
import Derived.Test.YtcamdfjjdigaeaaDoorShelf
set_option linter.unusedVariables false
set_option linter.unusedSimpArgs false
namespace Go.Proofs.YtcamdfjjdigaeaaDoor.P
open Go.RowKit Go.Proofs.YtcamdfjjdigaeaaDoorW.PrintWords Go.Proofs.YtcamdfjjdigaeaaDoorW.PrintLast Go.Proofs.YtcamdfjjdigaeaaDoorW.PrintMore
/-- A row that is read from its block's begin. -/
def JoinRow (w : World) (A : Option Addr) (l : List ByteArray) : Prop := l = [] ∨ ∃ g, A = some ⟨g, 0, none⟩ ∧ g < w.heap.size ∧ ∀ (j : Nat) (x : ByteArray), l[j]? = some x → w.cell? ⟨g, 0 + j, none⟩ = some (.string x)
theorem joinRow {w : World} {base : Nat} {ok : Nat → Prop} {A : Option Addr} {c : Nat} {l : List ByteArray} (h : Kd.R Kd.string 9 w base ok (.slice A l.length c) l) : JoinRow w A l := by
  match l, h with
  | [], _ => exact .inl rfl
  | x :: r, h =>
    right
    obtain ⟨g, hA⟩ : ∃ g, A = some ⟨g, 0, none⟩ := by
      obtain ⟨_, inner, ⟨hlen, ho⟩, _⟩ := h
      rcases ho with ⟨e, _⟩ | ⟨g, cap, cur, e, _⟩
      · injection e with _ e _; simp at e
      · injection e with e _ _; exact ⟨g, e⟩
    subst hA
    refine ⟨g, rfl, ?_, fun j y hj => ?_⟩
    · have := (Kd.R_cell ByteArray.empty h 0 (by omega) (by simp)).1
      exact World.block_lt_of_cell? w _ this
    · obtain ⟨hjl, rfl⟩ := List.getElem?_eq_some_iff.1 hj
      have := (Kd.R_cell ByteArray.empty h (j : Int) (by omega) (by omega)).1
      rw [Nat.zero_add]
      unfold rdOf at this
      rw [Int.toNat_natCast, List.getD_eq_getElem?_getD, List.getElem?_eq_getElem hjl] at this
      exact this
def joinLen (l : List ByteArray) (s : ByteArray) : Nat := (Lib.join (l.map (·.data.toList)) s.data.toList).length
def joinOf (l : List ByteArray) (s : ByteArray) : ByteArray := ⟨(Lib.join (l.map (·.data.toList)) s.data.toList).toArray⟩
def strings_Join.f (l0 : List ByteArray) (a1 : ByteArray) : Option ByteArray := if l0.length ≤ 1073741824 ∧ joinLen l0 a1 ≤ 1073741824 then some (joinOf l0 a1) else none
theorem strings_Join.calls (A0 : Option Addr) (c0 : Nat) (l0 : List ByteArray) (a1 r : ByteArray) (w : World) (hr0 : JoinRow w A0 l0) (hc0 : l0.length ≤ c0) (h : strings_Join.f l0 a1 = some r) :
    Calls Tryd.prog 20 #[.slice A0 l0.length c0, .string a1] w fun e w' => e = .returned (.string r) ∧ Below w.heap.size w w' := by
  unfold strings_Join.f at h
  split at h
  · rename_i hc
    have hr := Option.some.inj h
    subst hr
    rcases hr0 with rfl | ⟨g, rfl, hg, hcell⟩
    · refine (Tryd.strings_Join_none A0 c0 a1 w).mono fun e w' ⟨he, hw⟩ => ⟨he, ?_⟩
      subst hw
      exact Below.refl _ _
    · unfold joinLen at hc
      exact Tryd.strings_Join g 0 c0 l0 a1 w hcell hg (by omega) hc0 (by omega)
  · exact absurd h (by simp)
end Go.Proofs.YtcamdfjjdigaeaaDoor.P
