/- head.Parse: what it tells; and the law of a scope with several labels. -/
import Derived.Test.YtdofgilfmgdpkaaDoorFheadNext
import Derived.Test.YtdofgilfmgdpkaaDoorQTiny
import Derived.Test.YtdofgilfmgdpkaaDoorFtextTrim
import Derived.ScopeJumps
import Derived.WalkMore
set_option linter.unusedVariables false
set_option linter.unusedSimpArgs false
namespace Go
/-- As Q; by a goto to a label l: what J says of l. -/
def Exit.jumpsYtdofgilfmgdpkaaDoor (J : Nat → Act → World → Prop) (Q : Exit → Act → World → Prop) : Exit → Act → World → Prop
  | .goto l, a, w => J l a w
  | e, a, w => Q e a w
section
variable {P : Program} {a : Act} {w : World} {Q : Exit → Act → World → Prop}
/-- Whatever J says at a label, at a ghost that G lets in, the code behind the label goes on. -/
def FallsYtdofgilfmgdpkaaDoor (P : Program) (c : Code) (J : Nat → Nat → Act → World → Prop) (Q : Exit → Act → World → Prop) (G : Nat → Prop) : Prop :=
  ∀ g, G g → ∀ l a w, J g l a w → ∀ rest, findLabel c l = some (.seq .skip rest) → rest.wp P (Exit.jumpsYtdofgilfmgdpkaaDoor (fun l a w => ∃ g, G g ∧ J g l a w) Q) a w
theorem wp_scope_labelsYtdofgilfmgdpkaaDoor {c : Code} (J : Nat → Nat → Act → World → Prop)
    (first : FallsYtdofgilfmgdpkaaDoor P c J Q (fun _ => True) → c.wp P (Exit.jumpsYtdofgilfmgdpkaaDoor (fun l a w => ∃ g, True ∧ J g l a w) Q) a w)
    (pass : ∀ g, FallsYtdofgilfmgdpkaaDoor P c J Q (fun g' => g' < g) →
      ∀ l a w, J g l a w → ∃ rest, findLabel c l = some (.seq .skip rest) ∧ rest.wp P (Exit.jumpsYtdofgilfmgdpkaaDoor (fun l a w => ∃ g', g' < g ∧ J g' l a w) Q) a w) : (Code.scope c).wp P Q a w := by
  have pass : ∀ g l a w, J g l a w → ∃ rest, findLabel c l = some (.seq .skip rest) ∧ rest.wp P (Exit.jumpsYtdofgilfmgdpkaaDoor (fun l a w => ∃ g', g' < g ∧ J g' l a w) Q) a w := by
    intro g
    induction g using Nat.strongRecOn with
    | _ g ih =>
      refine pass g fun g' hlt l a w hJ rest hr => ?_
      obtain ⟨rest', hf, hw⟩ := ih g' hlt l a w hJ
      rw [hr] at hf
      obtain rfl : rest = rest' := by injection hf with h; injection h
      refine wp_mono hw ?_
      intro e a w hq
      cases e <;> first | exact hq | exact ⟨_, Nat.lt_trans hq.choose_spec.1 hlt, hq.choose_spec.2⟩
  have first := first fun g _ l a w hJ rest hr => by
    obtain ⟨rest', hf, hw⟩ := pass g l a w hJ
    rw [hr] at hf
    obtain rfl : rest = rest' := by injection hf with h; injection h
    refine wp_mono hw ?_
    intro e a w hq
    cases e <;> first | exact hq | exact ⟨_, trivial, hq.choose_spec.2⟩
  have first := wp_mono first (Q' := Exit.jumpsYtdofgilfmgdpkaaDoor (fun l a w => ∃ g, J g l a w) Q) fun e a w hq => by cases e <;> first | exact hq | exact ⟨_, hq.choose_spec.2⟩
  have pass : ∀ g l a w, J g l a w → ∃ rest, findLabel c l = some rest ∧ rest.wp P (Exit.jumpsYtdofgilfmgdpkaaDoor (fun l a w => ∃ g', g' < g ∧ J g' l a w) Q) a w := fun g l a w hJ => by
    obtain ⟨rest, hf, hw⟩ := pass g l a w hJ
    exact ⟨_, hf, wp_seq (wp_skip hw)⟩
  intro b k cs
  have hgo : ∀ l rest, findLabel c l = some rest → gotoIn l (.inScope c :: k) = some (.code rest :: .inScope c :: k) := fun l rest hf => by simp [gotoIn, hf]
  have key : ∀ n l a w, J n l a w → ∀ rest, findLabel c l = some rest → ∃ e a' w', Q e a' w' ∧ Arrives P (lone (b.at a (.code rest :: .inScope c :: k)) cs w) b k cs e a' w' := by
    intro n
    induction n using Nat.strongRecOn with
    | _ n ih =>
      intro l a w hJ rest hrest
      obtain ⟨rest', hf, hw⟩ := pass n l a w hJ
      rw [hrest] at hf
      obtain rfl := Option.some.inj hf
      obtain ⟨e, a₁, w₁, hq, harr⟩ := hw b (.inScope c :: k) cs
      cases e with
      | normal => exact ⟨.normal, a₁, w₁, hq, Steps.trans harr (.one step_inScope)⟩
      | exit id => exact ⟨.exit id, a₁, w₁, hq, fun k' hk => harr k' (by simp [exitTo, hk])⟩
      | goto l' =>
        obtain ⟨g', hlt, hJ'⟩ := hq
        obtain ⟨rest2, hf2, _⟩ := pass g' l' a₁ w₁ hJ'
        obtain ⟨e₂, a₂, w₂, hq₂, harr₂⟩ := ih g' hlt l' a₁ w₁ hJ' rest2 hf2
        exact ⟨e₂, a₂, w₂, hq₂, .of_steps (harr _ (hgo l' rest2 hf2)) harr₂⟩
      | ret => exact ⟨_, a₁, w₁, hq, harr⟩
      | panic ch => exact ⟨_, a₁, w₁, hq, harr⟩
      | outgrown => exact ⟨_, a₁, w₁, hq, harr⟩
  obtain ⟨e, a₁, w₁, hq, harr⟩ := first b (.inScope c :: k) cs
  cases e with
  | normal => exact ⟨.normal, a₁, w₁, hq, .head step_scope (Steps.trans harr (.one step_inScope))⟩
  | exit id => exact ⟨.exit id, a₁, w₁, hq, fun k' hk => .head step_scope (harr k' (by simp [exitTo, hk]))⟩
  | goto l' =>
    obtain ⟨g', hJ'⟩ := hq
    obtain ⟨rest2, hf2, _⟩ := pass g' l' a₁ w₁ hJ'
    obtain ⟨e₂, a₂, w₂, hq₂, harr₂⟩ := key _ l' a₁ w₁ hJ' rest2 hf2
    exact ⟨e₂, a₂, w₂, hq₂, .of_steps (.head step_scope (harr _ (hgo l' rest2 hf2))) harr₂⟩
  | ret => exact ⟨_, a₁, w₁, hq, .of_steps (.one step_scope) harr⟩
  | panic ch => exact ⟨_, a₁, w₁, hq, .of_steps (.one step_scope) harr⟩
  | outgrown => exact ⟨_, a₁, w₁, hq, .of_steps (.one step_scope) harr⟩
theorem jumps_retYtdofgilfmgdpkaaDoor {J : Nat → Act → World → Prop} (h : Q .ret a w) : Exit.jumpsYtdofgilfmgdpkaaDoor J Q .ret a w := h
end
end Go
namespace Go.Proofs.YtdofgilfmgdpkaaDoor.P
open Go.RowKit Go.Proofs.YtdofgilfmgdpkaaDoorW.PrintWords Go.Proofs.YtdofgilfmgdpkaaDoorW.PrintLast Go.Proofs.YtdofgilfmgdpkaaDoorW.PrintMore

/-- The first scope in a chain. -/
def firstScope : Code → Code
  | .seq a b => match a with
    | .scope c => c
    | _ => firstScope b
  | .scope c => c
  | _ => .skip
/-- The labels' chain of head.Parse. -/
noncomputable def parseScope : Code := firstScope (Tryd.f9.body.getD .skip)

/-- Where the reading stands: at a line's beginning, in its name, its value, behind its 0d, behind that of the empty line. -/
inductive PM where
  | line | name | value | ended | fin
abbrev PR := List S45 × Int × Int
def pField (b : List Int) (from' to' pl : Nat) : S45 := ⟨strOfNums ((b.drop from').take (to' - 1 - from')), trimB (strOfNums ((b.drop to').take (pl - 1 - to')))⟩
/-- Reading on, a byte a round at the most. -/
def pGo (b : List Int) : Nat → PM → Nat → Nat → Nat → Int → List S45 → Option PR
  | 0, _, _, _, _, _, _ => none
  | k + 1, .line, pl, _, to', _, l =>
    if pl = b.length then some ([], 0, 8) else if pl = 2048 then some ([], 0, 21)
    else if b.getD pl 0 = 13 then pGo b k .fin (pl + 1) pl to' (b.getD pl 0) l
    else if 32 ≤ l.length then some ([], 0, 21)
    else pGo b k .name (pl + 1) pl to' (b.getD pl 0) l
  | k + 1, .name, pl, from', to', c, l =>
    if c = 58 ∧ from' + 1 < pl then pGo b k .value pl from' pl c l
    else if tokI c = false then some ([], 0, 20)
    else if pl = b.length then some ([], 0, 8) else if pl = 2048 then some ([], 0, 21)
    else if ¬ b.getD pl 0 = 13 ∧ 512 < pl + 1 - from' then some ([], 0, 21)
    else pGo b k .name (pl + 1) from' to' (b.getD pl 0) l
  | k + 1, .value, pl, from', to', _, l =>
    if pl = b.length then some ([], 0, 8) else if pl = 2048 then some ([], 0, 21)
    else if b.getD pl 0 = 13 then pGo b k .ended (pl + 1) from' to' (b.getD pl 0) l
    else if 512 < pl + 1 - from' then some ([], 0, 21)
    else if shownI (b.getD pl 0) = false then some ([], 0, 20)
    else pGo b k .value (pl + 1) from' to' (b.getD pl 0) l
  | k + 1, .ended, pl, from', to', _, l =>
    if pl = b.length then some ([], 0, 8) else if pl = 2048 then some ([], 0, 21)
    else if b.getD pl 0 = 10 then pGo b k .line (pl + 1) from' to' (b.getD pl 0) (l ++ [pField b from' to' pl])
    else some ([], 0, 20)
  | _ + 1, .fin, pl, _, _, _, l =>
    if pl = b.length then some ([], 0, 8) else if pl = 2048 then some ([], 0, 21)
    else if b.getD pl 0 = 10 then some (l, (pl : Int) + 1, 0)
    else some ([], 0, 20)
/-- Whole numbers that are bytes. -/
def isByte (x : Int) : Bool := decide (0 ≤ x) && decide (x ≤ 255)
def head_Parse.f (l0 : List Int) : Option (List S45 × Int × Int) := if l0.length ≤ 140737488355328 ∧ l0.all isByte = true then pGo l0 (2 * l0.length + 2) .line 0 0 0 0 [] else none

theorem one_byte (n : Fin 256) : bytesOf (strOfNums [((n.val : Nat) : Int)]) = [((n.val : Nat) : Int)] := by
  revert n; decide +kernel
theorem byte_fin {x : Int} (h : isByte x = true) : ∃ n : Fin 256, x = ((n.val : Nat) : Int) := by
  unfold isByte at h
  rw [Bool.and_eq_true, decide_eq_true_eq, decide_eq_true_eq] at h
  exact ⟨⟨x.toNat, by omega⟩, by simp; omega⟩
theorem head_token_fin : ∀ n : Fin 256, head_token.f ((n.val : Nat) : Int) = some (tokI ((n.val : Nat) : Int)) := by decide +kernel
theorem head_shown_fin : ∀ n : Fin 256, head_shown.f ((n.val : Nat) : Int) = some (shownI ((n.val : Nat) : Int)) := by decide +kernel
theorem head_token_tells (x : Int) (h : isByte x = true) : head_token.f x = some (tokI x) := by
  obtain ⟨n, rfl⟩ := byte_fin h
  exact head_token_fin n
theorem head_shown_tells (x : Int) (h : isByte x = true) : head_shown.f x = some (shownI x) := by
  obtain ⟨n, rfl⟩ := byte_fin h
  exact head_shown_fin n
end Go.Proofs.YtdofgilfmgdpkaaDoor.P
