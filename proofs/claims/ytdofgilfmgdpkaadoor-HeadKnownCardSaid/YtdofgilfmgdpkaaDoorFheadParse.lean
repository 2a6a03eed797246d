/- head.Parse: the walk, a part. -/
import Derived.Test.YtdofgilfmgdpkaaDoorFheadParseV
import Derived.Test.YtdofgilfmgdpkaaDoorFheadParseN
import Derived.Test.YtdofgilfmgdpkaaDoorFheadParseL
import Derived.Test.YtdofgilfmgdpkaaDoorFheadParseE
set_option linter.unusedVariables false
set_option linter.unusedSimpArgs false
namespace Go.Proofs.YtdofgilfmgdpkaaDoor.P
open Go.RowKit Go.Proofs.YtdofgilfmgdpkaaDoorW.PrintWords Go.Proofs.YtdofgilfmgdpkaaDoorW.PrintLast Go.Proofs.YtdofgilfmgdpkaaDoorW.PrintMore

set_option maxHeartbeats 4000000 in
set_option maxRecDepth 100000 in
theorem head_Parse.calls (A0 : Option Addr) (c0 : Nat) (l0 : List Int) (r1 : List S45) (r2 : Int) (r3 : Int) (w : World) (hr0 : Kd.C (Kd.int .u8) w A0 l0.length l0) (hc0 : l0.length ≤ c0) (h : head_Parse.f l0 = some (r1, r2, r3)) :
    Calls Tryd.prog 9 #[.slice A0 l0.length c0] w fun e w' => ∃ v0_ : Value, e = .returned (.tuple #[v0_, .int .i64 r2, .int .i64 r3]) ∧ Kd.R k45 45 w' w.heap.size (fun _ => True) v0_ r1 ∧ Below w.heap.size w w' := by
  unfold head_Parse.f at h
  split at h
  · rename_i hh
    have HF := Aside0.mk h
    have HH := Aside0.mk hh
    have HR := Aside0.mk hr0
    clear h hh hr0
    go_enter Tryd.func9, Tryd.ntmps9
    go_wp2
    refine wp_scope_labelsYtdofgilfmgdpkaaDoor (Q := PEnd (r1, r2, r3) w) (PJ l0 (r1, r2, r3) A0 c0 w) ?_ ?_
    · intro fall
      have FALL := Aside0.mk fall
      clear fall
      go_wp2
      go_step3
      rename_i hK
      refine hK _ _ ?_
      refine FALL.out (2 * l0.length + 2) trivial 0 _ _ ?_ _ rfl
      refine ⟨0, 0, 0, 0, [], _, 0, PFr.of _ _ rfl rfl, .inl ⟨rfl, HF.out⟩, ?_, Kd.R_nil _ _ _ _ _, ?_, Nat.zero_le _, by simp⟩
      · exact blk_new _ _
      · exact (Below.refl _ w).alloc (Nat.le_refl _) _
    · intro g fall lab a wr hJ
      obtain ⟨pl, from', to', c, l, v6, e9, hF, hL, hS⟩ := hJ
      have HC : Aside0 (PC l0 A0 c0 w) := ⟨HR.out, hc0, HH.out.1, HH.out.2⟩
      rcases hL with ⟨rfl, hp⟩ | ⟨rfl, hp, q1, q2, q3⟩ | ⟨rfl, hp, q1, q2, q3⟩ | ⟨rfl, hp, q1, q2, q3⟩ | ⟨rfl, hp⟩ | ⟨rfl, hp⟩ | ⟨rfl, hp⟩ | ⟨rfl, hp⟩
      · exact lab_line l0 _ A0 c0 w g a wr HC fall pl from' to' c l v6 e9 hF ⟨hS⟩ hp
      · exact lab_name l0 _ A0 c0 w g a wr HC fall pl from' to' c l v6 e9 hF ⟨hS⟩ hp q1 q2 q3
      · exact lab_value l0 _ A0 c0 w g a wr HC fall pl from' to' c l v6 e9 hF ⟨hS⟩ hp q1 q2 q3
      · exact lab_ended l0 _ A0 c0 w g a wr HC fall pl from' to' c l v6 e9 hF ⟨hS⟩ hp q1 q2 q3
      · exact lab_fin l0 _ A0 c0 w g a wr HC fall pl from' to' c l v6 e9 hF ⟨hS⟩ hp
      · exact lab_big l0 _ A0 c0 w g a wr HC fall pl from' to' c l v6 e9 hF ⟨hS⟩ hp
      · exact lab_bad l0 _ A0 c0 w g a wr HC fall pl from' to' c l v6 e9 hF ⟨hS⟩ hp
      · exact lab_out l0 _ A0 c0 w g a wr HC fall pl from' to' c l v6 e9 hF ⟨hS⟩ hp
  · exact absurd h (by simp)
end Go.Proofs.YtdofgilfmgdpkaaDoor.P
