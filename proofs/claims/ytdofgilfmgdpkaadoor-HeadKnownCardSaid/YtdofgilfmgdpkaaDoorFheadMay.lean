/- head.May: may these fields be? -/
import Derived.Test.YtdofgilfmgdpkaaDoorLheadPlain
import Derived.Test.YtdofgilfmgdpkaaDoorFFields
import Derived.Test.YtdofgilfmgdpkaaDoorQheadMay1
set_option linter.unusedVariables false
set_option linter.unusedSimpArgs false
namespace Go.Proofs.YtdofgilfmgdpkaaDoor.P
open Go.RowKit Go.Proofs.YtdofgilfmgdpkaaDoorW.PrintWords Go.Proofs.YtdofgilfmgdpkaaDoorW.PrintLast Go.Proofs.YtdofgilfmgdpkaaDoorW.PrintMore

def tokenB (s : ByteArray) : Bool := !s.data.toList.isEmpty && (bytesOf s).all tokI
def visB (s : ByteArray) : Bool := (bytesOf s).all shownI
/-- May this field be? -/
def okF (x : S45) : Bool := tokenB x.f0 && (visB x.f1 && ((trimB x.f1).data.toList == x.f1.data.toList && decide (x.f0.size + 2 + x.f1.size ≤ 512)))
def mayB (l : List S45) : Bool := decide (l.length ≤ 32) && (l.all okF && decide ((plainB l).length ≤ 2048))
def fitF (x : S45) : Bool := decide (x.f0.size ≤ 4611686018427387000) && decide (x.f1.size ≤ 4611686018427387000)
def head_May.f (l0 : List S45) : Option Bool := if l0.all fitF = true then some (mayB l0) else none

theorem may1_tells (x : S45) (h : fitF x = true) : head_May_1.f x.f0 x.f1 = some (!okF x) := by
  unfold fitF at h
  rw [Bool.and_eq_true, decide_eq_true_eq, decide_eq_true_eq] at h
  obtain ⟨h0, h1⟩ := h
  have hw : wrap64 ((wrap64 ((x.f0.size : Int) + 2)) + (x.f1.size : Int)) = (x.f0.size : Int) + 2 + (x.f1.size : Int) := by rw [wrap_in (i := (x.f0.size : Int) + 2) (by omega) (by omega), wrap_in (by omega) (by omega)]
  have h5 : (decide ((x.f0.size : Int) + 2 + (x.f1.size : Int) > 512)) = !decide (x.f0.size + 2 + x.f1.size ≤ 512) := by
    by_cases h : x.f0.size + 2 + x.f1.size ≤ 512
    · simp only [h, decide_true, Bool.not_true, decide_eq_false_iff_not]; omega
    · simp only [h, decide_false, Bool.not_false, decide_eq_true_eq]; omega
  unfold head_May_1.f text_Token.f text_Visible.f text_Trim.f okF tokenB visB
  rw [if_pos (show x.f0.size ≤ 9223372036854775807 by omega), if_pos (show x.f1.size ≤ 9223372036854775807 by omega), if_pos (show x.f1.size ≤ 9223372036854775807 by omega)]
  simp only [Option.bind_some, hw, h5, ByteArray.toList_eq]
  generalize (!x.f0.data.toList.isEmpty && (bytesOf x.f0).all tokI) = a
  generalize (bytesOf x.f1).all shownI = b
  by_cases he : (trimB x.f1).data.toList = x.f1.data.toList
  · cases a <;> cases b <;> simp [he]
  · have hb : ((trimB x.f1).data.toList == x.f1.data.toList) = false := beq_eq_false_iff_ne.2 he
    rw [if_neg he, hb]
    cases a <;> cases b <;> rfl

set_option maxHeartbeats 1000000 in
theorem head_May.calls (A0 : Option Addr) (c0 : Nat) (l0 : List S45) (r : Bool) (w : World) (hr0 : Kd.C k45 w A0 l0.length l0) (hc0 : l0.length ≤ c0) (h : head_May.f l0 = some r) :
    Calls Tryd.prog 16 #[.slice A0 l0.length c0] w fun e w' => e = .returned (.bool r) ∧ Below w.heap.size w w' := by
  unfold head_May.f at h
  split at h
  · rename_i hf
    obtain rfl := Option.some.inj h
    clear h
    have hC := containsFields A0 c0 l0 36 #[] (enters_of Tryd.func36 (by kernel_rfl) rfl) (fun x => !okF x) w hr0
      (fun W x hx _ => head_May_1.calls x.f0 x.f1 _ W (may1_tells x (List.all_eq_true.1 hf x hx)))
    rw [show (l0.any fun x => !okF x) = !l0.all okF by rw [← List.not_all_eq_any_not]] at hC
    have hm := hr0.2.1
    unfold mayB
    by_cases h32 : l0.length ≤ 32
    · cases ha : l0.all okF with
      | false =>
        rw [ha] at hC
        have HC := Aside0.mk hC
        clear hC ha hf hr0 hc0
        rw [decide_eq_true h32]
        go_enter Tryd.func16, Tryd.ntmps16
        go_wp2_with fail
        refine HC.out.mono ?_
        rintro e w' ⟨rfl, hb⟩
        go_wp2
        go_ret
        exact ⟨rfl, hb⟩
      | true =>
        rw [ha] at hC
        have hlen : (plainB l0).length < 140737488355328 := by
          have h1 : ∀ m : List S45, m.all okF = true → (m.flatMap (fun x => bytesOf (lineB x))).length ≤ m.length * 514 := by
            intro m
            induction m with
            | nil => intro _; simp
            | cons x r ih =>
              intro hm
              rw [List.all_cons, Bool.and_eq_true] at hm
              have h2 : x.f0.size + 2 + x.f1.size ≤ 512 := by
                have := hm.1
                unfold okF at this
                simp only [Bool.and_eq_true, decide_eq_true_eq] at this
                exact this.2.2.2
              rw [List.flatMap_cons, List.length_append, bytesOf_length, lineB_size, List.length_cons]
              have := ih hm.2
              omega
          have := h1 l0 ha
          unfold plainB
          rw [List.length_append]
          simp only [List.length_cons, List.length_nil]
          omega
        have hP := fun W (hW : Below w.heap.size w W) => head_plain.calls (l0.length + 1) A0 c0 l0 (plainB l0) W (Kd.C_below hr0 hW) hc0 (plain_tells l0 _ (by omega) hlen)
        have HC := Aside0.mk hC
        have HP := Aside0.mk hP
        clear hC hP hf hr0 hc0 ha
        rw [decide_eq_true h32]
        go_enter Tryd.func16, Tryd.ntmps16
        go_wp2_with fail
        refine HC.out.mono ?_
        rintro e w' ⟨rfl, hb⟩
        have HB := Aside0.mk hb
        clear hb
        go_wp2_with fail
        refine (HP.out _ HB.out).mono ?_
        rintro e w2 ⟨v, rfl, ho, hb2⟩
        obtain ⟨A, c, rfl, _⟩ := Kd.R_reads ho
        clear ho
        go_wp2
        go_ret
        exact ⟨congrArg (fun b => Ending.returned (Value.bool b)) (by simp only [Bool.true_and]; congr 1; rw [eq_iff_iff]; omega), HB.out.trans (hb2.mono HB.out.size)⟩
    · have h32' : ¬ (l0.length : Int) ≤ 32 := by omega
      rw [decide_eq_false h32]
      clear hC hr0 hf hc0 h32
      go_enter Tryd.func16, Tryd.ntmps16
      go_wp2_with fail
      go_ret
      exact ⟨rfl, Below.refl _ _⟩
  · exact absurd h (by simp)
end Go.Proofs.YtdofgilfmgdpkaaDoor.P
