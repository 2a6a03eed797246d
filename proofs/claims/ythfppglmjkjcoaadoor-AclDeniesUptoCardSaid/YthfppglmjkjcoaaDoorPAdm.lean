/- What rules admit, as the code tells it. -/
import Derived.Test.YthfppglmjkjcoaaDoorPMatch
import Derived.Test.YthfppglmjkjcoaaDoorFOpenR
import Derived.Test.YthfppglmjkjcoaaDoorQaclAdmits
set_option linter.unusedVariables false
set_option linter.unusedSimpArgs false
namespace Go.Proofs.YthfppglmjkjcoaaDoor.P
open Go.RowKit Go.Proofs.YthfppglmjkjcoaaDoorW.PrintWords Go.Proofs.YthfppglmjkjcoaaDoorW.PrintLast Go.Proofs.YthfppglmjkjcoaaDoorW.PrintMore

/-! ### rules -/
def R2 (x : S25) : Prop := bulkR x ≤ 1048576
theorem bulkSs_each : ∀ (l : List ByteArray) (x : ByteArray), x ∈ l → x.size ≤ bulkSs l
  | [], x, h => by simp at h
  | y :: r, x, h => by
    unfold bulkSs
    simp only [List.map_cons, List.sum_cons]
    rcases List.mem_cons.1 h with rfl | h
    · omega
    · have := bulkSs_each r x h
      unfold bulkSs at this
      omega
theorem bulkSs_len : ∀ l : List ByteArray, l.length ≤ bulkSs l
  | [] => Nat.zero_le _
  | x :: r => by
    have := bulkSs_len r
    unfold bulkSs at this ⊢
    simp only [List.length_cons, List.map_cons, List.sum_cons]
    omega
theorem R2.host {x : S25} (h : R2 x) : x.f1.data.toList.length ≤ 1048576 := by
  have e : x.f1.data.toList.length = x.f1.size := by rw [Array.length_toList]; rfl
  unfold R2 bulkR at h; omega
theorem R2.ms {x : S25} (h : R2 x) : x.f4.length ≤ 1048576 := by have := bulkSs_len x.f4; unfold R2 bulkR at h; omega
theorem R2.each {x : S25} (h : R2 x) (m : ByteArray) (hm : m ∈ x.f4) : m.size ≤ 1048576 := by have := bulkSs_each x.f4 m hm; unfold R2 bulkR at h; omega
def matchR (x : S25) (host : U8s) (port : Int) (m : ByteArray) : Bool := matchB x.f1.data.toList x.f2 x.f3 x.f4 host port m
theorem match_codeR (x : S25) (hx : R2 x) (host : U8s) (port : Int) (m : ByteArray) (h2 : host.length ≤ 1048576) : Ev (fun k => acl_Matches.f k x.f0 x.f1 x.f2 x.f3 x.f4 (mkB host) port m) (matchR x host port m) := by
  have a1 := hx.host; have a2 := hx.ms
  have := matches_ok x.f0 x.f1.data.toList x.f2 x.f3 x.f4 host port m (by omega) (by omega) (by omega)
  rw [mkB_data] at this
  exact this
/-- What rules admit: the first that matches says it. -/
def admB : List S25 → U8s → Int → ByteArray → Bool
  | [], _, _, _ => false
  | x :: r, host, port, m => if matchR x host port m = true then x.f0 else admB r host port m
theorem rdT_at (l : List S25) (i : Nat) (h : i < l.length) : rd_T25 l (i : Int) = l[i]'h := by
  unfold rd_T25
  rw [Int.toNat_natCast, List.getD_eq_getElem?_getD, List.getElem?_eq_getElem h]; rfl
theorem admits_ok (l : List S25) (hl : l.length ≤ 1073741824) (hR : ∀ x ∈ l, R2 x) (host : U8s) (port : Int) (m : ByteArray) (h2 : host.length ≤ 1048576) : Ev (fun k => acl_Admits.f k l (mkB host) port m) (admB l host port m) := by
  have : ∀ (d i : Nat), l.length - i = d → i ≤ l.length → Ev (fun k => acl_Admits.l0 k (mkB host) port m false l (l.length : Int) (i : Int)) (admB (l.drop i) host port m) := by
    intro d
    induction d with
    | zero =>
      intro i hd hi
      rw [List.drop_eq_nil_of_le (by omega), admB]
      exact Ev.step (f := fun _ => some false) (fun k => by rw [acl_Admits.l0, if_neg (by omega)]) (Ev.now _)
    | succ d ih =>
      intro i hd hi
      have hlt : i < l.length := by omega
      have hr := rdT_at l i hlt
      have hx := hR _ (List.getElem_mem hlt)
      have i1 := ih (i + 1) (by omega) (by omega)
      rw [List.drop_eq_getElem_cons hlt, admB]
      generalize l[i] = x at hr hx ⊢
      refine Ev.step (f := fun k => (acl_Matches.f k x.f0 x.f1 x.f2 x.f3 x.f4 (mkB host) port m).bind fun t122 => (if (t122 == true) = true then some x.f0 else acl_Admits.l0 k (mkB host) port m false l (l.length : Int) ((i + 1 : Nat) : Int))) (fun k => by rw [acl_Admits.l0, if_pos (by omega), if_pos (by omega), if_pos (by omega), hr, w64n i (by omega)]) (Ev.bind (match_codeR x hx host port m h2) ?_)
      cases matchR x host port m with
      | true => exact Ev.congr (fun k => if_pos rfl) (by simp only [if_true]; exact Ev.now _)
      | false => exact Ev.congr (fun k => if_neg (by decide)) (by simp only [Bool.false_eq_true, if_false]; exact i1)
  have h := this l.length 0 (by omega) (Nat.zero_le _)
  rw [List.drop_zero] at h
  exact h
theorem admB_find (l : List S25) (host : U8s) (port : Int) (m : ByteArray) : admB l host port m = ((l.find? fun x => matchR x host port m).map (·.f0)).getD false := by
  induction l with
  | nil => rfl
  | cons x r ih =>
    rw [admB, List.find?_cons]
    cases matchR x host port m with
    | true => rfl
    | false => simpa using ih
theorem heapRule : Kd.Heap k25 := ⟨fun hb h => by
  obtain ⟨A4, c4, rfl, hl, hC⟩ := k25_open h
  exact k25_mk _ _ hl (Kd.heap_string.C hb hC)⟩
theorem find_app (a b : List S25) (host : U8s) (port : Int) (m : ByteArray) : admB (a ++ b) host port m = match a.find? fun x => matchR x host port m with | some x => x.f0 | none => admB b host port m := by
  rw [admB_find, admB_find, List.find?_append]
  cases a.find? fun x => matchR x host port m <;> rfl
end Go.Proofs.YthfppglmjkjcoaaDoor.P
