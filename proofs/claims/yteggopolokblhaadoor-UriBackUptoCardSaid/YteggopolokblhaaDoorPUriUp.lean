/- A URL's text in capital letters of its scheme and host, there and back, plain. -/
import Derived.Test.YteggopolokblhaaDoorPUriA
set_option linter.unusedVariables false
set_option linter.unusedSimpArgs false
namespace Go.Proofs.YteggopolokblhaaDoor.P
open Go.RowKit Go.Proofs.YteggopolokblhaaDoorW.PrintWords Go.Proofs.YteggopolokblhaaDoorW.PrintLast Go.Proofs.YteggopolokblhaaDoorW.PrintMore

/-- A byte's capital letter. -/
def upU (c : UInt8) : UInt8 := if 97 ≤ c && c ≤ 122 then c - 32 else c
def upI (c : Int) : Int := if 97 ≤ c ∧ c ≤ 122 then c - 32 else c
theorem up_fin : ∀ n : Fin 256, upI ((n.val : Nat) : Int) = ((upU (UInt8.ofNat n.val)).toNat : Int) := by decide +kernel
theorem upI_U (c : UInt8) : upI (c.toNat : Int) = ((upU c).toNat : Int) := by
  have := up_fin ⟨c.toNat, c.toNat_lt⟩
  have e : UInt8.ofNat c.toNat = c := by simp
  rw [e] at this
  exact this
/-- The first k letters are capital. -/
def upTo (l : List Int) (k : Nat) : List Int := (l.take k).map upI ++ l.drop k
theorem upTo_len (l : List Int) (k : Nat) : (upTo l k).length = l.length := by
  unfold upTo; simp [List.length_take, List.length_drop]; omega
theorem upTo_zero (l : List Int) : upTo l 0 = l := by simp [upTo]
theorem upTo_at (l : List Int) (k : Nat) (h : k < l.length) : (upTo l k).getD k 0 = l.getD k 0 := by
  unfold upTo
  rw [List.getD_eq_getElem?_getD, List.getElem?_append_right (by simp; omega), List.getD_eq_getElem?_getD]
  simp [List.length_take, Nat.min_eq_left (Nat.le_of_lt h)]
theorem upTo_set (l : List Int) (k : Nat) (h : k < l.length) (v : Int) (hv : v = upI (l.getD k 0)) : (upTo l k).set k v = upTo l (k + 1) := by
  subst hv
  unfold upTo
  have hl : ((l.take k).map upI).length = k := by simp; omega
  rw [List.set_append_right _ _ (by omega), hl, Nat.sub_self, List.drop_eq_getElem_cons h, List.set_cons_zero, List.take_succ_eq_append_getElem h, List.map_append]
  simp [List.getD_eq_getElem?_getD, h]
theorem upTo_same (l : List Int) (k : Nat) (h : k < l.length) (hv : upI (l.getD k 0) = l.getD k 0) : upTo l k = upTo l (k + 1) := by
  rw [← upTo_set l k h _ rfl, hv, ← upTo_at l k h]
  apply List.ext_getElem?
  intro i
  rw [List.getElem?_set]
  split
  · rename_i e; subst e
    have hk : k < (upTo l k).length := by rw [upTo_len]; exact h
    simp [List.getD_eq_getElem?_getD, hk]
  · rfl
theorem strOf_bytes (l : U8s) : strOfNums (l.map fun b => ((b.toNat : Nat) : Int)) = mkB l := strNums_bytes (mkB l)
theorem up_text (x t : U8s) : strOfNums (upTo (bytesOf (mkB (x ++ t))) x.length) = mkB (x.map upU ++ t) := by
  have e : upTo (bytesOf (mkB (x ++ t))) x.length = (x.map upU ++ t).map fun b => ((b.toNat : Nat) : Int) := by
    unfold upTo
    rw [bytesOf_mk, List.map_append, List.take_left' (by simp), List.drop_left' (by simp), List.map_append, List.map_map, List.map_map]
    congr 1
    apply List.map_congr_left
    intro b _
    exact upI_U b
  rw [e, strOf_bytes]
theorem up_label_fin : ∀ n : Fin 256, (n.val = 46 ∨ labelI ((n.val : Nat) : Int) = true) → lowU (upU (UInt8.ofNat n.val)) = UInt8.ofNat n.val ∧ notCut (upU (UInt8.ofNat n.val)) = true ∧ upU (UInt8.ofNat n.val) ≠ 58 := by decide +kernel
theorem up_label {b : UInt8} (h : b = 46 ∨ labelI (b.toNat : Int) = true) : lowU (upU b) = b ∧ notCut (upU b) = true ∧ upU b ≠ 58 := by
  have := up_label_fin ⟨b.toNat, b.toNat_lt⟩ (h.imp (fun e => by rw [e]; rfl) id)
  have e : UInt8.ofNat b.toNat = b := by simp
  rw [e] at this
  exact this
theorem up_digit_fin : ∀ n : Fin 256, 48 ≤ n.val → n.val ≤ 58 → upU (UInt8.ofNat n.val) = UInt8.ofNat n.val ∧ notCut (UInt8.ofNat n.val) = true := by decide +kernel
theorem up_digit {b : UInt8} (h1 : 48 ≤ b.toNat) (h2 : b.toNat ≤ 58) : upU b = b ∧ notCut b = true := by
  have := up_digit_fin ⟨b.toNat, b.toNat_lt⟩ h1 h2
  have e : UInt8.ofNat b.toNat = b := by simp
  rw [e] at this
  exact this
theorem up_back {h t : U8s} {p : Int} (hm : mayL h p t = true) : parseL (schemeL.map upU ++ (authL h p).map upU ++ t) = urlOut h p t 0 := by
  obtain ⟨hn, h1, h2, _, _⟩ := mayL_port hm
  have hb := named_bytes hn
  have hup : lowL (h.map upU) = h := by
    unfold lowL
    rw [List.map_map]
    conv => rhs; rw [← List.map_id h]
    apply List.map_congr_left
    intro b hbm
    exact (up_label (hb b hbm)).1
  have hn58 : (58 : UInt8) ∉ h.map upU := by
    intro hq
    obtain ⟨b, hbm, e⟩ := List.mem_map.1 hq
    exact (up_label (hb b hbm)).2.2 e
  have hnc : ∀ b ∈ h.map upU, notCut b = true := by
    intro c hq
    obtain ⟨b, hbm, rfl⟩ := List.mem_map.1 hq
    exact (up_label (hb b hbm)).2.1
  refine parse_text (by decide) (by decide) hm ?_ ?_ ?_
  · unfold authL
    split
    · exact hnc
    · intro b hq
      rw [List.map_append, List.mem_append] at hq
      rcases hq with hq | hq
      · exact hnc b hq
      · obtain ⟨c, hcm, rfl⟩ := List.mem_map.1 hq
        rcases List.mem_cons.1 hcm with rfl | hcm
        · decide
        · have hd := itoa_digits h1 h2 c hcm
          have := up_digit (b := c) hd.1 (by omega)
          rw [this.1]; exact this.2
  · unfold authL
    split
    · rw [cut1_none 58 _ hn58]; exact hup
    · rw [List.map_append, List.map_cons, show upU 58 = 58 from by decide, cut1_app 58 _ _ hn58]; exact hup
  · unfold authL
    split
    · rename_i h8
      rw [cut1_none 58 _ hn58, h8]; rfl
    · have ei : (Lib.itoa p).map upU = Lib.itoa p := by
        conv => rhs; rw [← List.map_id (Lib.itoa p)]
        apply List.map_congr_left
        intro c hcm
        have hd := itoa_digits h1 h2 c hcm
        exact (up_digit (b := c) hd.1 (by omega)).1
      rw [List.map_append, List.map_cons, show upU 58 = 58 from by decide, cut1_app 58 _ _ hn58, if_pos rfl, ei, itoa_port h1 h2]
      show portL (Lib.decDigits p.toNat) = p
      rw [portL_dec _ (by omega) (by omega)]
      omega
theorem ev_det {α : Type} {g : Nat → Option α} {r x : α} (h : Ev g r) (hm : ∀ k, LeO (g k) (g (k + 1))) {k : Nat} (hk : g k = some x) : x = r := by
  obtain ⟨K, h⟩ := h
  have h1 := at_rounds hm (Nat.le_max_left k K) hk
  rw [h (max k K) (Nat.le_max_right k K)] at h1
  exact (Option.some.inj h1).symm
/-- What UriBack's first half meets. -/
theorem back_known (k : Nat) (s0 s1 a : ByteArray) (p : Int) (h0 : s0.size ≤ 1048576) (h1 : s1.size ≤ 1048576) (A : uri_Text.f k s0 p s1 = some a) (hne : (a.toList == ([] : List UInt8)) = false) :
    ∃ (n : Nat) (hs : ByteArray) (k1 k2 k3 : Nat), hs.size = n ∧ 7 + n ≤ a.size ∧ a.size ≤ 384 ∧ uri_Parse.f k1 a = some (s0, p, s1, 0) ∧ uri_Host.f k2 s0 p s1 = some hs ∧ uri_Parse.f k3 (strOfNums (upTo (bytesOf a) (7 + n))) = some (s0, p, s1, 0) := by
  obtain ⟨h, rfl⟩ := mkOf s0
  obtain ⟨t, rfl⟩ := mkOf s1
  rw [mkB_size] at h0 h1
  have ha : a = mkB (textL h p t) := ev_det (text_ok h t p (by omega) (by omega)) (fun k => uri_Text.mono _ _ _ k) A
  subst ha
  rw [mkB_toList, beq_eq_false_iff_ne] at hne
  have hm : mayL h p t = true := by
    cases hm : mayL h p t with
    | true => rfl
    | false => exact absurd (by rw [textL, hm, if_neg (by decide)]) hne
  obtain ⟨_, _, _, _, hl⟩ := mayL_port hm
  have et : textL h p t = schemeL ++ authL h p ++ t := by rw [textL, if_pos hm]
  have hz : schemeL.length = 7 := rfl
  obtain ⟨k1, e1⟩ := Ev.rounds (parse_ok (textL h p t) (by rw [et, List.length_append, List.length_append]; omega))
  obtain ⟨k2, e2⟩ := Ev.rounds (host_ok h t p (by omega) (by omega))
  have eu : strOfNums (upTo (bytesOf (mkB (textL h p t))) (7 + (authL h p).length)) = mkB (schemeL.map upU ++ (authL h p).map upU ++ t) := by
    have := up_text (schemeL ++ authL h p) t
    rw [List.length_append, hz, List.map_append] at this
    rw [et]
    exact this
  obtain ⟨k3, e3⟩ := Ev.rounds (parse_ok (schemeL.map upU ++ (authL h p).map upU ++ t) (by simp only [List.length_append, List.length_map]; omega))
  refine ⟨(authL h p).length, mkB (authL h p), k1, k2, k3, mkB_size _, ?_, ?_, ?_, ?_, ?_⟩
  · rw [mkB_size, et, List.length_append, List.length_append]; omega
  · rw [mkB_size, et, List.length_append, List.length_append]; omega
  · rw [e1, parse_back hm]; rfl
  · rw [e2, hostL, if_pos hm]
  · rw [eu, e3, up_back hm]; rfl
end Go.Proofs.YteggopolokblhaaDoor.P
