/- URLs, plain: hosts' names, texts there and back. -/
import Derived.Test.YteggopolokblhaaDoorPUri
set_option linter.unusedVariables false
set_option linter.unusedSimpArgs false
namespace Go.Proofs.YteggopolokblhaaDoor.P
open Go.RowKit Go.Proofs.YteggopolokblhaaDoorW.PrintWords Go.Proofs.YteggopolokblhaaDoorW.PrintLast Go.Proofs.YteggopolokblhaaDoorW.PrintMore

/-- A text's labels. -/
def lab : U8s → List U8s
  | [] => [[]]
  | b :: l => if b = 46 then [] :: lab l else ahead b (lab l)
theorem spn_lab : ∀ (k : Nat) (s : U8s), s.count 46 ≤ k → spn 46 k s = lab s
  | _, [], _ => by rw [lab]; cases ‹Nat› <;> rfl
  | 0, b :: l, h => by
    have hb : ¬ b = 46 := fun e => by rw [e, List.count_cons_self] at h; omega
    rw [spn, lab, if_neg hb, spn_lab 0 l (by rw [List.count_cons] at h; omega)]
  | k + 1, b :: l, h => by
    rw [spn, lab]
    by_cases hb : b = 46
    · rw [if_pos hb, if_pos (by simpa using hb), spn_lab k l (by rw [hb, List.count_cons_self] at h; omega)]
    · rw [if_neg hb, if_neg (by simpa using hb), spn_lab (k + 1) l (by rw [List.count_cons] at h; omega)]
theorem labsL_lab (s : U8s) : labsL s = lab s := spn_lab _ s List.count_le_length
theorem lab_ne (s : U8s) : lab s ≠ [] := by rw [← labsL_lab]; exact labsL_ne s
theorem lab_cons (b : UInt8) (l : U8s) (h : b ≠ 46) : ∃ x t, lab l = x :: t ∧ lab (b :: l) = (b :: x) :: t := by
  cases hl : lab l with
  | nil => exact absurd hl (lab_ne l)
  | cons x t => exact ⟨x, t, rfl, by rw [lab, if_neg h, hl]; rfl⟩
theorem lab_app (y : U8s) : ∀ x : U8s, lab (x ++ 46 :: y) = lab x ++ lab y
  | [] => by rw [List.nil_append]; exact (show lab (46 :: y) = [] :: lab y by rw [lab, if_pos rfl])
  | b :: x => by
    have ih := lab_app y x
    by_cases hb : b = 46
    · rw [List.cons_append, lab, if_pos hb, lab, if_pos hb, ih]; rfl
    · obtain ⟨h, t, h1, h2⟩ := lab_cons b x hb
      rw [List.cons_append, lab, if_neg hb, ih, h1, h2]; rfl
theorem lab_len : ∀ s : U8s, (lab s).length = s.count 46 + 1
  | [] => rfl
  | b :: l => by
    by_cases hb : b = 46
    · rw [lab, if_pos hb, hb, List.count_cons_self, List.length_cons, lab_len l]
    · obtain ⟨h, t, h1, h2⟩ := lab_cons b l hb
      have := lab_len l
      rw [h1] at this
      rw [h2, List.count_cons_of_ne (by simpa using hb), ← this]; rfl
theorem lab_all (p : UInt8 → Bool) : ∀ s : U8s, (lab s).all (fun x => x.all p) = s.all (fun b => b == 46 || p b)
  | [] => rfl
  | b :: l => by
    by_cases hb : b = 46
    · rw [lab, if_pos hb, List.all_cons, lab_all p l, List.all_cons, hb]; rfl
    · obtain ⟨h, t, h1, h2⟩ := lab_cons b l hb
      have ih := lab_all p l
      rw [h1, List.all_cons] at ih
      have hb' : (b == 46) = false := by simpa using hb
      rw [h2, List.all_cons, List.all_cons, List.all_cons, hb', Bool.false_or, Bool.and_assoc, ih]
theorem labOk_ne {x : U8s} (h : labOk x = true) : x ≠ [] := by
  intro e; subst e; exact absurd h (by decide)
theorem named_parts {s : U8s} (h : namedL s = true) : (lab s).all labOk = true ∧ s.length ≤ 64 ∧ (numL (lastL (lab s)) = true → quadL (lab s) = true) := by
  unfold namedL at h
  rw [labsL_lab, Bool.and_eq_true, Bool.and_eq_true] at h
  refine ⟨h.1, of_decide_eq_true h.2.1, fun hn => ?_⟩
  have := h.2.2
  rw [hn] at this
  simpa using this
theorem named_bytes {s : U8s} (h : namedL s = true) : ∀ b ∈ s, b = 46 ∨ labelI (b.toNat : Int) = true := by
  have h1 := (named_parts h).1
  have h2 : (lab s).all (fun x => x.all fun b => labelI (b.toNat : Int)) = true := by
    rw [List.all_eq_true] at h1 ⊢
    intro x hx
    have := h1 x hx
    unfold labOk at this
    rw [Bool.and_eq_true] at this
    exact this.2
  rw [lab_all, List.all_eq_true] at h2
  intro b hb
  have := h2 b hb
  simpa using this
theorem named_no {s : U8s} (h : [] ∈ lab s) : namedL s = false := by
  unfold namedL
  have : (labsL s).all labOk = false := by
    rw [labsL_lab, Bool.eq_false_iff]
    intro h1
    exact absurd (List.all_eq_true.1 h1 [] h) (by decide)
  rw [this, Bool.false_and]
theorem named_dot_end (s : U8s) : namedL (s ++ [46]) = false := named_no (by rw [lab_app]; exact List.mem_append_right _ (by simp [lab]))
theorem named_dot_head (s : U8s) : namedL (46 :: s) = false := named_no (by rw [lab, if_pos rfl]; exact List.mem_cons_self)
theorem named_dot_twice (x y : U8s) : namedL (x ++ 46 :: 46 :: y) = false := named_no (by rw [lab_app, lab, if_pos rfl]; exact List.mem_append_right _ List.mem_cons_self)
theorem label_fin : ∀ n : Fin 256, labelI ((n.val : Nat) : Int) = true → lowU (UInt8.ofNat n.val) = UInt8.ofNat n.val ∧ n.val ≠ 58 ∧ n.val ≠ 47 ∧ n.val ≠ 63 := by decide +kernel
theorem label_low {b : UInt8} (h : b = 46 ∨ labelI (b.toNat : Int) = true) : lowU b = b ∧ b ≠ 58 ∧ b ≠ 47 ∧ b ≠ 63 := by
  rcases h with rfl | h
  · decide
  · have := label_fin ⟨b.toNat, b.toNat_lt⟩ h
    have e : UInt8.ofNat b.toNat = b := by simp
    rw [e] at this
    refine ⟨this.1, ?_, ?_, ?_⟩
    · intro e; subst e; exact this.2.1 rfl
    · intro e; subst e; exact this.2.2.1 rfl
    · intro e; subst e; exact this.2.2.2 rfl
theorem named_low {s : U8s} (h : namedL s = true) : lowL s = s := by
  have hb := named_bytes h
  unfold lowL
  conv => rhs; rw [← List.map_id s]
  apply List.map_congr_left
  intro b hm
  exact (label_low (hb b hm)).1
theorem itoa_port {p : Int} (h1 : 1 ≤ p) (h2 : p ≤ 65535) : Lib.itoa p = Lib.decDigits p.toNat := by
  obtain ⟨n, rfl⟩ : ∃ n : Nat, p = n := ⟨p.toNat, by omega⟩
  rw [Lib.itoa_nonneg]; rfl
theorem itoa_digits {p : Int} (h1 : 1 ≤ p) (h2 : p ≤ 65535) : ∀ b ∈ Lib.itoa p, 48 ≤ b.toNat ∧ b.toNat ≤ 57 := by
  rw [itoa_port h1 h2]
  exact dec_mem 5 _ (by omega)
theorem auth_bytes {h : U8s} {p : Int} (hn : namedL h = true) (h1 : 1 ≤ p) (h2 : p ≤ 65535) : ∀ b ∈ authL h p, notCut b = true := by
  intro b hb
  have hx : b ≠ 47 ∧ b ≠ 63 := by
    unfold authL at hb
    have hh : ∀ b ∈ h, b ≠ 47 ∧ b ≠ 63 := fun b hm => (label_low (named_bytes hn b hm)).2.2
    split at hb
    · exact hh b hb
    · rcases List.mem_append.1 hb with hb | hb
      · exact hh b hb
      · rcases List.mem_cons.1 hb with rfl | hb
        · decide
        · have := itoa_digits h1 h2 b hb
          constructor <;> (intro e; subst e; revert this; decide)
  unfold notCut
  simp [hx.1, hx.2]
theorem ahead_app (x y : U8s) (hx : ∀ b ∈ x, notCut b = true) : aheadL (x ++ y) = x ++ aheadL y ∧ fromL (x ++ y) = fromL y := by
  induction x with
  | nil => exact ⟨rfl, rfl⟩
  | cons b r ih =>
    have ih := ih (fun c hc => hx c (List.mem_cons_of_mem _ hc))
    have hb := hx b List.mem_cons_self
    constructor
    · rw [List.cons_append, aheadL, List.takeWhile_cons, if_pos hb]; exact congrArg _ ih.1
    · rw [List.cons_append, fromL, List.dropWhile_cons, if_pos hb]; exact ih.2
theorem path_head {t : U8s} (h : pathL t = true) : ∃ r, t = 47 :: r := by
  unfold pathL at h
  rw [Bool.and_eq_true] at h
  cases t with
  | nil => exact absurd h.1 (by decide)
  | cons b r =>
    have : b = 47 := by simpa using h.1
    exact ⟨r, by rw [this]⟩
theorem cut_auth {h : U8s} {p : Int} (hn : namedL h = true) (h1 : 1 ≤ p) (h2 : p ≤ 65535) : (cut1 58 (authL h p)).1 = h ∧ (if (cut1 58 (authL h p)).2.2 = true then portL (cut1 58 (authL h p)).2.1 else 80) = p := by
  have hh : (58 : UInt8) ∉ h := fun hm => (label_low (named_bytes hn _ hm)).2.1 rfl
  unfold authL
  split
  · rename_i h8
    rw [cut1_none 58 h hh]
    exact ⟨rfl, by rw [h8]; rfl⟩
  · rw [cut1_app 58 _ h hh]
    refine ⟨rfl, ?_⟩
    rw [if_pos rfl]
    show portL (Lib.itoa p) = p
    rw [itoa_port h1 h2, portL_dec _ (by omega) (by omega)]
    omega
/-- A scheme's text, in letters of any size. -/
theorem parse_text {sc a h t : U8s} {p : Int} (hs : sc.length = 7) (hl : lowL sc = schemeL) (hm : mayL h p t = true) (ha1 : ∀ b ∈ a, notCut b = true) (ha2 : lowL (cut1 58 a).1 = h) (ha3 : (if (cut1 58 a).2.2 = true then portL (cut1 58 a).2.1 else 80) = p) : parseL (sc ++ a ++ t) = urlOut h p t 0 := by
  obtain ⟨_, _, _, hp, _⟩ := mayL_port hm
  obtain ⟨r, rfl⟩ := path_head hp
  have e1 : (sc ++ a ++ 47 :: r).take 7 = sc := by rw [List.append_assoc, ← hs, List.take_left]
  have e2 : (sc ++ a ++ 47 :: r).drop 7 = a ++ 47 :: r := by rw [List.append_assoc, ← hs, List.drop_left]
  have e3 := ahead_app a (47 :: r) ha1
  have e4 : aheadL (47 :: r) = [] := rfl
  have e5 : fromL (47 :: r) = 47 :: r := rfl
  unfold parseL
  rw [e1, e2, if_pos hl, e3.1, e3.2, e4, e5, List.append_nil]
  have e6 : pathOf (47 :: r) = 47 :: r := by rw [pathOf, if_neg (by decide)]
  rw [e6, parseEnd, ha2, ha3, checkedL, if_pos hm]
theorem parse_back {h t : U8s} {p : Int} (hm : mayL h p t = true) : parseL (textL h p t) = urlOut h p t 0 := by
  obtain ⟨hn, h1, h2, _, _⟩ := mayL_port hm
  have hc := cut_auth hn h1 h2
  rw [textL, if_pos hm]
  exact parse_text rfl (by decide) hm (auth_bytes hn h1 h2) (by rw [hc.1, named_low hn]) hc.2
theorem checked_cases (h t : U8s) (p : Int) : (mayL h p t = true ∧ checkedL h p t = urlOut h p t 0) ∨ (mayL h p t = false ∧ checkedL h p t = noUrl) := by
  unfold checkedL
  cases hm : mayL h p t with
  | true => exact .inl ⟨rfl, rfl⟩
  | false => exact .inr ⟨rfl, rfl⟩
theorem parse_cases (s : U8s) : (∃ h p t, mayL h p t = true ∧ parseL s = urlOut h p t 0) ∨ parseL s = noUrl := by
  unfold parseL
  split
  · unfold parseEnd
    rcases checked_cases (lowL (cut1 58 (aheadL (s.drop 7))).1) (pathOf (fromL (s.drop 7))) (if (cut1 58 (aheadL (s.drop 7))).2.2 = true then portL (cut1 58 (aheadL (s.drop 7))).2.1 else 80) with ⟨h1, h2⟩ | ⟨_, h2⟩
    · exact .inl ⟨_, _, _, h1, h2⟩
    · exact .inr h2
  · exact .inr rfl
theorem join_cases (h t r : U8s) (p : Int) : (∃ h' p' t', mayL h' p' t' = true ∧ joinL h p t r = urlOut h' p' t' 0) ∨ joinL h p t r = noUrl := by
  unfold joinL
  split
  · split
    · rcases checked_cases h r p with ⟨h1, h2⟩ | ⟨_, h2⟩
      · exact .inl ⟨_, _, _, h1, h2⟩
      · exact .inr h2
    · exact parse_cases r
  · exact .inr rfl
theorem text_ref {h t : U8s} {p : Int} (hm : mayL h p t = true) : refIs (textL h p t) = false := by
  rw [textL, if_pos hm]; rfl
theorem parse_nil : parseL [] = noUrl := by rfl
end Go.Proofs.YteggopolokblhaaDoor.P
