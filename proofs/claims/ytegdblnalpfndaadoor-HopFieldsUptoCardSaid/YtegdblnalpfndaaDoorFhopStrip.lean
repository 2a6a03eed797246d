/- hop.Strip: what is of one hop alone, and what connection names, goes. -/
import Derived.Test.YtegdblnalpfndaaDoorFhopForAll
import Derived.Test.YtegdblnalpfndaaDoorFDeleteS
import Derived.Test.YtegdblnalpfndaaDoorFheadDrop
import Derived.Test.YtegdblnalpfndaaDoorFBulk
set_option linter.unusedVariables false
set_option linter.unusedSimpArgs false
namespace Go.Proofs.YtegdblnalpfndaaDoor.P
open Go.RowKit Go.Proofs.YtegdblnalpfndaaDoorW.PrintWords Go.Proofs.YtegdblnalpfndaaDoorW.PrintLast Go.Proofs.YtegdblnalpfndaaDoorW.PrintMore

def connN : ByteArray := ⟨#[99, 111, 110, 110, 101, 99, 116, 105, 111, 110]⟩
def hopNames : List ByteArray := [⟨#[99, 111, 110, 110, 101, 99, 116, 105, 111, 110]⟩, ⟨#[107, 101, 101, 112, 45, 97, 108, 105, 118, 101]⟩, ⟨#[112, 114, 111, 120, 121, 45, 99, 111, 110, 110, 101, 99, 116, 105, 111, 110]⟩, ⟨#[112, 114, 111, 120, 121, 45, 97, 117, 116, 104, 101, 110, 116, 105, 99, 97, 116, 101]⟩, ⟨#[112, 114, 111, 120, 121, 45, 97, 117, 116, 104, 111, 114, 105, 122, 97, 116, 105, 111, 110]⟩, ⟨#[116, 101]⟩, ⟨#[116, 114, 97, 105, 108, 101, 114]⟩, ⟨#[116, 114, 97, 110, 115, 102, 101, 114, 45, 101, 110, 99, 111, 100, 105, 110, 103]⟩, ⟨#[117, 112, 103, 114, 97, 100, 101]⟩]
/-- What connection names, but for what is for all. -/
def saidB (l : List S32) : List ByteArray := keptS forAllB (elemsB l connN)
def stripB (l : List S32) : List S32 := dropB (dropB l (saidB l)) hopNames
def hop_Strip.f (l0 : List S32) : Option (List S32) := if bulkL l0 ≤ 1073741824 then some (stripB l0) else none

theorem lit_strs (W : World) (xs : List ByteArray) (h : xs.length ≤ 140737488355328) : Kd.C Kd.string (W.alloc (.cells (xs.map Value.string).toArray 9)) (some ⟨W.heap.size, 0, none⟩) xs.length xs := by
  have h2 := World.ownsRow_lit (base := 0) (e := 9) (size := 1) W (xs.map Value.string).toArray xs.length (Nat.zero_le _) (by simp only [maxLen]; omega) (by simp)
  have h3 : Kd.R Kd.string 9 (W.alloc (.cells (xs.map Value.string).toArray 9)) 0 (fun _ => True) (.slice (some ⟨W.heap.size, 0, none⟩) xs.length xs.length) xs := Kd.R_of_own (by simpa [encs] using h2) (fun _ _ => trivial)
  exact (Kd.R_reads' h3).2.2
theorem drop_some (l : List S32) (ns : List ByteArray) (hl : bulkL l ≤ 1073741824) (hn : ∀ n ∈ ns, n.size ≤ 1073741824) : head_Drop.f l ns = some (dropB l ns) := by
  unfold head_Drop.f
  have h1 := bulkL_len l
  rw [if_pos ⟨by omega, List.all_eq_true.2 fun x hx => by unfold fits63; have := bulkL_mem hx; exact decide_eq_true (by omega), List.all_eq_true.2 fun x hx => by unfold fits63; have := hn x hx; exact decide_eq_true (by omega)⟩]
theorem dropB_bulk (l : List S32) (ns : List ByteArray) : bulkL (dropB l ns) ≤ bulkL l := by
  unfold dropB
  induction l with
  | nil => simp [bulkL]
  | cons x r ih =>
    rw [List.filter_cons, bulkL_cons]
    split
    · rw [bulkL_cons]; omega
    · omega

set_option maxRecDepth 100000 in
set_option maxHeartbeats 2000000 in
theorem hop_Strip.calls (A0 : Option Addr) (c0 : Nat) (l0 : List S32) (r : List S32) (w : World) (hr0 : Kd.C k32 w A0 l0.length l0) (hc0 : l0.length ≤ c0) (hT : Tab w) (h : hop_Strip.f l0 = some r) :
    Calls Tryd.prog 8 #[.slice A0 l0.length c0] w fun e w' => ∃ v0_ : Value, e = .returned (v0_) ∧ Kd.R k32 32 w' w.heap.size (fun _ => True) v0_ r ∧ Below w.heap.size w w' := by
  unfold hop_Strip.f at h
  split at h
  · rename_i hs
    have HR := Aside0.mk (Option.some.inj h)
    have HS := Aside0.mk hs
    have HT := Aside0.mk hT
    have HR0 := Aside0.mk hr0
    have HC0 := Aside0.mk hc0
    obtain ⟨k, hk⟩ := (elements_ev l0 connN hs (by decide)).rounds
    have HE := Aside0.mk (hop_Elements.calls k A0 c0 l0 connN (elemsB l0 connN) w hr0 hc0 hk)
    have hes : ∀ x ∈ elemsB l0 connN, x.size ≤ 1073741824 := fun x hx => Nat.le_trans (elemsB_mem hx).1 hs
    have HES := Aside0.mk hes
    -- the second drop, behind the first one
    have second : ∀ (v : Value) (W : World), Kd.R k32 32 W w.heap.size (fun _ => True) v (dropB l0 (saidB l0)) → Below w.heap.size w W → ∃ A c, v = .slice A (dropB l0 (saidB l0)).length c ∧
        Calls Tryd.prog 26 #[.slice A (dropB l0 (saidB l0)).length c, .slice (some ⟨W.heap.size, 0, none⟩) 9 9] (W.alloc (.cells #[.string ⟨#[99, 111, 110, 110, 101, 99, 116, 105, 111, 110]⟩, .string ⟨#[107, 101, 101, 112, 45, 97, 108, 105, 118, 101]⟩, .string ⟨#[112, 114, 111, 120, 121, 45, 99, 111, 110, 110, 101, 99, 116, 105, 111, 110]⟩, .string ⟨#[112, 114, 111, 120, 121, 45, 97, 117, 116, 104, 101, 110, 116, 105, 99, 97, 116, 101]⟩, .string ⟨#[112, 114, 111, 120, 121, 45, 97, 117, 116, 104, 111, 114, 105, 122, 97, 116, 105, 111, 110]⟩, .string ⟨#[116, 101]⟩, .string ⟨#[116, 114, 97, 105, 108, 101, 114]⟩, .string ⟨#[116, 114, 97, 110, 115, 102, 101, 114, 45, 101, 110, 99, 111, 100, 105, 110, 103]⟩, .string ⟨#[117, 112, 103, 114, 97, 100, 101]⟩] 9)) (fun e w' => ∃ v0_ : Value, e = .returned (v0_) ∧ Kd.R k32 32 w' w.heap.size (fun _ => True) v0_ r ∧ Below w.heap.size w w') := by
      intro v W hv hb
      obtain ⟨A, c, rfl, hlc, hC⟩ := Kd.R_reads hv
      refine ⟨A, c, rfl, ?_⟩
      have hB1 : Below w.heap.size w (W.alloc (.cells #[.string ⟨#[99, 111, 110, 110, 101, 99, 116, 105, 111, 110]⟩, .string ⟨#[107, 101, 101, 112, 45, 97, 108, 105, 118, 101]⟩, .string ⟨#[112, 114, 111, 120, 121, 45, 99, 111, 110, 110, 101, 99, 116, 105, 111, 110]⟩, .string ⟨#[112, 114, 111, 120, 121, 45, 97, 117, 116, 104, 101, 110, 116, 105, 99, 97, 116, 101]⟩, .string ⟨#[112, 114, 111, 120, 121, 45, 97, 117, 116, 104, 111, 114, 105, 122, 97, 116, 105, 111, 110]⟩, .string ⟨#[116, 101]⟩, .string ⟨#[116, 114, 97, 105, 108, 101, 114]⟩, .string ⟨#[116, 114, 97, 110, 115, 102, 101, 114, 45, 101, 110, 99, 111, 100, 105, 110, 103]⟩, .string ⟨#[117, 112, 103, 114, 97, 100, 101]⟩] 9)) := hb.alloc hb.size _
      refine (head_Drop.calls A c (dropB l0 (saidB l0)) (some ⟨W.heap.size, 0, none⟩) 9 hopNames (stripB l0) _ (Kd.C_alloc hC _) hlc (lit_strs W hopNames (by decide)) (Nat.le_refl _) ?_).mono ?_
      · exact drop_some _ _ (Nat.le_trans (dropB_bulk _ _) HS.out) (by decide)
      · rintro e w' ⟨v', rfl, hv', hb'⟩
        refine ⟨v', rfl, ?_, hB1.trans (hb'.mono hB1.size)⟩
        rw [← HR.out]
        exact Kd.R_lower hv' hB1.size
    have HSEC := Aside0.mk second
    clear h hs hT hr0 hk hes second
    go_enter Tryd.func8, Tryd.ntmps8
    go_wp2_with fail
    refine HE.out.mono ?_
    rintro e w1 ⟨vE, rfl, hE, hb⟩
    have HB1 := Aside0.mk hb
    have hrow := RowS.of_R hE
    clear HE hb hE
    rcases hrow with ⟨rfl, he⟩ | ⟨g0, cap, rfl, hg0, hrow⟩
    · have HD := Aside0.mk (deleteNoneS 16 #[] (enters_of Tryd.func16 (by kernel_rfl) rfl) w1)
      have hsd : saidB l0 = [] := by unfold saidB; rw [he]; rfl
      have HSD := Aside0.mk hsd
      clear he hsd
      go_wp2_with fail
      refine HD.out.mono ?_
      rintro e w2 ⟨rfl, hb2⟩
      have HB2 := Aside0.mk (HB1.out.trans (hb2.mono HB1.out.size))
      clear hb2
      have HDR := Aside0.mk (head_Drop.calls A0 c0 l0 none 0 [] (dropB l0 (saidB l0)) w2 (Kd.C_below HR0.out HB2.out) HC0.out (Kd.C_nil _ _) (Nat.le_refl _) (by rw [HSD.out]; exact drop_some _ _ HS.out (by simp)))
      go_wp2_with fail
      refine HDR.out.mono ?_
      rintro e w3 ⟨v3, rfl, h3, hb3⟩
      obtain ⟨A, c, rfl, hcall⟩ := HSEC.out v3 w3 (Kd.R_lower h3 HB2.out.size) (HB2.out.trans (hb3.mono HB2.out.size))
      have HCALL := Aside0.mk hcall
      clear hcall h3 hb3
      go_wp2_with fail
      refine HCALL.out.mono ?_
      rintro e w4 ⟨v4, rfl, h4, hb4⟩
      go_wp2
      go_ret
      exact ⟨_, rfl, h4, hb4⟩
    · have HD := Aside0.mk (deleteStrs g0 cap (elemsB l0 connN) 16 #[] (enters_of Tryd.func16 (by kernel_rfl) rfl) forAllB w1 hrow (fun W x hx hk => hop_ForAll.calls x (forAllB x) W (HT.out.below (HB1.out.trans (hk.below hg0 HB1.out.size))) (by unfold hop_ForAll.f; rw [if_pos (by have := HES.out x hx; omega)])))
      have HG := Aside0.mk hg0
      clear hrow hg0
      go_wp2_with fail
      refine HD.out.mono ?_
      rintro e w2 ⟨rfl, hr2, hk2⟩
      have HB2 := Aside0.mk (HB1.out.trans (hk2.below HG.out HB1.out.size))
      have hn2 := hr2.R (base := 0) (Nat.zero_le _) (keptS forAllB (elemsB l0 connN)).length (Nat.le_refl _)
      rw [List.take_length] at hn2
      have hlc2 : (keptS forAllB (elemsB l0 connN)).length ≤ cap := by obtain ⟨_, _, _, h, _⟩ := hr2; exact h
      have HDR := Aside0.mk (head_Drop.calls A0 c0 l0 (some ⟨g0, 0, none⟩) cap (keptS forAllB (elemsB l0 connN)) (dropB l0 (saidB l0)) w2 (Kd.C_below HR0.out HB2.out) HC0.out (Kd.R_reads' hn2).2.2 hlc2 (drop_some _ _ HS.out (fun n hn => HES.out n (List.mem_filter.1 hn).1)))
      clear hr2 hk2 hn2 hlc2
      go_wp2_with fail
      refine HDR.out.mono ?_
      rintro e w3 ⟨v3, rfl, h3, hb3⟩
      obtain ⟨A, c, rfl, hcall⟩ := HSEC.out v3 w3 (Kd.R_lower h3 HB2.out.size) (HB2.out.trans (hb3.mono HB2.out.size))
      have HCALL := Aside0.mk hcall
      clear hcall h3 hb3
      go_wp2_with fail
      refine HCALL.out.mono ?_
      rintro e w4 ⟨v4, rfl, h4, hb4⟩
      go_wp2
      go_ret
      exact ⟨_, rfl, h4, hb4⟩
  · exact absurd h (by simp)
end Go.Proofs.YtegdblnalpfndaaDoor.P
