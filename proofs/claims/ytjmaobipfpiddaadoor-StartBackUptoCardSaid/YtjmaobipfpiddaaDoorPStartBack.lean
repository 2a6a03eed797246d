/- Plain law: StartBack. -/
import Derived.Test.YtjmaobipfpiddaaDoorPStartB
import Derived.Test.YtjmaobipfpiddaaDoorQtollhouselaw06StartBack
set_option linter.unusedVariables false
set_option linter.unusedSimpArgs false
namespace Go.Proofs.YtjmaobipfpiddaaDoor.P
open Go.RowKit Go.Proofs.YtjmaobipfpiddaaDoorW.PrintWords Go.Proofs.YtjmaobipfpiddaaDoorW.PrintLast Go.Proofs.YtjmaobipfpiddaaDoorW.PrintMore

theorem wakes_at (k : Nat) (h : 60 ≤ k) : tollhouselaw06_wakes.f k = some true := at_rounds (fun k => tollhouselaw06_wakes.mono k) h tollhouselaw06_wakes.told
theorem i64_of {a : Int} (h : (Lit.int .i64 a).wf = true) : I64 a := by
  simp [Lit.wf, IntKind.min, IntKind.max, IntKind.signed, IntKind.bits] at h
  unfold I64
  omega
theorem mk_of (s : ByteArray) : ∃ l, s = mkB l := ⟨_, (mkB_data s).symm⟩
theorem back_j2 (l : U8s) (hl : l.length ≤ 1073741824) (e : Int) (he : e = 0 → ∃ m t n, putQ m t n = (l, 0)) : tollhouselaw06_StartBack.j2 62 (mkB l) e = some true := by
  rw [tollhouselaw06_StartBack.j2, Status_eq l hl, Option.bind_some]
  rcases readS_cases l with h | ⟨n, st, r, h, hp, h1, h2, h3⟩
  · rw [h]
    dsimp only
    rw [if_neg (by decide), if_pos rfl, if_pos rfl, if_pos rfl, if_pos (mkB_toList []), wakes_at _ (by omega)]
    rfl
  · rw [h]
    dsimp only
    rw [if_pos rfl, PutStatus_eq n st r (by omega) h1 h2, Option.bind_some, hp]
    dsimp only
    rw [if_neg (fun e0 => by obtain ⟨m, t, n', hq⟩ := he e0; exact clash hq hp), if_pos rfl, if_pos rfl, wakes_at _ (by omega)]
    rfl
theorem back_j1 (l : U8s) (hl : l.length ≤ 1073741824) : tollhouselaw06_StartBack.j1 63 (mkB l) = some true := by
  rw [tollhouselaw06_StartBack.j1, Request_eq 61 l hl, Option.bind_some]
  rcases readQ_cases l with h | ⟨m, t, n, h, hp, h1, h2, h3⟩
  · rw [h]
    dsimp only
    rw [if_neg (by decide), if_pos rfl, if_pos (mkB_toList []), if_pos (mkB_toList []), if_pos rfl]
    exact back_j2 l hl 5 (fun e => absurd e (by decide))
  · rw [h]
    dsimp only
    rw [if_pos rfl, PutRequest_eq m t n (by omega) (by omega) h1, Option.bind_some, hp]
    dsimp only
    rw [if_pos rfl, if_pos rfl]
    exact back_j2 l hl 0 (fun _ => ⟨m, t, n, hp⟩)
theorem back_j0 (l r : U8s) (hl : l.length ≤ 1073741824) (hr : r.length ≤ 1073741824) (n st : Int) (hn : I64 n) (hs : I64 st) : tollhouselaw06_StartBack.j0 64 (mkB l) (mkB r) n st = some true := by
  rw [tollhouselaw06_StartBack.j0, PutStatus_eq n st r hr hn hs, Option.bind_some]
  rcases putS_cases n st r with ⟨h, ho⟩ | h
  · have h512 := ho.2.2.2.2.2
    rw [h]
    dsimp only
    rw [if_pos rfl, Status_eq _ (by omega), Option.bind_some, read_put_S h]
    dsimp only
    rw [if_pos rfl, if_pos rfl, if_pos rfl, if_pos rfl, mkB_size, if_neg (by omega), vis_eq r (by omega), Option.bind_some, if_pos ho.2.2.2.2.1]
    exact back_j1 l hl
  · rw [h]
    dsimp only
    rw [if_neg (by decide), if_pos rfl, if_pos (mkB_toList [])]
    exact back_j1 l hl
theorem back_f (l m t r : U8s) (hl : l.length ≤ 1073741824) (hm : m.length ≤ 1073741824) (ht : t.length ≤ 1073741824) (hr : r.length ≤ 1073741824) (n st : Int) (hn : I64 n) (hs : I64 st) : tollhouselaw06_StartBack.f 64 (mkB l) (mkB m) (mkB t) (mkB r) n st = some true := by
  unfold tollhouselaw06_StartBack.f
  rw [PutRequest_eq m t n hm ht hn, Option.bind_some]
  rcases putQ_cases m t n with ⟨h, ho⟩ | h
  · have h512 := ho.2.2.2.2.2
    rw [h]
    dsimp only
    rw [if_pos rfl, Request_eq 63 _ (by omega), Option.bind_some, Status_eq _ (by omega), Option.bind_some, read_put_Q h, readS_Q h]
    dsimp only
    rw [if_pos rfl, if_pos rfl, if_pos rfl, if_pos rfl, if_pos rfl, mkB_size, if_neg (by omega), tok_eq m (by omega), Option.bind_some, if_pos ho.1]
    exact back_j0 l r hl hr n st hn hs
  · rw [h]
    dsimp only
    rw [if_neg (by decide), if_pos rfl, if_pos (mkB_toList [])]
    exact back_j0 l r hl hr n st hn hs
theorem StartBack_true (line method target reason : ByteArray) (minor status : Int) (w0 : line.size ≤ 140737488351232) (w1 : method.size ≤ 140737488351232) (w2 : target.size ≤ 140737488351232) (w3 : reason.size ≤ 140737488351232) (w4 : (Lit.int .i64 minor).wf = true) (w5 : (Lit.int .i64 status).wf = true) (hB : line.size + method.size + target.size + reason.size ≤ 1048576) : ∃ k, tollhouselaw06_StartBack.f k line method target reason minor status = some true := by
  obtain ⟨l, rfl⟩ := mk_of line
  obtain ⟨m, rfl⟩ := mk_of method
  obtain ⟨t, rfl⟩ := mk_of target
  obtain ⟨r, rfl⟩ := mk_of reason
  simp only [mkB_size] at hB
  exact ⟨64, back_f l m t r (by omega) (by omega) (by omega) (by omega) minor status (i64_of w4) (i64_of w5)⟩
end Go.Proofs.YtjmaobipfpiddaaDoor.P
