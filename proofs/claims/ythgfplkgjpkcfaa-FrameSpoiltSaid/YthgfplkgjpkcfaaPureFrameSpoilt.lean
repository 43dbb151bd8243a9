/- FrameSpoilt: a frame with bits turned, all within 32 side by side behind its length, is not opened; with bits of its length turned it is not opened as the same bytes. No condition. -/
import Derived.Test.YthgfplkgjpkcfaaFrameFinal
import Derived.Test.YthgfplkgjpkcfaaPAllx4
set_option linter.unusedVariables false
namespace Go.Proofs.Ythgfplkgjpkcfaa.Pure
open Go.RowKit Go.Proofs.Ythgfplkgjpkcfaa.PAll Go.Proofs.YthgfplkgjpkcfaaW.PrintWords Go.Proofs.YthgfplkgjpkcfaaW.PrintLast Go.Proofs.Ythgfplkgjpkcfaa.Burst

theorem spoilt_done {b y : List Int} (hb : bytes8 b) (hl : b.length ≤ 2000) {B : Int} {k i : Nat} {s g : Bool} (hi : i ≤ 32) (h : Inv (frameOf b) y B k i (vb 9 (b.length : Int)).length s g) (K : Nat) (hK : 300000 ≤ K) (u v w : Int) :
    haruspexlaw03_FrameSpoilt.j2 (K + 1) b u y v w s g (i : Int) false = some true := by
  rw [haruspexlaw03_FrameSpoilt.j2, if_neg (by simp)]
  cases g with
  | true =>
    obtain ⟨x, p, e, ho, hx⟩ := found_length hb hl h K hK
    rw [ho, Option.bind_some, if_pos rfl]
    dsimp only
    by_cases he : e = 0
    · rw [if_pos he]
      have hne := hx.resolve_left (fun h => h he)
      have hxb : ¬ (strOfNums x).toList = (strOfNums b).toList := by
        intro hs
        rw [toList_eq, bytesOf_strOfNums hne.1, bytesOf_strOfNums hb] at hs
        exact hne.2 hs
      rw [if_neg hxb, awake_f]; rfl
    · rw [if_neg he, awake_f]; rfl
  | false =>
    obtain ⟨x, p, e, ho, he, hx⟩ := found_at hb hl hi h K hK
    rw [ho, Option.bind_some, if_neg (by simp)]
    dsimp only
    have hes : ((e == 8) == s) = true := by
      cases s with
      | true => rw [he.2 rfl]; rfl
      | false =>
        have : ¬ e = 8 := fun h => by have := he.1 h; cases this
        rw [beq_false_of_ne this]; rfl
    rw [if_pos hes]
    cases s with
    | true => rw [if_pos rfl, awake_f]; rfl
    | false =>
      rw [if_neg (by simp), if_pos (by rw [hx.resolve_left (by simp)]), awake_f]; rfl
theorem bit_on (B : Int) (h0 : 0 ≤ B) (h1 : B < 4294967296) (i : Nat) (hi : i < 32) : Go.bits .and .u32 (shr .u32 B (i : Int)) 1 = B / 2 ^ i % 2 := by
  rw [shr_u32 B i hi]
  have hp : (0 : Int) < 2 ^ i := Int.pow_pos (by omega)
  have h2 : 0 ≤ B / 2 ^ i := Int.ediv_nonneg h0 (by omega)
  have h3 : B / 2 ^ i ≤ B := Int.ediv_le_self _ h0
  have := band1 (B / 2 ^ i).toNat (by omega)
  rw [show (((B / 2 ^ i).toNat : Nat) : Int) = B / 2 ^ i from by omega] at this
  rw [this]; omega
theorem spoilt_l0 {b : List Int} (hb : bytes8 b) (hl : b.length ≤ 2000) {B : Int} (hB0 : 0 ≤ B) (hB1 : B < 4294967296) (k : Nat) (d : Nat) : ∀ (i K : Nat) (y : List Int) (s g : Bool), i + d = 32 → 2 * d + 300010 ≤ K → Inv (frameOf b) y B k i (vb 9 (b.length : Int)).length s g →
    haruspexlaw03_FrameSpoilt.l0 K b B y ((vb 9 (b.length : Int)).length : Int) (k : Int) s g (i : Int) = some true := by
  have hv := vb_len 9 (b.length : Int)
  have hfl := frameOf_len b
  induction d with
  | zero =>
    intro i K y s g hi hK h
    obtain ⟨K, rfl⟩ : ∃ n, K = n + 2 := ⟨K - 2, by omega⟩
    rw [haruspexlaw03_FrameSpoilt.l0, if_neg (by omega)]
    exact spoilt_done hb hl (by omega) h K (by omega) _ _ _
  | succ d ih =>
    intro i K y s g hi hK h
    obtain ⟨K, rfl⟩ : ∃ n, K = n + 2 := ⟨K - 2, by omega⟩
    have hyl := h.len
    have hfit := h.fit
    rw [haruspexlaw03_FrameSpoilt.l0, if_pos (by omega), wrap64_in (n := (k : Int) + i) (by omega) (by omega), wrap64_in (n := 8 * (y.length : Int)) (by omega) (by omega)]
    by_cases hlt : k + i < 8 * y.length
    · rw [decide_eq_true (by omega), haruspexlaw03_FrameSpoilt.j2, if_pos rfl, if_pos (by omega), bit_on B hB0 hB1 i (by omega), wrap64_in (n := (k : Int) + i) (by omega) (by omega), show (k : Int) + i = ((k + i : Nat) : Int) from by omega,
        Int.tdiv_eq_ediv_of_nonneg (by omega), Int.tmod_eq_emod_of_nonneg (by omega), wrap64_in (n := ((k + i : Nat) : Int) / 8) (by omega) (by omega), wrap64_in (n := (i : Int) + 1) (by omega) (by omega), show (i : Int) + 1 = ((i + 1 : Nat) : Int) from by omega,
        show ((k + i : Nat) : Int) / 8 = (((k + i) / 8 : Nat) : Int) from by omega, show ((k + i : Nat) : Int) % 8 = (((k + i) % 8 : Nat) : Int) from by omega]
      by_cases hbit : B / 2 ^ i % 2 = 1
      · rw [if_pos hbit, if_pos (by omega), if_pos (by omega), if_pos (by omega), Option.bind_some, Int.toNat_natCast]
        cases g with
        | true =>
          rw [if_pos rfl]
          exact ih (i + 1) K _ _ _ (by omega) (by omega) (h.turn (by omega) hbit true rfl)
        | false =>
          rw [if_neg (by simp)]
          exact ih (i + 1) K _ _ _ (by omega) (by omega) (h.turn (by omega) hbit _ (by rw [Bool.false_or]; exact decide_eq_decide.2 (by omega)))
      · rw [if_neg hbit]
        exact ih (i + 1) K _ _ _ (by omega) (by omega) (h.skip (by omega) hbit)
    · rw [decide_eq_false (by omega)]
      exact spoilt_done hb hl (by omega) h K (by omega) _ _ _
theorem FrameSpoilt : haruspexlaw03_FrameSpoilt.Pure := by
  intro l a B _ _ hw ha hB
  have h : bytes8 l := fun x hx => u8_bd (hw x hx)
  have ha2 : 0 ≤ a ∧ a < 65536 := by
    have h0 : IntKind.u16.min = 0 := by decide
    have h1 : IntKind.u16.max = 65535 := by decide
    simp [Lit.wf] at ha
    omega
  have hB2 : 0 ≤ B ∧ B < 4294967296 := by
    have h0 : IntKind.u32.min = 0 := by decide
    have h1 : IntKind.u32.max = 4294967295 := by decide
    simp [Lit.wf] at hB
    omega
  refine ⟨400001, ?_⟩
  unfold haruspexlaw03_FrameSpoilt.f
  by_cases hl : (l.length : Int) > 2000
  · rw [if_pos hl, awake_f]; rfl
  · have hv := vb_len 9 (l.length : Int)
    have hfl := frameOf_len l
    have hwf := wrap_f h (show l.length ≤ 65536 by omega) 400001 (by omega)
    rw [if_neg hl, hwf, Option.bind_some, if_pos rfl]
    show haruspexlaw03_FrameSpoilt.j0 400001 l a B (frameOf l) _ = _
    rw [decide_eq_false (by show ¬ ((frameOf l).length : Int) < 5; omega), haruspexlaw03_FrameSpoilt.j0, if_neg (by simp), wrap64_in (n := 8 * ((frameOf l).length : Int)) (by omega) (by omega), if_neg (by omega),
      wrap64_in (n := ((frameOf l).length : Int) - l.length) (by omega) (by omega), wrap64_in (n := ((frameOf l).length : Int) - l.length - 4) (by omega) (by omega), wrap64_in (n := a) (by omega) (by omega), Int.tmod_eq_emod_of_nonneg (by omega)]
    have hk := Int.emod_nonneg a (show (8 * ((frameOf l).length : Int)) ≠ 0 by omega)
    have hk2 := Int.emod_lt_of_pos a (show (0 : Int) < 8 * ((frameOf l).length : Int) by omega)
    have := spoilt_l0 h (by omega) hB2.1 hB2.2 (a % (8 * ((frameOf l).length : Int))).toNat 32 0 400000 (frameOf l) false false rfl (by omega) (Inv.start (frameOf_bytes h (by omega)) B _ _ (by omega))
    rw [show (((a % (8 * ((frameOf l).length : Int))).toNat : Nat) : Int) = a % (8 * ((frameOf l).length : Int)) from by omega] at this
    rw [show ((frameOf l).length : Int) - l.length - 4 = ((vb 9 (l.length : Int)).length : Int) from by omega]
    exact this
end Go.Proofs.Ythgfplkgjpkcfaa.Pure
