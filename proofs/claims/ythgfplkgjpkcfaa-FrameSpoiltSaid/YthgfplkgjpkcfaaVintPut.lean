/- Plain laws of numbers as few bytes, as far as a frame's length needs them. -/
import Derived.Test.YthgfplkgjpkcfaaPAllx2
import Derived.Laws.BitsLemmas
set_option linter.unusedVariables false
set_option linter.unusedSimpArgs false
namespace Go.Proofs.Ythgfplkgjpkcfaa.Pure
open Go.RowKit Go.Proofs.Ythgfplkgjpkcfaa.PAll Go.Proofs.YthgfplkgjpkcfaaW.PrintWords Go.Proofs.YthgfplkgjpkcfaaW.PrintLast Go.Proofs.YthgfplkgjpkcfaaW.PrintMore

theorem wrap_u64 (n : Int) : IntKind.u64.wrap n = n % 18446744073709551616 := by simp [IntKind.wrap, IntKind.bits, IntKind.signed]
theorem wrap64_in {n : Int} (h0 : -9223372036854775808 ≤ n) (h1 : n ≤ 9223372036854775807) : wrap64 n = n := by unfold wrap64; omega
theorem u8_bd {a : Int} (h : (Lit.int .u8 a).wf = true) : 0 ≤ a ∧ a < 256 := by
  have h0 : IntKind.u8.min = 0 := by decide
  have h1 : IntKind.u8.max = 255 := by decide
  simp [Lit.wf] at h
  omega
theorem wraps_u64 (n : Int) (h₀ : 0 ≤ n) (h₁ : n < 2 ^ 64) : IntKind.u64.wrap n = n := by rw [wrap_u64]; omega

theorem u64_and127 {x : Int} (h0 : 0 ≤ x) (h1 : x < 18446744073709551616) : Go.bits .and .u64 x 127 = x % 128 := bits_mask .u64 64 (by decide) wraps_u64 7 (by decide) x h0 h1
theorem or_comm_ (k : IntKind) (x y : Int) : Go.bits .or k x y = Go.bits .or k y x := by
  simp only [Go.bits, BitVec.or_comm]
theorem u8_or_128 {y : Int} (h0 : 0 ≤ y) (h1 : y < 128) : Go.bits .or .u8 y 128 = y + 128 := by
  rw [or_comm_, bits_join .u8 8 (by decide) wraps_u8 7 128 y (by decide) (by decide) (by decide) h0 h1 (by omega)]
  omega
def vb : Nat → Int → List Int
  | 0, n => [n]
  | d + 1, n => if n ≥ 128 then (n % 128 + 128) :: vb d (n / 128) else [n]
theorem vb_len (d : Nat) : ∀ n, 1 ≤ (vb d n).length ∧ (vb d n).length ≤ d + 1 := by
  induction d with
  | zero => intro n; simp [vb]
  | succ d ih =>
    intro n
    have := ih (n / 128)
    unfold vb
    split
    · simp; omega
    · simp
theorem put_l0 (d : Nat) : ∀ (k : Nat) (n : Int) (xs : List Int), 0 ≤ n → n < 128 ^ (d + 1) → n < 18446744073709551616 → d < k → xs.length + d < 140737488355328 →
    vint_Put.l0 k n xs = some (xs ++ vb d n) := by
  induction d with
  | zero =>
    intro k n xs h0 h1 _ hk hl
    obtain ⟨k, rfl⟩ : ∃ m, k = m + 1 := ⟨k - 1, by omega⟩
    simp only [vint_Put.l0]
    rw [if_neg (by omega), if_pos (by omega)]
    simp only [vb]
    rw [show n % 256 = n from by omega]
  | succ d ih =>
    intro k n xs h0 h1 h2 hk hl
    obtain ⟨k, rfl⟩ : ∃ m, k = m + 1 := ⟨k - 1, by omega⟩
    simp only [vint_Put.l0, vb]
    by_cases h : n ≥ 128
    · rw [if_pos h, if_pos (by omega), if_pos h, u64_and127 h0 h2, show n % 128 % 256 = n % 128 from by omega, u8_or_128 (by omega) (by omega)]
      rw [ih k (n / 128) _ (by omega) (by rw [Int.pow_succ] at h1; omega) (by omega) (by omega) (by simp; omega)]
      simp
    · rw [if_neg h, if_pos (by omega), if_neg h, show n % 256 = n from by omega]
theorem ref_put_l0 (d : Nat) : ∀ (k : Nat) (n : Int) (xs : List Int), 0 ≤ n → n < 128 ^ (d + 1) → n < 18446744073709551616 → d < k → xs.length + d < 140737488355328 →
    haruspexref01_Put.l0 k n xs = some (xs ++ vb d n) := by
  induction d with
  | zero =>
    intro k n xs h0 h1 _ hk hl
    obtain ⟨k, rfl⟩ : ∃ m, k = m + 1 := ⟨k - 1, by omega⟩
    simp only [haruspexref01_Put.l0]
    rw [if_neg (by omega), if_pos (by omega)]
    simp only [vb]
    rw [show n % 256 = n from by omega]
  | succ d ih =>
    intro k n xs h0 h1 h2 hk hl
    obtain ⟨k, rfl⟩ : ∃ m, k = m + 1 := ⟨k - 1, by omega⟩
    simp only [haruspexref01_Put.l0, vb]
    rw [Int.tmod_eq_emod_of_nonneg h0, Int.tdiv_eq_ediv_of_nonneg h0]
    simp only [wrap_u64]
    by_cases h : n ≥ 128
    · rw [if_pos h, if_pos (by omega), if_pos h, show (n % 128 + 128) % 18446744073709551616 % 256 = n % 128 + 128 from by omega, show n / 128 % 18446744073709551616 = n / 128 from by omega]
      rw [ih k (n / 128) _ (by omega) (by rw [Int.pow_succ] at h1; omega) (by omega) (by omega) (by simp; omega)]
      simp
    · rw [if_neg h, if_pos (by omega), if_neg h, show n % 256 = n from by omega]

def cnt : Nat → Int → Int
  | 0, _ => 0
  | d + 1, n => if n = 0 then 0 else 1 + cnt d (n / 128)
theorem cnt_bd (d : Nat) : ∀ n : Int, 0 ≤ cnt d n ∧ cnt d n ≤ d := by
  induction d with
  | zero => intro n; simp [cnt]
  | succ d ih =>
    intro n
    have := ih (n / 128)
    unfold cnt
    split <;> omega
theorem l0_cnt (d : Nat) : ∀ (k : Nat) (n c : Int), 0 ≤ n → n < 128 ^ d → 0 ≤ c → c + d ≤ 1000 → d < k → vint_groups_uint64.l0 k n c = some (c + cnt d n) := by
  induction d with
  | zero =>
    intro k n c h0 h1 _ _ hk
    obtain ⟨k, rfl⟩ : ∃ m, k = m + 1 := ⟨k - 1, by omega⟩
    have : n = 0 := by simp at h1; omega
    subst this
    simp [vint_groups_uint64.l0, cnt]
  | succ d ih =>
    intro k n c h0 h1 hc hd hk
    obtain ⟨k, rfl⟩ : ∃ m, k = m + 1 := ⟨k - 1, by omega⟩
    simp only [vint_groups_uint64.l0, cnt]
    by_cases h : n = 0
    · rw [if_pos h, if_pos h]; simp
    · rw [if_neg h, if_neg h, wrap64_in (by omega) (by omega), ih k (n / 128) (c + 1) (by omega) (by rw [Int.pow_succ] at h1; omega) (by omega) (by omega) (by omega)]
      congr 1; omega
theorem groups_f (k : Nat) (n : Int) (h0 : 0 ≤ n) (h1 : n < 18446744073709551616) (hk : 10 ≤ k) : vint_groups_uint64.f k n = some (1 + cnt 9 (n / 128)) := by
  unfold vint_groups_uint64.f
  rw [l0_cnt 9 k (n / 128) 1 (by omega) (by omega) (by omega) (by omega) (by omega)]
theorem put_f (k : Nat) (l : List Int) (n : Int) (h0 : 0 ≤ n) (h1 : n < 18446744073709551616) (hk : 10 ≤ k) (hl : l.length + 9 < 140737488355328) : vint_Put.f k l n = some (l ++ vb 9 n) := by
  have hc := cnt_bd 9 (n / 128)
  unfold vint_Put.f
  rw [groups_f k n h0 h1 hk, Option.bind_some, if_pos ⟨by omega, by omega, by omega⟩, put_l0 9 k n l h0 (by omega) h1 (by omega) hl]
theorem ref_put_f (k : Nat) (l : List Int) (n : Int) (h0 : 0 ≤ n) (h1 : n < 18446744073709551616) (hk : 10 ≤ k) (hl : l.length + 9 < 140737488355328) : haruspexref01_Put.f k l n = some (l ++ vb 9 n) := by
  unfold haruspexref01_Put.f
  rw [Option.bind_some, if_pos (by simp; omega), ref_put_l0 9 k n _ h0 (by omega) h1 (by omega) (by simp; omega)]
  simp
def bytes8 (l : List Int) : Prop := ∀ x ∈ l, 0 ≤ x ∧ x < 256
theorem vb_bytes (d : Nat) : ∀ n : Int, 0 ≤ n → n < 128 ^ (d + 1) → bytes8 (vb d n) := by
  induction d with
  | zero => intro n h0 h1 x hx; simp [vb] at hx; subst hx; omega
  | succ d ih =>
    intro n h0 h1 x hx
    unfold vb at hx
    split at hx
    · rcases List.mem_cons.1 hx with rfl | hx
      · omega
      · exact ih (n / 128) (by omega) (by rw [Int.pow_succ] at h1; omega) x hx
    · simp at hx; omega
end Go.Proofs.Ythgfplkgjpkcfaa.Pure
