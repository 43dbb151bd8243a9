/- Plain laws of numbers as few bytes: the bytes of a number, how many, the number of bytes; turned and back. No program state in sight. -/
import Derived.Test.YtlpfbeapaboleaaPAllx3
import Derived.Laws.BitsLemmas
namespace Go.Proofs.Ytlpfbeapaboleaa.Pure
open Go.RowKit Go.Proofs.Ytlpfbeapaboleaa.PAll Go.Proofs.YtlpfbeapaboleaaW.PrintWords Go.Proofs.YtlpfbeapaboleaaW.PrintLast Go.Proofs.YtlpfbeapaboleaaW.PrintMore

theorem wrap_u64 (n : Int) : IntKind.u64.wrap n = n % 18446744073709551616 := by simp [IntKind.wrap, IntKind.bits, IntKind.signed]
theorem wrap64_in {n : Int} (h0 : -9223372036854775808 ≤ n) (h1 : n ≤ 9223372036854775807) : wrap64 n = n := by unfold wrap64; omega
theorem u64_bd {a : Int} (h : (Lit.int .u64 a).wf = true) : 0 ≤ a ∧ a < 18446744073709551616 := by
  have h0 : IntKind.u64.min = 0 := by decide
  have h1 : IntKind.u64.max = 18446744073709551615 := by decide
  simp [Lit.wf] at h
  omega
theorem i64_bd {a : Int} (h : (Lit.int .i64 a).wf = true) : -9223372036854775808 ≤ a ∧ a ≤ 9223372036854775807 := by
  have h0 : IntKind.i64.min = -9223372036854775808 := by decide
  have h1 : IntKind.i64.max = 9223372036854775807 := by decide
  simp [Lit.wf] at h
  omega
theorem u8_bd {a : Int} (h : (Lit.int .u8 a).wf = true) : 0 ≤ a ∧ a < 256 := by
  have h0 : IntKind.u8.min = 0 := by decide
  have h1 : IntKind.u8.max = 255 := by decide
  simp [Lit.wf] at h
  omega
theorem wraps_u64 (n : Int) (h₀ : 0 ≤ n) (h₁ : n < 2 ^ 64) : IntKind.u64.wrap n = n := by rw [wrap_u64]; omega

/-! ### bits -/
theorem u64_and127 {x : Int} (h0 : 0 ≤ x) (h1 : x < 18446744073709551616) : Go.bits .and .u64 x 127 = x % 128 := bits_mask .u64 64 (by decide) wraps_u64 7 (by decide) x h0 h1
theorem u64_and1 {x : Int} (h0 : 0 ≤ x) (h1 : x < 18446744073709551616) : Go.bits .and .u64 x 1 = x % 2 := bits_mask .u64 64 (by decide) wraps_u64 1 (by decide) x h0 h1
theorem u8_and127 {x : Int} (h0 : 0 ≤ x) (h1 : x < 256) : Go.bits .and .u8 x 127 = x % 128 := bits_mask .u8 8 (by decide) wraps_u8 7 (by decide) x h0 h1
theorem or_comm_ (k : IntKind) (x y : Int) : Go.bits .or k x y = Go.bits .or k y x := by
  simp only [Go.bits, BitVec.or_comm]
theorem u8_or_128 {y : Int} (h0 : 0 ≤ y) (h1 : y < 128) : Go.bits .or .u8 y 128 = y + 128 := by
  rw [or_comm_, bits_join .u8 8 (by decide) wraps_u8 7 128 y (by decide) (by decide) (by decide) h0 h1 (by omega)]
  omega
theorem u8_and128 {c : Int} (h0 : 0 ≤ c) (h1 : c < 256) : Go.bits .and .u8 c 128 = 0 ↔ c < 128 := by
  obtain ⟨n, rfl⟩ := Int.eq_ofNat_of_zero_le h0
  have hn : n < 256 := by omega
  have key : ∀ m : Fin 256, (Go.bits .and .u8 ((m.val : Nat) : Int) 128 = 0 ↔ ((m.val : Nat) : Int) < 128) := by decide +kernel
  exact key ⟨n, hn⟩
theorem u64_or_shift {n c : Int} {k : Nat} (hk : k ≤ 9) (hn0 : 0 ≤ n) (hn1 : n < 2 ^ (7 * k)) (hc0 : 0 ≤ c) (hc1 : c < 128) (hc2 : k = 9 → c ≤ 1) :
    Go.bits .or .u64 n (shl .u64 (IntKind.u64.wrap c) (wrap64 (7 * (k : Int)))) = n + c * 2 ^ (7 * k) := by
  have hw : wrap64 (7 * (k : Int)) = ((7 * k : Nat) : Int) := by rw [wrap64_in (by omega) (by omega)]; omega
  have hc : IntKind.u64.wrap c = c := by rw [wrap_u64]; omega
  have hs : shl .u64 c ((7 * k : Nat) : Int) = c * 2 ^ (7 * k) ∧ 0 ≤ c * 2 ^ (7 * k) ∧ c * 2 ^ (7 * k) < 18446744073709551616 := by
    have hm : min (((7 * k : Nat) : Int)).toNat IntKind.u64.bits = 7 * k := by
      rw [Int.toNat_natCast]; have : IntKind.u64.bits = 64 := by decide
      omega
    have hb : 0 ≤ c * 2 ^ (7 * k) ∧ c * 2 ^ (7 * k) < 18446744073709551616 := by
      have : k = 0 ∨ k = 1 ∨ k = 2 ∨ k = 3 ∨ k = 4 ∨ k = 5 ∨ k = 6 ∨ k = 7 ∨ k = 8 ∨ k = 9 := by omega
      rcases this with rfl | rfl | rfl | rfl | rfl | rfl | rfl | rfl | rfl | rfl <;> simp <;> omega
    refine ⟨?_, hb⟩
    unfold shl
    rw [hm, wrap_u64, Int.emod_eq_of_lt hb.1 hb.2]
  rw [hw, hc, hs.1, or_comm_, bits_join .u64 64 (by decide) wraps_u64 (7 * k) _ n hs.2.1 (Int.mul_emod_left _ _) hs.2.2 hn0 hn1 ?_]
  · omega
  · have : k = 0 ∨ k = 1 ∨ k = 2 ∨ k = 3 ∨ k = 4 ∨ k = 5 ∨ k = 6 ∨ k = 7 ∨ k = 8 ∨ k = 9 := by omega
    rcases this with rfl | rfl | rfl | rfl | rfl | rfl | rfl | rfl | rfl | rfl <;> simp at hn1 ⊢ <;> omega
theorem ofInt_zero_ (n : Nat) : BitVec.ofInt n 0 = 0#n := by simp
theorem u64_xor0 {x : Int} (h0 : 0 ≤ x) (h1 : x < 18446744073709551616) : Go.bits .xor .u64 x 0 = x := by
  obtain ⟨n, rfl⟩ := Int.eq_ofNat_of_zero_le h0
  have hn : n < 2 ^ 64 := by omega
  simp only [Go.bits]
  show IntKind.u64.wrap (((BitVec.ofInt 64 (n : Int)) ^^^ (BitVec.ofInt 64 0)).toNat : Int) = n
  rw [ofInt_zero_, BitVec.xor_zero, BitVec.ofInt_natCast, BitVec.toNat_ofNat, Nat.mod_eq_of_lt hn, wrap_u64]
  omega
theorem u64_xor1 {x : Int} (h0 : 0 ≤ x) (h1 : x < 18446744073709551616) : Go.bits .xor .u64 x 18446744073709551615 = 18446744073709551615 - x := by
  obtain ⟨n, rfl⟩ := Int.eq_ofNat_of_zero_le h0
  have hn : n < 2 ^ 64 := by omega
  simp only [Go.bits]
  show IntKind.u64.wrap (((BitVec.ofInt 64 (n : Int)) ^^^ (BitVec.ofInt 64 18446744073709551615)).toNat : Int) = _
  rw [show BitVec.ofInt 64 18446744073709551615 = BitVec.allOnes 64 from by decide, BitVec.xor_allOnes, BitVec.toNat_not, BitVec.ofInt_natCast, BitVec.toNat_ofNat, Nat.mod_eq_of_lt hn, wrap_u64]
  omega
theorem i64_xor0 {x : Int} (h0 : 0 ≤ x) (h1 : x ≤ 9223372036854775807) : Go.bits .xor .i64 x 0 = x := by
  obtain ⟨n, rfl⟩ := Int.eq_ofNat_of_zero_le h0
  have hn : n < 2 ^ 64 := by omega
  simp only [Go.bits]
  show IntKind.i64.wrap (((BitVec.ofInt 64 (n : Int)) ^^^ (BitVec.ofInt 64 0)).toNat : Int) = n
  rw [ofInt_zero_, BitVec.xor_zero, BitVec.ofInt_natCast, BitVec.toNat_ofNat, Nat.mod_eq_of_lt hn, IntKind.wrap_i64]
  omega
theorem i64_xor1 {x : Int} (h0 : 0 ≤ x) (h1 : x ≤ 9223372036854775807) : Go.bits .xor .i64 x (-1) = -x - 1 := by
  obtain ⟨n, rfl⟩ := Int.eq_ofNat_of_zero_le h0
  have hn : n < 2 ^ 64 := by omega
  simp only [Go.bits]
  show IntKind.i64.wrap (((BitVec.ofInt 64 (n : Int)) ^^^ (BitVec.ofInt 64 (-1))).toNat : Int) = _
  rw [show BitVec.ofInt 64 (-1) = BitVec.allOnes 64 from by decide, BitVec.xor_allOnes, BitVec.toNat_not, BitVec.ofInt_natCast, BitVec.toNat_ofNat, Nat.mod_eq_of_lt hn, IntKind.wrap_i64]
  omega

/-! ### turned, and back -/
def turn (a : Int) : Int := if a < 0 then -2 * a - 1 else 2 * a
def back (n : Int) : Int := if n % 2 = 1 then -(n / 2) - 1 else n / 2
theorem turn_bd {a : Int} (h0 : -9223372036854775808 ≤ a) (h1 : a ≤ 9223372036854775807) : 0 ≤ turn a ∧ turn a < 18446744073709551616 := by
  unfold turn; split <;> omega
theorem back_turn (a : Int) : back (turn a) = a := by
  unfold back turn
  split <;> split <;> omega
theorem turn_f {a : Int} (h0 : -9223372036854775808 ≤ a) (h1 : a ≤ 9223372036854775807) : vint_Turn.f a = some (turn a) := by
  unfold vint_Turn.f turn
  simp only [wrap_u64]
  by_cases h : a < 0
  · rw [if_pos h, show (a / 9223372036854775808) % 18446744073709551616 = 18446744073709551615 from by omega, u64_xor1 (by omega) (by omega)]
    congr 1; omega
  · rw [if_neg h, show (a / 9223372036854775808) % 18446744073709551616 = 0 from by omega, u64_xor0 (by omega) (by omega)]
    congr 1; omega
theorem ref_turn_f {a : Int} (h0 : -9223372036854775808 ≤ a) (h1 : a ≤ 9223372036854775807) : haruspexref01_Turn.f a = some (turn a) := by
  unfold haruspexref01_Turn.f turn
  simp only [wrap_u64]
  by_cases h : a < 0
  · rw [if_pos h, if_pos h, wrap64_in (n := a + 1) (by omega) (by omega), wrap64_in (by omega) (by omega)]
    congr 1; omega
  · rw [if_neg h, if_neg h]
    congr 1; omega
theorem back_f {n : Int} (h0 : 0 ≤ n) (h1 : n < 18446744073709551616) : vint_Back.f n = some (back n) := by
  unfold vint_Back.f back
  rw [u64_and1 h0 h1, wrap64_in (n := n / 2) (by omega) (by omega), wrap64_in (n := n % 2) (by omega) (by omega), wrap64_in (n := -(n % 2)) (by omega) (by omega)]
  by_cases h : n % 2 = 1
  · rw [if_pos h, h, i64_xor1 (by omega) (by omega)]
  · rw [if_neg h, show n % 2 = 0 from by omega]
    show some (Go.bits .xor .i64 (n / 2) 0) = _
    rw [i64_xor0 (by omega) (by omega)]
theorem ref_back_f {n : Int} (h0 : 0 ≤ n) (h1 : n < 18446744073709551616) : haruspexref01_Back.f n = some (back n) := by
  unfold haruspexref01_Back.f back
  rw [Int.tmod_eq_emod_of_nonneg h0, Int.tdiv_eq_ediv_of_nonneg h0]
  simp only [wrap_u64]
  rw [show n / 2 % 18446744073709551616 = n / 2 from by omega, wrap64_in (n := n / 2) (by omega) (by omega)]
  by_cases h : n % 2 = 1
  · rw [if_pos h, if_pos h, wrap64_in (n := -(n / 2)) (by omega) (by omega), wrap64_in (by omega) (by omega)]
  · rw [if_neg h, if_neg h]

/-! ### a number's bytes -/
/-- the bytes, to a depth of so many further groups -/
def vb : Nat → Int → List Int
  | 0, n => [n]
  | d + 1, n => if n ≥ 128 then (n % 128 + 128) :: vb d (n / 128) else [n]
theorem vb_len (d : Nat) : ∀ n, 1 ≤ (vb d n).length ∧ (vb d n).length ≤ d + 1 := by
  induction d with
  | zero => intro n; simp [vb]
  | succ d ih =>
    intro n
    have := ih (n / 128)
    unfold vb
    split
    · simp; omega
    · simp
theorem put_l0 (d : Nat) : ∀ (k : Nat) (n : Int) (xs : List Int), 0 ≤ n → n < 128 ^ (d + 1) → n < 18446744073709551616 → d < k → xs.length + d < 140737488355328 →
    vint_Put.l0 k n xs = some (xs ++ vb d n) := by
  induction d with
  | zero =>
    intro k n xs h0 h1 _ hk hl
    obtain ⟨k, rfl⟩ : ∃ m, k = m + 1 := ⟨k - 1, by omega⟩
    simp only [vint_Put.l0]
    rw [if_neg (by omega), if_pos (by omega)]
    simp only [vb]
    rw [show n % 256 = n from by omega]
  | succ d ih =>
    intro k n xs h0 h1 h2 hk hl
    obtain ⟨k, rfl⟩ : ∃ m, k = m + 1 := ⟨k - 1, by omega⟩
    simp only [vint_Put.l0, vb]
    by_cases h : n ≥ 128
    · rw [if_pos h, if_pos (by omega), if_pos h, u64_and127 h0 h2, show n % 128 % 256 = n % 128 from by omega, u8_or_128 (by omega) (by omega)]
      rw [ih k (n / 128) _ (by omega) (by rw [Int.pow_succ] at h1; omega) (by omega) (by omega) (by simp; omega)]
      simp
    · rw [if_neg h, if_pos (by omega), if_neg h, show n % 256 = n from by omega]
theorem ref_put_l0 (d : Nat) : ∀ (k : Nat) (n : Int) (xs : List Int), 0 ≤ n → n < 128 ^ (d + 1) → n < 18446744073709551616 → d < k → xs.length + d < 140737488355328 →
    haruspexref01_Put.l0 k n xs = some (xs ++ vb d n) := by
  induction d with
  | zero =>
    intro k n xs h0 h1 _ hk hl
    obtain ⟨k, rfl⟩ : ∃ m, k = m + 1 := ⟨k - 1, by omega⟩
    simp only [haruspexref01_Put.l0]
    rw [if_neg (by omega), if_pos (by omega)]
    simp only [vb]
    rw [show n % 256 = n from by omega]
  | succ d ih =>
    intro k n xs h0 h1 h2 hk hl
    obtain ⟨k, rfl⟩ : ∃ m, k = m + 1 := ⟨k - 1, by omega⟩
    simp only [haruspexref01_Put.l0, vb]
    rw [Int.tmod_eq_emod_of_nonneg h0, Int.tdiv_eq_ediv_of_nonneg h0]
    simp only [wrap_u64]
    by_cases h : n ≥ 128
    · rw [if_pos h, if_pos (by omega), if_pos h, show (n % 128 + 128) % 18446744073709551616 % 256 = n % 128 + 128 from by omega, show n / 128 % 18446744073709551616 = n / 128 from by omega]
      rw [ih k (n / 128) _ (by omega) (by rw [Int.pow_succ] at h1; omega) (by omega) (by omega) (by simp; omega)]
      simp
    · rw [if_neg h, if_pos (by omega), if_neg h, show n % 256 = n from by omega]

/-- how many more groups of seven bits a number has, counted to a depth -/
def cnt : Nat → Int → Int
  | 0, _ => 0
  | d + 1, n => if n = 0 then 0 else 1 + cnt d (n / 128)
theorem cnt_bd (d : Nat) : ∀ n : Int, 0 ≤ cnt d n ∧ cnt d n ≤ d := by
  induction d with
  | zero => intro n; simp [cnt]
  | succ d ih =>
    intro n
    have := ih (n / 128)
    unfold cnt
    split <;> omega
theorem cnt_mono (d : Nat) : ∀ m n : Int, 0 ≤ m → m ≤ n → cnt d m ≤ cnt d n := by
  induction d with
  | zero => intro m n _ _; simp [cnt]
  | succ d ih =>
    intro m n h0 h
    have h1 := ih (m / 128) (n / 128) (by omega) (by omega)
    have h2 := cnt_bd d (n / 128)
    unfold cnt
    split
    · split <;> omega
    · rw [if_neg (by omega)]; omega
theorem l0_cnt (d : Nat) : ∀ (k : Nat) (n c : Int), 0 ≤ n → n < 128 ^ d → 0 ≤ c → c + d ≤ 1000 → d < k → vint_groups_uint64.l0 k n c = some (c + cnt d n) := by
  induction d with
  | zero =>
    intro k n c h0 h1 _ _ hk
    obtain ⟨k, rfl⟩ : ∃ m, k = m + 1 := ⟨k - 1, by omega⟩
    have : n = 0 := by simp at h1; omega
    subst this
    simp [vint_groups_uint64.l0, cnt]
  | succ d ih =>
    intro k n c h0 h1 hc hd hk
    obtain ⟨k, rfl⟩ : ∃ m, k = m + 1 := ⟨k - 1, by omega⟩
    simp only [vint_groups_uint64.l0, cnt]
    by_cases h : n = 0
    · rw [if_pos h, if_pos h]; simp
    · rw [if_neg h, if_neg h, wrap64_in (by omega) (by omega), ih k (n / 128) (c + 1) (by omega) (by rw [Int.pow_succ] at h1; omega) (by omega) (by omega) (by omega)]
      congr 1; omega
theorem groups_f (k : Nat) (n : Int) (h0 : 0 ≤ n) (h1 : n < 18446744073709551616) (hk : 10 ≤ k) : vint_groups_uint64.f k n = some (1 + cnt 9 (n / 128)) := by
  unfold vint_groups_uint64.f
  rw [l0_cnt 9 k (n / 128) 1 (by omega) (by omega) (by omega) (by omega) (by omega)]
theorem size_f (k : Nat) (n : Int) (h0 : 0 ≤ n) (h1 : n < 18446744073709551616) (hk : 10 ≤ k) : vint_Size.f k n = some (1 + cnt 9 (n / 128)) := by
  unfold vint_Size.f
  rw [groups_f k n h0 h1 hk]; rfl
theorem vb_cnt (d : Nat) : ∀ n : Int, 0 ≤ n → ((vb d n).length : Int) = 1 + cnt d (n / 128) := by
  induction d with
  | zero => intro n _; simp [vb, cnt]
  | succ d ih =>
    intro n h0
    unfold vb cnt
    by_cases h : n ≥ 128
    · rw [if_pos h, if_neg (by omega), List.length_cons, Int.natCast_succ, ih (n / 128) (by omega)]; omega
    · rw [if_neg h, if_pos (by omega)]; simp
theorem awake_f (k : Nat) (hk : 10 ≤ k) : haruspexlaw01_awake.f k = some true := by
  unfold haruspexlaw01_awake.f
  rw [size_f k 300 (by omega) (by omega) hk]
  decide
theorem put_f (k : Nat) (l : List Int) (n : Int) (h0 : 0 ≤ n) (h1 : n < 18446744073709551616) (hk : 10 ≤ k) (hl : l.length + 9 < 140737488355328) : vint_Put.f k l n = some (l ++ vb 9 n) := by
  have hc := cnt_bd 9 (n / 128)
  unfold vint_Put.f
  rw [groups_f k n h0 h1 hk, Option.bind_some, if_pos ⟨by omega, by omega, by omega⟩, put_l0 9 k n l h0 (by omega) h1 (by omega) hl]
theorem ref_put_f (k : Nat) (l : List Int) (n : Int) (h0 : 0 ≤ n) (h1 : n < 18446744073709551616) (hk : 10 ≤ k) (hl : l.length + 9 < 140737488355328) : haruspexref01_Put.f k l n = some (l ++ vb 9 n) := by
  unfold haruspexref01_Put.f
  rw [Option.bind_some, if_pos (by simp; omega), ref_put_l0 9 k n _ h0 (by omega) h1 (by omega) (by simp; omega)]
  simp
theorem ref_size_f (k : Nat) (n : Int) (h0 : 0 ≤ n) (h1 : n < 18446744073709551616) (hk : 10 ≤ k) : haruspexref01_Size.f k n = some (1 + cnt 9 (n / 128)) := by
  unfold haruspexref01_Size.f
  rw [ref_put_f k [] n h0 h1 hk (by simp), Option.bind_some, List.nil_append, vb_cnt 9 n h0]
theorem putint_f (k : Nat) (l : List Int) (a : Int) (h0 : -9223372036854775808 ≤ a) (h1 : a ≤ 9223372036854775807) (hk : 10 ≤ k) (hl : l.length + 9 < 140737488355328) : vint_PutInt.f k l a = some (l ++ vb 9 (turn a)) := by
  have hb := turn_bd h0 h1
  unfold vint_PutInt.f
  rw [turn_f h0 h1, Option.bind_some, put_f k l _ hb.1 hb.2 hk hl]; rfl
theorem ref_putint_f (k : Nat) (l : List Int) (a : Int) (h0 : -9223372036854775808 ≤ a) (h1 : a ≤ 9223372036854775807) (hk : 10 ≤ k) (hl : l.length + 9 < 140737488355328) : haruspexref01_PutInt.f k l a = some (l ++ vb 9 (turn a)) := by
  have hb := turn_bd h0 h1
  unfold haruspexref01_PutInt.f
  rw [ref_turn_f h0 h1, Option.bind_some, ref_put_f k l _ hb.1 hb.2 hk hl]; rfl
end Go.Proofs.Ytlpfbeapaboleaa.Pure
