/- Plain laws of exact numbers: what the program's sums, differences, products, quotients and rests, and the document's, come to. No program state in sight. -/
import Derived.Test.YtbjfhchlngiboaaPAllx6
import Derived.Laws.BitsLemmas
set_option linter.unusedVariables false
set_option linter.unusedSimpArgs false
namespace Go.Proofs.Ytbjfhchlngiboaa.Pure
open Go.RowKit Go.Proofs.Ytbjfhchlngiboaa.PAll Go.Proofs.YtbjfhchlngiboaaW.PrintWords Go.Proofs.YtbjfhchlngiboaaW.PrintLast Go.Proofs.YtbjfhchlngiboaaW.PrintMore

theorem wrap64_in {n : Int} (h0 : -9223372036854775808 ≤ n) (h1 : n ≤ 9223372036854775807) : wrap64 n = n := by unfold wrap64; omega
theorem wrap_u64 (n : Int) : IntKind.u64.wrap n = n % 18446744073709551616 := by simp [IntKind.wrap, IntKind.bits, IntKind.signed]
def in64 (n : Int) : Prop := -9223372036854775808 ≤ n ∧ n ≤ 9223372036854775807
instance (n : Int) : Decidable (in64 n) := by unfold in64; exact inferInstance
/-- the exact number, or ErrOver -/
def res (n : Int) : Int × Int := if -9223372036854775808 ≤ n ∧ n ≤ 9223372036854775807 then (n, 0) else (0, 10)
theorem res_in {n : Int} (h : in64 n) : res n = (n, 0) := if_pos h
theorem res_out {n : Int} (h : ¬ in64 n) : res n = (0, 10) := if_neg h
theorem i64_bd {a : Int} (h : (Lit.int .i64 a).wf = true) : in64 a := by
  have h0 : IntKind.i64.min = -9223372036854775808 := by decide
  have h1 : IntKind.i64.max = 9223372036854775807 := by decide
  simp [Lit.wf] at h
  unfold in64
  omega

theorem wrap_toInt (x : BitVec 64) : IntKind.i64.wrap (x.toNat : Int) = x.toInt := by
  have := x.isLt
  rw [IntKind.wrap_i64, BitVec.toInt_eq_toNat_cond]
  split <;> omega
theorem toInt_in {a : Int} (h : in64 a) : (BitVec.ofInt 64 a).toInt = a := by
  unfold in64 at h
  rw [BitVec.toInt_ofInt, Int.bmod_def]
  split <;> omega
/-- the sign of a xor b -/
theorem xor_neg {a b : Int} (ha : in64 a) (hb : in64 b) : Go.bits .xor .i64 a b < 0 ↔ ((a < 0 ∧ ¬ b < 0) ∨ (¬ a < 0 ∧ b < 0)) := by
  have e : Go.bits .xor .i64 a b = (BitVec.ofInt 64 a ^^^ BitVec.ofInt 64 b).toInt := by
    simp only [Go.bits]
    exact wrap_toInt _
  have h1 := BitVec.msb_xor (x := BitVec.ofInt 64 a) (y := BitVec.ofInt 64 b)
  rw [BitVec.msb_eq_toInt, BitVec.msb_eq_toInt, BitVec.msb_eq_toInt, toInt_in ha, toInt_in hb] at h1
  rw [e]
  by_cases h2 : a < 0 <;> by_cases h3 : b < 0 <;> simp [h2, h3] at h1 ⊢ <;> omega

theorem wrap_sum {a b : Int} (ha : in64 a) (hb : in64 b) : in64 (wrap64 (a + b)) := by unfold in64 wrap64; omega
theorem in_wrap (n : Int) : in64 (wrap64 n) := by unfold in64 wrap64; omega

theorem add_f {a b : Int} (ha : in64 a) (hb : in64 b) : num_Add.f a b = some (res (a + b)) := by
  unfold num_Add.f
  have h1 := xor_neg ha (in_wrap (a + b))
  have h2 := xor_neg hb (in_wrap (a + b))
  have hw : wrap64 (a + b) = a + b ∨ wrap64 (a + b) = a + b - 18446744073709551616 ∨ wrap64 (a + b) = a + b + 18446744073709551616 := by unfold in64 at ha hb; unfold wrap64; omega
  have hi := in_wrap (a + b)
  generalize hx : Go.bits .xor .i64 a (wrap64 (a + b)) = x at h1 ⊢
  generalize hy : Go.bits .xor .i64 b (wrap64 (a + b)) = y at h2 ⊢
  generalize hz : wrap64 (a + b) = z at h1 h2 hw hi ⊢
  unfold in64 at ha hb hi
  unfold res
  by_cases c1 : x < 0
  · rw [if_pos c1]
    have g1 := h1.1 c1
    by_cases c2 : y < 0
    · have g2 := h2.1 c2
      rw [if_pos c2, if_neg (by omega)]
    · have g2 := fun h => c2 (h2.2 h)
      rw [if_neg c2, if_pos (by omega)]
      congr 2; omega
  · have g1 := fun h => c1 (h1.2 h)
    rw [if_neg c1, if_pos (by omega)]
    congr 2; omega
theorem sub_f {a b : Int} (ha : in64 a) (hb : in64 b) : num_Sub.f a b = some (res (a - b)) := by
  unfold num_Sub.f
  have h1 := xor_neg ha hb
  have h2 := xor_neg ha (in_wrap (a - b))
  have hw : wrap64 (a - b) = a - b ∨ wrap64 (a - b) = a - b - 18446744073709551616 ∨ wrap64 (a - b) = a - b + 18446744073709551616 := by unfold in64 at ha hb; unfold wrap64; omega
  have hi := in_wrap (a - b)
  generalize hx : Go.bits .xor .i64 a b = x at h1 ⊢
  generalize hy : Go.bits .xor .i64 a (wrap64 (a - b)) = y at h2 ⊢
  generalize hz : wrap64 (a - b) = z at h2 hw hi ⊢
  unfold in64 at ha hb hi
  unfold res
  by_cases c1 : x < 0
  · rw [if_pos c1]
    have g1 := h1.1 c1
    by_cases c2 : y < 0
    · have g2 := h2.1 c2
      rw [if_pos c2, if_neg (by omega)]
    · have g2 := fun h => c2 (h2.2 h)
      rw [if_neg c2, if_pos (by omega)]
      congr 2; omega
  · have g1 := fun h => c1 (h1.2 h)
    rw [if_neg c1, if_pos (by omega)]
    congr 2; omega
theorem ref_add_f {a b : Int} (ha : in64 a) (hb : in64 b) : haruspexref04_Add.f a b = some (res (a + b)) := by
  unfold haruspexref04_Add.f
  unfold in64 at ha hb
  unfold res
  by_cases c1 : b > 0
  · rw [if_pos c1, wrap64_in (by omega) (by omega)]
    by_cases c2 : a > 9223372036854775807 - b
    · rw [if_pos c2, if_neg (by omega)]
    · rw [if_neg c2, if_neg (by omega), if_pos (by omega), wrap64_in (by omega) (by omega)]
  · rw [if_neg c1]
    by_cases c2 : b < 0
    · rw [if_pos c2, wrap64_in (n := -9223372036854775808 - b) (by omega) (by omega)]
      by_cases c3 : a < -9223372036854775808 - b
      · rw [if_pos c3, if_neg (by omega)]
      · rw [if_neg c3, if_pos (by omega), wrap64_in (by omega) (by omega)]
    · rw [if_neg c2, if_pos (by omega), wrap64_in (by omega) (by omega)]
theorem ref_sub_f {a b : Int} (ha : in64 a) (hb : in64 b) : haruspexref04_Sub.f a b = some (res (a - b)) := by
  unfold haruspexref04_Sub.f
  by_cases c1 : b = -9223372036854775808
  · rw [if_pos c1]
    subst c1
    unfold in64 at ha
    unfold res
    by_cases c2 : a ≥ 0
    · rw [if_pos c2, if_neg (by omega)]
    · rw [if_neg c2, if_pos (by omega), wrap64_in (by omega) (by omega)]
  · rw [if_neg c1]
    have hb' : in64 (-b) := by unfold in64 at hb ⊢; omega
    rw [wrap64_in hb'.1 hb'.2, ref_add_f ha hb', ← Int.sub_eq_add_neg]
    rfl
theorem neg_f {a : Int} (ha : in64 a) : num_Neg.f a = some (res (-a)) := by
  unfold num_Neg.f
  unfold in64 at ha
  unfold res
  by_cases c : a = -9223372036854775808
  · rw [if_pos c, if_neg (by omega)]
  · rw [if_neg c, if_pos (by omega), wrap64_in (by omega) (by omega)]
theorem ref_neg_f {a : Int} (ha : in64 a) : haruspexref04_Neg.f a = some (res (-a)) := neg_f ha

theorem sign_pos {a : Int} (h : 0 < a) : num_sign.f a = some 1 := by
  unfold num_sign.f; rw [if_neg (by omega), if_pos h]
theorem sign_neg {a : Int} (h : a < 0) : num_sign.f a = some (-1) := by
  unfold num_sign.f; rw [if_pos h]
theorem sign_zero : num_sign.f 0 = some 0 := rfl

/-- m / a below b, where a is above 0 -/
theorem div_lt_iff {m a b : Int} (ha : 0 < a) : m / a < b ↔ m < a * b := by
  rw [Int.ediv_lt_iff_lt_mul ha, Int.mul_comm]
theorem div_le_self {m a : Int} (ha : 0 < a) (hm : 0 ≤ m) : 0 ≤ m / a ∧ m / a ≤ m := ⟨Int.ediv_nonneg hm (by omega), Int.ediv_le_self a hm⟩

theorem mul_f (k : Nat) {a b : Int} (ha : in64 a) (hb : in64 b) : num_Mul.f (k + 1) a b = some (res (a * b)) := by
  unfold num_Mul.f
  have fin : ∀ c : Bool, (c = true ↔ ¬ in64 (a * b)) → num_Mul.j0 (k + 1) a b c = some (res (a * b)) := by
    intro c hc
    rw [num_Mul.j0]
    by_cases h : in64 (a * b)
    · rw [if_neg (by simp [hc, h]), res_in h, wrap64_in h.1 h.2]
    · rw [if_pos (hc.2 h), res_out h]
  rcases Int.lt_trichotomy a 0 with h1 | rfl | h1
  · rcases Int.lt_trichotomy b 0 with h2 | rfl | h2
    · rw [sign_neg h1, sign_neg h2]
      simp only [Option.bind_some]
      have hd := div_lt_iff (m := 9223372036854775807) (a := -a) (b := -b) (by omega)
      have hs := div_le_self (m := 9223372036854775807) (a := -a) (by omega) (by omega)
      have hp : 0 < a * b := Int.mul_pos_of_neg_of_neg h1 h2
      have ht : Int.tdiv 9223372036854775807 a = -(9223372036854775807 / (-a)) := by
        rw [← Int.neg_neg a, Int.tdiv_neg, Int.tdiv_eq_ediv_of_nonneg (by omega), Int.neg_neg]
      rw [show (-a) * (-b) = a * b from by rw [Int.neg_mul_neg]] at hd
      rw [if_pos (by unfold wrap64; decide), if_neg (by omega), if_pos h1, if_neg (by omega), ht, wrap64_in (by omega) (by omega)]
      apply fin
      rw [decide_eq_true_iff]
      unfold in64
      generalize a * b = p at *
      omega
    · simp only [sign_neg h1, sign_zero, Option.bind_some]
      rw [if_neg (by unfold wrap64; decide), if_neg (by unfold wrap64; decide), Int.mul_zero]
      simp [res]
    · rw [sign_neg h1, sign_pos h2]
      simp only [Option.bind_some]
      have hd := div_lt_iff (m := 9223372036854775808) (a := b) (b := -a) (by omega)
      have hs := div_le_self (m := 9223372036854775808) (a := b) (by omega) (by omega)
      have hp : a * b < 0 := Int.mul_neg_of_neg_of_pos h1 h2
      rw [show b * (-a) = -(a * b) from by rw [Int.mul_neg, Int.mul_comm]] at hd
      rw [if_neg (by unfold wrap64; decide), if_pos (by unfold wrap64; decide), if_neg (by omega), if_pos h2, if_neg (by omega), Int.tdiv_eq_ediv_of_nonneg (by omega), wrap64_in (n := -(9223372036854775808 / b)) (by omega) (by omega)]
      by_cases h : in64 (a * b)
      · rw [if_neg (by unfold in64 at h; generalize a * b = p at *; omega), res_in h, wrap64_in h.1 h.2]
      · rw [if_pos (by unfold in64 at h; generalize a * b = p at *; omega), res_out h]
  · simp only [sign_zero, Option.bind_some]
    rcases Int.lt_trichotomy b 0 with h2 | rfl | h2
    · rw [sign_neg h2]
      simp only [Option.bind_some]
      rw [if_neg (by unfold wrap64; decide), if_neg (by unfold wrap64; decide), Int.zero_mul]
      simp [res]
    · simp only [sign_zero, Option.bind_some]
      rw [if_neg (by unfold wrap64; decide), if_neg (by unfold wrap64; decide)]
      simp [res]
    · rw [sign_pos h2]
      simp only [Option.bind_some]
      rw [if_neg (by unfold wrap64; decide), if_neg (by unfold wrap64; decide), Int.zero_mul]
      simp [res]
  · rcases Int.lt_trichotomy b 0 with h2 | rfl | h2
    · rw [sign_pos h1, sign_neg h2]
      simp only [Option.bind_some]
      have hd := div_lt_iff (m := 9223372036854775808) (a := a) (b := -b) (by omega)
      have hs := div_le_self (m := 9223372036854775808) (a := a) (by omega) (by omega)
      have hp : a * b < 0 := Int.mul_neg_of_pos_of_neg h1 h2
      rw [show a * (-b) = -(a * b) from by rw [Int.mul_neg]] at hd
      rw [if_neg (by unfold wrap64; decide), if_pos (by unfold wrap64; decide), if_pos h1, if_neg (by omega), Int.tdiv_eq_ediv_of_nonneg (by omega), wrap64_in (n := -(9223372036854775808 / a)) (by omega) (by omega)]
      by_cases h : in64 (a * b)
      · rw [if_neg (by unfold in64 at h; generalize a * b = p at *; omega), if_neg (by omega), res_in h, wrap64_in h.1 h.2]
      · rw [if_pos (by unfold in64 at h; generalize a * b = p at *; omega), res_out h]
    · simp only [sign_pos h1, sign_zero, Option.bind_some]
      rw [if_neg (by unfold wrap64; decide), if_neg (by unfold wrap64; decide), Int.mul_zero]
      simp [res]
    · rw [sign_pos h1, sign_pos h2]
      simp only [Option.bind_some]
      have hd := div_lt_iff (m := 9223372036854775807) (a := a) (b := b) (by omega)
      have hs := div_le_self (m := 9223372036854775807) (a := a) (by omega) (by omega)
      have hp : 0 < a * b := Int.mul_pos h1 h2
      rw [if_pos (by unfold wrap64; decide), if_pos h1, if_neg (by omega), Int.tdiv_eq_ediv_of_nonneg (by omega), wrap64_in (n := 9223372036854775807 / a) (by omega) (by omega)]
      by_cases h : in64 (a * b)
      · rw [if_neg (by unfold in64 at h; generalize a * b = p at *; omega), if_neg (by omega)]
        exact fin false (by simp [h])
      · rw [if_pos (by unfold in64 at h; generalize a * b = p at *; omega)]
        exact fin true (by simp [h])

/-- quotient and rest, and how near the rest is to 0 -/
theorem tdiv_parts (a : Int) {b : Int} (hb : b ≠ 0) : Int.tdiv a b * b + Int.tmod a b = a ∧ (b > 0 → -b < Int.tmod a b ∧ Int.tmod a b < b) ∧ (b < 0 → b < Int.tmod a b ∧ Int.tmod a b < -b) := by
  refine ⟨?_, ?_, ?_⟩
  · have := Int.mul_tdiv_add_tmod a b
    rw [Int.mul_comm]; exact this
  · intro h
    have h1 := Int.tmod_lt_of_pos a h
    have h2 := Int.lt_tmod_of_pos a h
    omega
  · intro h
    have h1 := Int.tmod_lt_of_pos a (show 0 < -b by omega)
    have h2 := Int.lt_tmod_of_pos a (show 0 < -b by omega)
    rw [Int.tmod_neg] at h1 h2
    omega

theorem tdiv_one_ne (x : Int) {y : Int} (hy : 1 < y) (hx : x ≠ 0) : (Int.tdiv x y).natAbs < x.natAbs := by
  rw [Int.natAbs_tdiv]
  exact Nat.div_lt_self (by omega) (by omega)
theorem tdiv_in {a b : Int} (ha : in64 a) (hb0 : b ≠ 0) (hm : ¬ (a = -9223372036854775808 ∧ b = -1)) : in64 (Int.tdiv a b) := by
  have h1 : (Int.tdiv a b).natAbs ≤ a.natAbs := by rw [Int.natAbs_tdiv]; exact Nat.div_le_self _ _
  have h2 : b.natAbs ≠ 1 → a ≠ 0 → (Int.tdiv a b).natAbs < a.natAbs := by
    intro h h0
    rw [Int.natAbs_tdiv]; exact Nat.div_lt_self (by omega) (by omega)
  have h3 : b = 1 → Int.tdiv a b = a := by intro h; subst h; exact Int.tdiv_one a
  have h4 : b = -1 → Int.tdiv a b = -a := by intro h; subst h; rw [Int.tdiv_neg, Int.tdiv_one]
  unfold in64 at ha ⊢
  omega

theorem ref_mul_f (k : Nat) {a b : Int} (ha : in64 a) (hb : in64 b) : haruspexref04_Mul.f (k + 2) a b = some (res (a * b)) := by
  have j1 : ∀ c : Bool, a ≠ 0 → b ≠ 0 → (c = true ↔ (a = -9223372036854775808 ∧ b = -1 ∨ b = -9223372036854775808 ∧ a = -1)) → haruspexref04_Mul.j1 (k + 1) a b c = some (res (a * b)) := by
    intro c ha0 hb0 hc
    rw [haruspexref04_Mul.j1]
    by_cases h : c = true
    · rw [if_pos h, res_out]
      rcases hc.1 h with ⟨rfl, rfl⟩ | ⟨rfl, rfl⟩ <;> simp [in64]
    · rw [if_neg h, if_neg hb0]
      have hc' := fun z => h (hc.2 z)
      by_cases hp : in64 (a * b)
      · rw [wrap64_in hp.1 hp.2, Int.mul_tdiv_cancel _ hb0, wrap64_in ha.1 ha.2, if_pos rfl, res_in hp]
        by_cases c1 : a = -9223372036854775808
        · rw [if_pos c1]
          by_cases c2 : b = 1
          · rw [if_pos c2]
          · rw [if_neg c2, if_neg ha0, Int.mul_comm a b, Int.mul_tdiv_cancel _ ha0, wrap64_in hb.1 hb.2, if_pos rfl]
        · rw [if_neg c1]
      · rw [if_neg, res_out hp]
        intro he
        have hw : in64 (wrap64 (a * b)) := in_wrap _
        have hwd : ∃ q : Int, a * b = wrap64 (a * b) + q * 18446744073709551616 := by
          refine ⟨(a * b + 9223372036854775808) / 18446744073709551616, ?_⟩
          unfold wrap64; omega
        obtain ⟨q, hq⟩ := hwd
        by_cases hs : wrap64 (a * b) = -9223372036854775808 ∧ b = -1
        · rw [hs.1, hs.2] at he
          have h5 : wrap64 (Int.tdiv (-9223372036854775808) (-1)) = -9223372036854775808 := by unfold wrap64; decide
          exact hc' (Or.inl ⟨by rw [← he, h5], hs.2⟩)
        · have hin := tdiv_in hw hb0 hs
          rw [wrap64_in hin.1 hin.2] at he
          have hparts := tdiv_parts (wrap64 (a * b)) hb0
          rw [he] at hparts
          unfold in64 at hp hw hb
          generalize a * b = p at *
          generalize wrap64 p = c at *
          omega
  have j0 : ∀ c : Bool, (c = true ↔ (a = 0 ∨ b = 0)) → haruspexref04_Mul.j0 (k + 2) a b c = some (res (a * b)) := by
    intro c hc
    rw [haruspexref04_Mul.j0]
    by_cases h : c = true
    · rw [if_pos h]
      have hz : a * b = 0 := by rcases hc.1 h with rfl | rfl <;> simp
      rw [hz]; simp [res]
    · have hc' := fun z => h (hc.2 z)
      have ha0 : a ≠ 0 := fun z => hc' (Or.inl z)
      have hb0 : b ≠ 0 := fun z => hc' (Or.inr z)
      rw [if_neg h]
      by_cases c1 : a = -9223372036854775808
      · rw [if_pos c1]
        by_cases c2 : b = -1
        · rw [if_pos c2]; exact j1 true ha0 hb0 (by simp [c1, c2])
        · rw [if_neg c2]
          by_cases c3 : b = -9223372036854775808
          · rw [if_pos c3]; exact j1 _ ha0 hb0 (by subst c1 c3; simp)
          · rw [if_neg c3]; exact j1 _ ha0 hb0 (by simp [c2, c3])
      · rw [if_neg c1]
        by_cases c3 : b = -9223372036854775808
        · rw [if_pos c3]; exact j1 _ ha0 hb0 (by subst c3; simp)
        · rw [if_neg c3]; exact j1 _ ha0 hb0 (by simp [c1, c3])
  unfold haruspexref04_Mul.f
  by_cases h : a = 0
  · rw [if_pos h]; exact j0 true (by simp [h])
  · rw [if_neg h]; exact j0 _ (by simp [h])
theorem awake_f : haruspexlaw04_awake.f = some true := by
  unfold haruspexlaw04_awake.f
  rw [add_f (by decide) (by decide)]
  decide
end Go.Proofs.Ytbjfhchlngiboaa.Pure
