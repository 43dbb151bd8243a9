/- Plain laws of numbers' texts, as far as tokens need them: the program's and the document's reading of any text come to one number and error. -/
import Derived.Test.YtkbngfelegcplaaPAllx11
import Derived.Test.YtkbngfelegcplaaStr
import Derived.Laws.BitsLemmas
set_option linter.unusedVariables false
set_option linter.unusedSimpArgs false
namespace Go.Proofs.Ytkbngfelegcplaa.PureNum
open Go.Proofs.Ytkbngfelegcplaa.Pure
open Go.RowKit Go.Proofs.Ytkbngfelegcplaa.PAll Go.Proofs.YtkbngfelegcplaaW.PrintWords Go.Proofs.YtkbngfelegcplaaW.PrintLast Go.Proofs.YtkbngfelegcplaaW.PrintMore

theorem wrap64_in {n : Int} (h0 : -9223372036854775808 ≤ n) (h1 : n ≤ 9223372036854775807) : wrap64 n = n := by unfold wrap64; omega
theorem wrap_u64 (n : Int) : IntKind.u64.wrap n = n % 18446744073709551616 := by simp [IntKind.wrap, IntKind.bits, IntKind.signed]
def in64 (n : Int) : Prop := -9223372036854775808 ≤ n ∧ n ≤ 9223372036854775807
instance (n : Int) : Decidable (in64 n) := by unfold in64; exact inferInstance
/-- the exact number, or ErrOver -/
def res (n : Int) : Int × Int := if -9223372036854775808 ≤ n ∧ n ≤ 9223372036854775807 then (n, 0) else (0, 10)
theorem res_in {n : Int} (h : in64 n) : res n = (n, 0) := if_pos h
theorem res_out {n : Int} (h : ¬ in64 n) : res n = (0, 10) := if_neg h
theorem i64_bd {a : Int} (h : (Lit.int .i64 a).wf = true) : in64 a := by
  have h0 : IntKind.i64.min = -9223372036854775808 := by decide
  have h1 : IntKind.i64.max = 9223372036854775807 := by decide
  simp [Lit.wf] at h
  unfold in64
  omega

theorem wrap_toInt (x : BitVec 64) : IntKind.i64.wrap (x.toNat : Int) = x.toInt := by
  have := x.isLt
  rw [IntKind.wrap_i64, BitVec.toInt_eq_toNat_cond]
  split <;> omega
theorem toInt_in {a : Int} (h : in64 a) : (BitVec.ofInt 64 a).toInt = a := by
  unfold in64 at h
  rw [BitVec.toInt_ofInt, Int.bmod_def]
  split <;> omega
/-- the sign of a xor b -/
theorem xor_neg {a b : Int} (ha : in64 a) (hb : in64 b) : Go.bits .xor .i64 a b < 0 ↔ ((a < 0 ∧ ¬ b < 0) ∨ (¬ a < 0 ∧ b < 0)) := by
  have e : Go.bits .xor .i64 a b = (BitVec.ofInt 64 a ^^^ BitVec.ofInt 64 b).toInt := by
    simp only [Go.bits]
    exact wrap_toInt _
  have h1 := BitVec.msb_xor (x := BitVec.ofInt 64 a) (y := BitVec.ofInt 64 b)
  rw [BitVec.msb_eq_toInt, BitVec.msb_eq_toInt, BitVec.msb_eq_toInt, toInt_in ha, toInt_in hb] at h1
  rw [e]
  by_cases h2 : a < 0 <;> by_cases h3 : b < 0 <;> simp [h2, h3] at h1 ⊢ <;> omega

theorem wrap_sum {a b : Int} (ha : in64 a) (hb : in64 b) : in64 (wrap64 (a + b)) := by unfold in64 wrap64; omega
theorem in_wrap (n : Int) : in64 (wrap64 n) := by unfold in64 wrap64; omega

theorem sub_f {a b : Int} (ha : in64 a) (hb : in64 b) : num_Sub.f a b = some (res (a - b)) := by
  unfold num_Sub.f
  have h1 := xor_neg ha hb
  have h2 := xor_neg ha (in_wrap (a - b))
  have hw : wrap64 (a - b) = a - b ∨ wrap64 (a - b) = a - b - 18446744073709551616 ∨ wrap64 (a - b) = a - b + 18446744073709551616 := by unfold in64 at ha hb; unfold wrap64; omega
  have hi := in_wrap (a - b)
  generalize hx : Go.bits .xor .i64 a b = x at h1 ⊢
  generalize hy : Go.bits .xor .i64 a (wrap64 (a - b)) = y at h2 ⊢
  generalize hz : wrap64 (a - b) = z at h2 hw hi ⊢
  unfold in64 at ha hb hi
  unfold res
  by_cases c1 : x < 0
  · rw [if_pos c1]
    have g1 := h1.1 c1
    by_cases c2 : y < 0
    · have g2 := h2.1 c2
      rw [if_pos c2, if_neg (by omega)]
    · have g2 := fun h => c2 (h2.2 h)
      rw [if_neg c2, if_pos (by omega)]
      congr 2; omega
  · have g1 := fun h => c1 (h1.2 h)
    rw [if_neg c1, if_pos (by omega)]
    congr 2; omega
theorem ref_add_f {a b : Int} (ha : in64 a) (hb : in64 b) : haruspexref04_Add.f a b = some (res (a + b)) := by
  unfold haruspexref04_Add.f
  unfold in64 at ha hb
  unfold res
  by_cases c1 : b > 0
  · rw [if_pos c1, wrap64_in (by omega) (by omega)]
    by_cases c2 : a > 9223372036854775807 - b
    · rw [if_pos c2, if_neg (by omega)]
    · rw [if_neg c2, if_neg (by omega), if_pos (by omega), wrap64_in (by omega) (by omega)]
  · rw [if_neg c1]
    by_cases c2 : b < 0
    · rw [if_pos c2, wrap64_in (n := -9223372036854775808 - b) (by omega) (by omega)]
      by_cases c3 : a < -9223372036854775808 - b
      · rw [if_pos c3, if_neg (by omega)]
      · rw [if_neg c3, if_pos (by omega), wrap64_in (by omega) (by omega)]
    · rw [if_neg c2, if_pos (by omega), wrap64_in (by omega) (by omega)]
theorem ref_sub_f {a b : Int} (ha : in64 a) (hb : in64 b) : haruspexref04_Sub.f a b = some (res (a - b)) := by
  unfold haruspexref04_Sub.f
  by_cases c1 : b = -9223372036854775808
  · rw [if_pos c1]
    subst c1
    unfold in64 at ha
    unfold res
    by_cases c2 : a ≥ 0
    · rw [if_pos c2, if_neg (by omega)]
    · rw [if_neg c2, if_pos (by omega), wrap64_in (by omega) (by omega)]
  · rw [if_neg c1]
    have hb' : in64 (-b) := by unfold in64 at hb ⊢; omega
    rw [wrap64_in hb'.1 hb'.2, ref_add_f ha hb', ← Int.sub_eq_add_neg]
    rfl
theorem neg_f {a : Int} (ha : in64 a) : num_Neg.f a = some (res (-a)) := by
  unfold num_Neg.f
  unfold in64 at ha
  unfold res
  by_cases c : a = -9223372036854775808
  · rw [if_pos c, if_neg (by omega)]
  · rw [if_neg c, if_pos (by omega), wrap64_in (by omega) (by omega)]
theorem ref_neg_f {a : Int} (ha : in64 a) : haruspexref04_Neg.f a = some (res (-a)) := neg_f ha

theorem sign_pos {a : Int} (h : 0 < a) : num_sign.f a = some 1 := by
  unfold num_sign.f; rw [if_neg (by omega), if_pos h]
theorem sign_neg {a : Int} (h : a < 0) : num_sign.f a = some (-1) := by
  unfold num_sign.f; rw [if_pos h]
theorem sign_zero : num_sign.f 0 = some 0 := rfl

/-- m / a below b, where a is above 0 -/
theorem div_lt_iff {m a b : Int} (ha : 0 < a) : m / a < b ↔ m < a * b := by
  rw [Int.ediv_lt_iff_lt_mul ha, Int.mul_comm]
theorem div_le_self {m a : Int} (ha : 0 < a) (hm : 0 ≤ m) : 0 ≤ m / a ∧ m / a ≤ m := ⟨Int.ediv_nonneg hm (by omega), Int.ediv_le_self a hm⟩

theorem mul_f (k : Nat) {a b : Int} (ha : in64 a) (hb : in64 b) : num_Mul.f (k + 1) a b = some (res (a * b)) := by
  unfold num_Mul.f
  have fin : ∀ c : Bool, (c = true ↔ ¬ in64 (a * b)) → num_Mul.j0 (k + 1) a b c = some (res (a * b)) := by
    intro c hc
    rw [num_Mul.j0]
    by_cases h : in64 (a * b)
    · rw [if_neg (by simp [hc, h]), res_in h, wrap64_in h.1 h.2]
    · rw [if_pos (hc.2 h), res_out h]
  rcases Int.lt_trichotomy a 0 with h1 | rfl | h1
  · rcases Int.lt_trichotomy b 0 with h2 | rfl | h2
    · rw [sign_neg h1, sign_neg h2]
      simp only [Option.bind_some]
      have hd := div_lt_iff (m := 9223372036854775807) (a := -a) (b := -b) (by omega)
      have hs := div_le_self (m := 9223372036854775807) (a := -a) (by omega) (by omega)
      have hp : 0 < a * b := Int.mul_pos_of_neg_of_neg h1 h2
      have ht : Int.tdiv 9223372036854775807 a = -(9223372036854775807 / (-a)) := by
        rw [← Int.neg_neg a, Int.tdiv_neg, Int.tdiv_eq_ediv_of_nonneg (by omega), Int.neg_neg]
      rw [show (-a) * (-b) = a * b from by rw [Int.neg_mul_neg]] at hd
      rw [if_pos (by unfold wrap64; decide), if_neg (by omega), if_pos h1, if_neg (by omega), ht, wrap64_in (by omega) (by omega)]
      apply fin
      rw [decide_eq_true_iff]
      unfold in64
      generalize a * b = p at *
      omega
    · simp only [sign_neg h1, sign_zero, Option.bind_some]
      rw [if_neg (by unfold wrap64; decide), if_neg (by unfold wrap64; decide), Int.mul_zero]
      simp [res]
    · rw [sign_neg h1, sign_pos h2]
      simp only [Option.bind_some]
      have hd := div_lt_iff (m := 9223372036854775808) (a := b) (b := -a) (by omega)
      have hs := div_le_self (m := 9223372036854775808) (a := b) (by omega) (by omega)
      have hp : a * b < 0 := Int.mul_neg_of_neg_of_pos h1 h2
      rw [show b * (-a) = -(a * b) from by rw [Int.mul_neg, Int.mul_comm]] at hd
      rw [if_neg (by unfold wrap64; decide), if_pos (by unfold wrap64; decide), if_neg (by omega), if_pos h2, if_neg (by omega), Int.tdiv_eq_ediv_of_nonneg (by omega), wrap64_in (n := -(9223372036854775808 / b)) (by omega) (by omega)]
      by_cases h : in64 (a * b)
      · rw [if_neg (by unfold in64 at h; generalize a * b = p at *; omega), res_in h, wrap64_in h.1 h.2]
      · rw [if_pos (by unfold in64 at h; generalize a * b = p at *; omega), res_out h]
  · simp only [sign_zero, Option.bind_some]
    rcases Int.lt_trichotomy b 0 with h2 | rfl | h2
    · rw [sign_neg h2]
      simp only [Option.bind_some]
      rw [if_neg (by unfold wrap64; decide), if_neg (by unfold wrap64; decide), Int.zero_mul]
      simp [res]
    · simp only [sign_zero, Option.bind_some]
      rw [if_neg (by unfold wrap64; decide), if_neg (by unfold wrap64; decide)]
      simp [res]
    · rw [sign_pos h2]
      simp only [Option.bind_some]
      rw [if_neg (by unfold wrap64; decide), if_neg (by unfold wrap64; decide), Int.zero_mul]
      simp [res]
  · rcases Int.lt_trichotomy b 0 with h2 | rfl | h2
    · rw [sign_pos h1, sign_neg h2]
      simp only [Option.bind_some]
      have hd := div_lt_iff (m := 9223372036854775808) (a := a) (b := -b) (by omega)
      have hs := div_le_self (m := 9223372036854775808) (a := a) (by omega) (by omega)
      have hp : a * b < 0 := Int.mul_neg_of_pos_of_neg h1 h2
      rw [show a * (-b) = -(a * b) from by rw [Int.mul_neg]] at hd
      rw [if_neg (by unfold wrap64; decide), if_pos (by unfold wrap64; decide), if_pos h1, if_neg (by omega), Int.tdiv_eq_ediv_of_nonneg (by omega), wrap64_in (n := -(9223372036854775808 / a)) (by omega) (by omega)]
      by_cases h : in64 (a * b)
      · rw [if_neg (by unfold in64 at h; generalize a * b = p at *; omega), if_neg (by omega), res_in h, wrap64_in h.1 h.2]
      · rw [if_pos (by unfold in64 at h; generalize a * b = p at *; omega), res_out h]
    · simp only [sign_pos h1, sign_zero, Option.bind_some]
      rw [if_neg (by unfold wrap64; decide), if_neg (by unfold wrap64; decide), Int.mul_zero]
      simp [res]
    · rw [sign_pos h1, sign_pos h2]
      simp only [Option.bind_some]
      have hd := div_lt_iff (m := 9223372036854775807) (a := a) (b := b) (by omega)
      have hs := div_le_self (m := 9223372036854775807) (a := a) (by omega) (by omega)
      have hp : 0 < a * b := Int.mul_pos h1 h2
      rw [if_pos (by unfold wrap64; decide), if_pos h1, if_neg (by omega), Int.tdiv_eq_ediv_of_nonneg (by omega), wrap64_in (n := 9223372036854775807 / a) (by omega) (by omega)]
      by_cases h : in64 (a * b)
      · rw [if_neg (by unfold in64 at h; generalize a * b = p at *; omega), if_neg (by omega)]
        exact fin false (by simp [h])
      · rw [if_pos (by unfold in64 at h; generalize a * b = p at *; omega)]
        exact fin true (by simp [h])

/-- quotient and rest, and how near the rest is to 0 -/
theorem tdiv_parts (a : Int) {b : Int} (hb : b ≠ 0) : Int.tdiv a b * b + Int.tmod a b = a ∧ (b > 0 → -b < Int.tmod a b ∧ Int.tmod a b < b) ∧ (b < 0 → b < Int.tmod a b ∧ Int.tmod a b < -b) := by
  refine ⟨?_, ?_, ?_⟩
  · have := Int.mul_tdiv_add_tmod a b
    rw [Int.mul_comm]; exact this
  · intro h
    have h1 := Int.tmod_lt_of_pos a h
    have h2 := Int.lt_tmod_of_pos a h
    omega
  · intro h
    have h1 := Int.tmod_lt_of_pos a (show 0 < -b by omega)
    have h2 := Int.lt_tmod_of_pos a (show 0 < -b by omega)
    rw [Int.tmod_neg] at h1 h2
    omega

theorem tdiv_one_ne (x : Int) {y : Int} (hy : 1 < y) (hx : x ≠ 0) : (Int.tdiv x y).natAbs < x.natAbs := by
  rw [Int.natAbs_tdiv]
  exact Nat.div_lt_self (by omega) (by omega)
theorem tdiv_in {a b : Int} (ha : in64 a) (hb0 : b ≠ 0) (hm : ¬ (a = -9223372036854775808 ∧ b = -1)) : in64 (Int.tdiv a b) := by
  have h1 : (Int.tdiv a b).natAbs ≤ a.natAbs := by rw [Int.natAbs_tdiv]; exact Nat.div_le_self _ _
  have h2 : b.natAbs ≠ 1 → a ≠ 0 → (Int.tdiv a b).natAbs < a.natAbs := by
    intro h h0
    rw [Int.natAbs_tdiv]; exact Nat.div_lt_self (by omega) (by omega)
  have h3 : b = 1 → Int.tdiv a b = a := by intro h; subst h; exact Int.tdiv_one a
  have h4 : b = -1 → Int.tdiv a b = -a := by intro h; subst h; rw [Int.tdiv_neg, Int.tdiv_one]
  unfold in64 at ha ⊢
  omega

theorem ref_mul_f (k : Nat) {a b : Int} (ha : in64 a) (hb : in64 b) : haruspexref04_Mul.f (k + 2) a b = some (res (a * b)) := by
  have j1 : ∀ c : Bool, a ≠ 0 → b ≠ 0 → (c = true ↔ (a = -9223372036854775808 ∧ b = -1 ∨ b = -9223372036854775808 ∧ a = -1)) → haruspexref04_Mul.j1 (k + 1) a b c = some (res (a * b)) := by
    intro c ha0 hb0 hc
    rw [haruspexref04_Mul.j1]
    by_cases h : c = true
    · rw [if_pos h, res_out]
      rcases hc.1 h with ⟨rfl, rfl⟩ | ⟨rfl, rfl⟩ <;> simp [in64]
    · rw [if_neg h, if_neg hb0]
      have hc' := fun z => h (hc.2 z)
      by_cases hp : in64 (a * b)
      · rw [wrap64_in hp.1 hp.2, Int.mul_tdiv_cancel _ hb0, wrap64_in ha.1 ha.2, if_pos rfl, res_in hp]
        by_cases c1 : a = -9223372036854775808
        · rw [if_pos c1]
          by_cases c2 : b = 1
          · rw [if_pos c2]
          · rw [if_neg c2, if_neg ha0, Int.mul_comm a b, Int.mul_tdiv_cancel _ ha0, wrap64_in hb.1 hb.2, if_pos rfl]
        · rw [if_neg c1]
      · rw [if_neg, res_out hp]
        intro he
        have hw : in64 (wrap64 (a * b)) := in_wrap _
        have hwd : ∃ q : Int, a * b = wrap64 (a * b) + q * 18446744073709551616 := by
          refine ⟨(a * b + 9223372036854775808) / 18446744073709551616, ?_⟩
          unfold wrap64; omega
        obtain ⟨q, hq⟩ := hwd
        by_cases hs : wrap64 (a * b) = -9223372036854775808 ∧ b = -1
        · rw [hs.1, hs.2] at he
          have h5 : wrap64 (Int.tdiv (-9223372036854775808) (-1)) = -9223372036854775808 := by unfold wrap64; decide
          exact hc' (Or.inl ⟨by rw [← he, h5], hs.2⟩)
        · have hin := tdiv_in hw hb0 hs
          rw [wrap64_in hin.1 hin.2] at he
          have hparts := tdiv_parts (wrap64 (a * b)) hb0
          rw [he] at hparts
          unfold in64 at hp hw hb
          generalize a * b = p at *
          generalize wrap64 p = c at *
          omega
  have j0 : ∀ c : Bool, (c = true ↔ (a = 0 ∨ b = 0)) → haruspexref04_Mul.j0 (k + 2) a b c = some (res (a * b)) := by
    intro c hc
    rw [haruspexref04_Mul.j0]
    by_cases h : c = true
    · rw [if_pos h]
      have hz : a * b = 0 := by rcases hc.1 h with rfl | rfl <;> simp
      rw [hz]; simp [res]
    · have hc' := fun z => h (hc.2 z)
      have ha0 : a ≠ 0 := fun z => hc' (Or.inl z)
      have hb0 : b ≠ 0 := fun z => hc' (Or.inr z)
      rw [if_neg h]
      by_cases c1 : a = -9223372036854775808
      · rw [if_pos c1]
        by_cases c2 : b = -1
        · rw [if_pos c2]; exact j1 true ha0 hb0 (by simp [c1, c2])
        · rw [if_neg c2]
          by_cases c3 : b = -9223372036854775808
          · rw [if_pos c3]; exact j1 _ ha0 hb0 (by subst c1 c3; simp)
          · rw [if_neg c3]; exact j1 _ ha0 hb0 (by simp [c2, c3])
      · rw [if_neg c1]
        by_cases c3 : b = -9223372036854775808
        · rw [if_pos c3]; exact j1 _ ha0 hb0 (by subst c3; simp)
        · rw [if_neg c3]; exact j1 _ ha0 hb0 (by simp [c1, c3])
  unfold haruspexref04_Mul.f
  by_cases h : a = 0
  · rw [if_pos h]; exact j0 true (by simp [h])
  · rw [if_neg h]; exact j0 _ (by simp [h])

def dig (c : Int) : Bool := decide (48 ≤ c) && decide (c ≤ 57)
theorem dig_iff {c : Int} : dig c = true ↔ 48 ≤ c ∧ c ≤ 57 := by simp [dig]
def allDig (d : List Int) : Bool := d.all dig
/-- digits read on from a number -/
def val : Int → List Int → Int
  | acc, [] => acc
  | acc, c :: t => val (acc * 10 + (c - 48)) t
theorem allDig_cons {c : Int} {t : List Int} : allDig (c :: t) = (dig c && allDig t) := rfl
theorem val_ge (d : List Int) : ∀ acc, 0 ≤ acc → allDig d = true → acc ≤ val acc d := by
  induction d with
  | nil => intro acc _ _; simp [val]
  | cons c t ih =>
    intro acc h0 h
    rw [allDig_cons, Bool.and_eq_true] at h
    have hc := dig_iff.1 h.1
    have := ih (acc * 10 + (c - 48)) (by omega) h.2
    simp only [val]; omega
/-- the number of digits, with - or not ahead: it, or ErrOver -/
def signed (m : Bool) (v : Int) : Int × Int := res (if m = true then -v else v)
theorem signed_out {m : Bool} {v : Int} (h : 9223372036854775808 < v) : signed m v = (0, 10) := by
  unfold signed
  cases m
  · rw [res_out]; unfold in64; simp; omega
  · rw [res_out]; unfold in64; simp; omega
/-- a text of digits, of a length in all -/
def okText (n : Nat) (d : List Int) : Bool := !(d == []) && !(decide (rd d 0 = 48) && decide (1 < n)) && allDig d
/-- what a text is read as -/
def parsed (s : List Int) : Int × Int :=
  if rd s 0 = 45 ∧ s ≠ [] then (if okText s.length (s.drop 1) = true then signed true (val 0 (s.drop 1)) else (0, 4))
  else (if okText s.length s = true then signed false (val 0 s) else (0, 4))

/-! ### the program's reading -/
theorem digits_l0 (x : ByteArray) (m : Bool) (y : List Int) (hy : y.length ≤ 140737488351232) (d : List Int) : ∀ (k i : Nat), y.drop i = d → i ≤ y.length → d.length < k →
    num_digits.l0 k x m y (y.length : Int) (i : Int) = some (if allDig d = true then (x, m, true) else ((⟨#[]⟩ : ByteArray), false, false)) := by
  induction d with
  | nil =>
    intro k i hd hi hk
    obtain ⟨k, rfl⟩ : ∃ n, k = n + 1 := ⟨k - 1, by omega⟩
    have : y.length ≤ i := List.drop_eq_nil_iff.1 hd
    simp only [num_digits.l0]
    rw [if_neg (by omega)]; rfl
  | cons c t ih =>
    intro k i hd hi hk
    obtain ⟨k, rfl⟩ : ∃ n, k = n + 1 := ⟨k - 1, by omega⟩
    have hil : i < y.length := by
      rcases Nat.lt_or_ge i y.length with h | h
      · exact h
      · rw [List.drop_eq_nil_of_le h] at hd; cases hd
    rw [drop_rd hil] at hd
    injection hd with h1 h2
    simp only [num_digits.l0]
    rw [if_pos (by omega), if_pos (by omega), if_pos (by omega), h1, wrap64_in (n := (i : Int) + 1) (by omega) (by omega), allDig_cons]
    by_cases c1 : c < 48
    · rw [if_pos c1, if_neg (by simp [dig]; omega)]
    · rw [if_neg c1]
      by_cases c2 : c > 57
      · rw [if_pos c2, if_neg (by simp [dig]; omega)]
      · rw [if_neg c2, show ((i : Int) + 1) = ((i + 1 : Nat) : Int) from by omega, ih k (i + 1) h2 (by omega) (by simp at hk; omega)]
        have : dig c = true := dig_iff.2 ⟨by omega, by omega⟩
        rw [this, Bool.true_and]
theorem digits_f (k : Nat) (s : ByteArray) (hs : s.size ≤ 140737488351232) (hk : s.size + 10 < k) : num_digits.f k s =
    some (if rd (bytesOf s) 0 = 45 ∧ bytesOf s ≠ [] then (if okText s.size ((bytesOf s).drop 1) = true then (s.extract 1 s.size, true, true) else ((⟨#[]⟩ : ByteArray), false, false))
      else (if okText s.size (bytesOf s) = true then (s, false, true) else ((⟨#[]⟩ : ByteArray), false, false))) := by
  have hsz := size_len s
  have j2 : ∀ (k : Nat) (x : ByteArray) (m b : Bool), x.size ≤ s.size → s.size + 7 < k → num_digits.j2 k x m b = some (if b = true then ((⟨#[]⟩ : ByteArray), false, false) else (if allDig (bytesOf x) = true then (x, m, true) else ((⟨#[]⟩ : ByteArray), false, false))) := by
    intro k x m b hx hk
    obtain ⟨k, rfl⟩ : ∃ n, k = n + 1 := ⟨k - 1, by omega⟩
    rw [num_digits.j2]
    by_cases h : b = true
    · rw [if_pos h, if_pos h]
    · have hxl := size_len x
      rw [if_neg h, if_neg h, if_pos (by omega), Option.bind_some]
      exact digits_l0 x m (bytesOf x) (by omega) (bytesOf x) k 0 rfl (by omega) (by omega)
  have j1 : ∀ (k : Nat) (x : ByteArray) (m : Bool), x.size ≤ s.size → s.size + 8 < k → num_digits.j1 k s x m = some (if okText s.size (bytesOf x) = true then (x, m, true) else ((⟨#[]⟩ : ByteArray), false, false)) := by
    intro k x m hx hk
    obtain ⟨k, rfl⟩ : ∃ n, k = n + 1 := ⟨k - 1, by omega⟩
    rw [num_digits.j1]
    unfold okText
    by_cases h : x.toList = []
    · have h' := toList_nil.1 h
      rw [if_pos h, j2 k x m true hx (by omega), h']; simp
    · have h' : bytesOf x ≠ [] := fun z => h (toList_nil.2 z)
      have hxl := size_len x
      have h0 : 0 < (bytesOf x).length := List.length_pos_iff.2 h'
      have hb : (bytesOf x == []) = false := by simpa using h'
      rw [if_neg h, if_pos (by omega), bt_rd, hb]
      by_cases c : rd (bytesOf x) 0 = 48
      · rw [if_pos c, j2 k x m _ hx (by omega)]
        by_cases c2 : (s.size : Int) > 1
        · have : 1 < s.size := by omega
          rw [if_pos (decide_eq_true c2), if_neg (by simp [c, this])]
        · have : ¬ 1 < s.size := by omega
          rw [if_neg (by simp; omega)]
          simp [c, this]
      · rw [if_neg c, j2 k x m false hx (by omega)]; simp [c]
  obtain ⟨k, rfl⟩ : ∃ n, k = n + 1 := ⟨k - 1, by omega⟩
  have hext : bytesOf (s.extract 1 s.size) = (bytesOf s).drop 1 := by rw [bytesOf_extract, List.take_of_length_le (by omega)]
  have hexl : (s.extract 1 s.size).size ≤ s.size := by rw [size_len (s.extract 1 s.size), hext, List.length_drop]; omega
  unfold num_digits.f
  by_cases h0 : (s.size : Int) > 0
  · have hne : bytesOf s ≠ [] := fun z => by rw [z, List.length_nil] at hsz; omega
    rw [if_pos h0, if_pos (by omega), num_digits.j0, bt_rd]
    by_cases c : rd (bytesOf s) 0 = 45
    · rw [if_pos (by simp [c]), if_pos (by omega), if_pos ⟨c, hne⟩, j1 k _ true hexl (by omega), hext]
    · rw [if_neg (by simp [c]), if_neg (fun z => c z.1), j1 k s false (by omega) (by omega)]
  · have hne : bytesOf s = [] := List.eq_nil_of_length_eq_zero (by omega)
    rw [if_neg h0, num_digits.j0, if_neg (by simp), if_neg (fun z => z.2 hne), j1 k s false (by omega) (by omega)]

theorem parse_l0 (m : Bool) (y : List Int) (hy : y.length ≤ 140737488351232) (d : List Int) : ∀ (k i : Nat) (n : Int), y.drop i = d → i ≤ y.length → d.length < k → allDig d = true → n ≤ 0 → in64 n →
    num_Parse.l0 k m n y (y.length : Int) (i : Int) = some (signed m (val (-n) d)) := by
  induction d with
  | nil =>
    intro k i n hd hi hk _ h0 hn
    obtain ⟨k, rfl⟩ : ∃ n, k = n + 1 := ⟨k - 1, by omega⟩
    have : y.length ≤ i := List.drop_eq_nil_iff.1 hd
    simp only [num_Parse.l0, val]
    unfold signed
    rw [if_neg (by omega)]
    cases m
    · rw [neg_f hn]; simp
    · rw [if_pos rfl, if_pos rfl, Int.neg_neg, res_in hn]
  | cons c t ih =>
    intro k i n hd hi hk hall h0 hn
    obtain ⟨k, rfl⟩ : ∃ n, k = n + 1 := ⟨k - 1, by omega⟩
    obtain ⟨k, rfl⟩ : ∃ n, k = n + 1 := ⟨k - 1, by simp at hk; omega⟩
    have hil : i < y.length := by
      rcases Nat.lt_or_ge i y.length with h | h
      · exact h
      · rw [List.drop_eq_nil_of_le h] at hd; cases hd
    rw [drop_rd hil] at hd
    injection hd with h1 h2
    rw [allDig_cons, Bool.and_eq_true] at hall
    have hc := dig_iff.1 hall.1
    rw [num_Parse.l0, if_pos (by omega), if_pos (by omega), if_pos (by omega), h1, wrap64_in (n := (i : Int) + 1) (by omega) (by omega), mul_f k hn (by decide), Option.bind_some, show (c - 48) % 256 = c - 48 from by omega]
    simp only [val]
    have hge := val_ge t (-n * 10 + (c - 48)) (by omega) hall.2
    by_cases hin : in64 (n * 10)
    · rw [res_in hin, if_pos rfl]
      have hc64 : in64 (c - 48) := by unfold in64; omega
      rw [sub_f hin hc64, Option.bind_some]
      by_cases hin2 : in64 (n * 10 - (c - 48))
      · rw [res_in hin2, if_pos rfl, show ((i : Int) + 1) = ((i + 1 : Nat) : Int) from by omega, ih (k + 1) (i + 1) _ h2 (by omega) (by simp at hk ⊢; omega) hall.2 (by omega) hin2]
        rw [show -(n * 10 - (c - 48)) = -n * 10 + (c - 48) from by omega]
      · rw [res_out hin2, if_neg (by simp), signed_out]
        unfold in64 at hin2; omega
    · rw [res_out hin, if_neg (by simp), signed_out]
      unfold in64 at hin; omega
theorem parse_f (k : Nat) (s : ByteArray) (hs : s.size ≤ 140737488351232) (hk : s.size + 10 < k) : num_Parse.f k s = some (parsed (bytesOf s)) := by
  have hsz := size_len s
  unfold num_Parse.f parsed
  rw [digits_f k s hs hk, Option.bind_some, ← hsz]
  have hext : bytesOf (s.extract 1 s.size) = (bytesOf s).drop 1 := by rw [bytesOf_extract, List.take_of_length_le (by omega)]
  by_cases c : rd (bytesOf s) 0 = 45 ∧ bytesOf s ≠ []
  · rw [if_pos c, if_pos c]
    by_cases h : okText s.size ((bytesOf s).drop 1) = true
    · have hd : allDig ((bytesOf s).drop 1) = true := by unfold okText at h; simp only [Bool.and_eq_true] at h; exact h.2
      rw [if_pos h, if_pos h]
      dsimp only
      rw [if_pos rfl, if_pos (by rw [size_len (s.extract 1 s.size), hext, List.length_drop]; omega), Option.bind_some, hext]
      have := parse_l0 true ((bytesOf s).drop 1) (by rw [List.length_drop]; omega) _ k 0 0 rfl (by omega) (by simp; omega) hd (by omega) (by decide)
      simpa using this
    · rw [if_neg h, if_neg h, if_neg (by simp)]
  · rw [if_neg c, if_neg c]
    by_cases h : okText s.size (bytesOf s) = true
    · have hd : allDig (bytesOf s) = true := by unfold okText at h; simp only [Bool.and_eq_true] at h; exact h.2
      rw [if_pos h, if_pos h]
      dsimp only
      rw [if_pos rfl, if_pos (by omega), Option.bind_some]
      have := parse_l0 false (bytesOf s) (by omega) _ k 0 0 rfl (by omega) (by simp; omega) hd (by omega) (by decide)
      simpa using this
    · rw [if_neg h, if_neg h, if_neg (by simp)]

/-! ### digits of a number -/

theorem in64_fst (n : Int) : in64 (res n).1 := by
  unfold res
  split
  · rename_i h; exact h
  · decide
/-- the document's loop: what it comes to, from a number (not above 0) on, or once it is beyond -/
theorem ref_l0 (s x : ByteArray) (m : Bool) (hm : x.toList = s.toList ↔ m = false) (hx : x.size ≤ 140737488351232) (d : List Int) : ∀ (k i : Nat) (n : Int) (over : Bool), (bytesOf x).drop i = d → i ≤ x.size → 2 * d.length + 5 < k → in64 n → (over = false → n ≤ 0) →
    haruspexref04_Parse.l0 k s x n over (i : Int) = some (if allDig d = true then (if over = true then (0, 10) else signed m (val (-n) d)) else (0, 4)) := by
  have hxl := size_len x
  induction d with
  | nil =>
    intro k i n over hd hi hk hn h0
    obtain ⟨k, rfl⟩ : ∃ n, k = n + 1 := ⟨k - 1, by omega⟩
    have : (bytesOf x).length ≤ i := List.drop_eq_nil_iff.1 hd
    simp only [haruspexref04_Parse.l0, val]
    unfold signed
    rw [if_neg (by omega), if_pos (show allDig [] = true from rfl)]
    cases m
    · rw [if_pos (hm.2 rfl), ref_neg_f hn, Option.bind_some]
      cases over
      · show (if (res (-n)).2 = 0 then some ((res (-n)).1, 0) else some (0, 10)) = some (res (-n))
        by_cases hin : in64 (-n)
        · rw [res_in hin, if_pos rfl]
        · rw [res_out hin, if_neg (by simp)]
      · rfl
    · rw [if_neg (fun z => by have := hm.1 z; simp at this)]
      cases over
      · rw [if_neg (by simp), if_neg (by simp), if_pos rfl, Int.neg_neg, res_in hn]
      · simp
  | cons c t ih =>
    intro k i n over hd hi hk hn h0
    obtain ⟨k, rfl⟩ : ∃ n, k = n + 1 := ⟨k - 1, by omega⟩
    obtain ⟨k, rfl⟩ : ∃ n, k = n + 1 := ⟨k - 1, by simp at hk; omega⟩
    obtain ⟨k, rfl⟩ : ∃ n, k = n + 1 := ⟨k - 1, by simp at hk; omega⟩
    obtain ⟨k, rfl⟩ : ∃ n, k = n + 1 := ⟨k - 1, by simp at hk; omega⟩
    have hil : i < (bytesOf x).length := by
      rcases Nat.lt_or_ge i (bytesOf x).length with h | h
      · exact h
      · rw [List.drop_eq_nil_of_le h] at hd; cases hd
    rw [drop_rd hil] at hd
    injection hd with h1 h2
    have step : ∀ b : Bool, b = !dig c → haruspexref04_Parse.j4 (k + 1 + 1 + 1) s x n over (i : Int) b = some (if allDig (c :: t) = true then (if over = true then (0, 10) else signed m (val (-n) (c :: t))) else (0, 4)) := by
      intro b hb
      subst hb
      rw [haruspexref04_Parse.j4, allDig_cons]
      by_cases hd1 : dig c = true
      · have hc := dig_iff.1 hd1
        rw [if_neg (by simp [hd1]), hd1, Bool.true_and, ref_mul_f k hn (by decide), Option.bind_some, if_pos (by omega), if_pos (by omega), bt_rd, h1, show (c - 48) % 256 = c - 48 from by omega]
        have hc64 : in64 (c - 48) := by unfold in64; omega
        rw [ref_sub_f (in64_fst _) hc64, Option.bind_some, wrap64_in (n := (i : Int) + 1) (by omega) (by omega), show ((i : Int) + 1) = ((i + 1 : Nat) : Int) from by omega]
        have hk' : 2 * t.length + 5 < k + 2 := by simp at hk; omega
        cases over
        · have hn0 := h0 rfl
          rw [if_neg (by simp), if_neg (show ¬ (false = true) by simp)]
          by_cases hin : in64 (n * 10)
          · rw [res_in hin, if_pos rfl]
            dsimp only
            by_cases hin2 : in64 (n * 10 - (c - 48))
            · rw [res_in hin2, ih (k + 2) (i + 1) _ _ h2 (by omega) hk' hin2 (fun _ => by omega)]
              simp only [val]
              rw [show -(n * 10 - (c - 48)) = -n * 10 + (c - 48) from by omega]
              rfl
            · rw [res_out hin2, ih (k + 2) (i + 1) _ _ h2 (by omega) hk' (by decide) (fun _ => by decide)]
              by_cases ht : allDig t = true
              · have hge := val_ge t (-n * 10 + (c - 48)) (by omega) ht
                rw [if_pos ht, if_pos (by decide), if_pos ht]
                simp only [val]
                rw [signed_out]
                unfold in64 at hin2; omega
              · rw [if_neg ht, if_neg ht]
          · rw [res_out hin, if_neg (by simp), ih (k + 2) (i + 1) _ _ h2 (by omega) hk' (in64_fst _) (fun z => by simp at z)]
            by_cases ht : allDig t = true
            · have hge := val_ge t (-n * 10 + (c - 48)) (by omega) ht
              rw [if_pos ht, if_pos rfl, if_pos ht]
              simp only [val]
              rw [signed_out]
              unfold in64 at hin; omega
            · rw [if_neg ht, if_neg ht]
        · rw [if_pos rfl, ih (k + 2) (i + 1) _ _ h2 (by omega) hk' (in64_fst _) (fun z => by simp at z)]
          rfl
      · have hd2 : dig c = false := by simpa using hd1
        rw [hd2, if_pos (by simp), Bool.false_and, if_neg (by simp)]
    rw [haruspexref04_Parse.l0, if_pos (by omega), if_pos (by omega), bt_rd, h1]
    by_cases c1 : c < 48
    · rw [if_pos c1]; exact step true (by simp [dig]; omega)
    · rw [if_neg c1]
      refine step _ ?_
      by_cases c2 : c > 57
      · have h3 : dig c = false := by simp [dig]; omega
        rw [decide_eq_true c2, h3]; rfl
      · have h3 : dig c = true := dig_iff.2 ⟨by omega, by omega⟩
        rw [decide_eq_false c2, h3]; rfl
theorem ref_parse_f (k : Nat) (s : ByteArray) (hs : s.size ≤ 140737488351232) (hk : 2 * s.size + 20 < k) : haruspexref04_Parse.f k s = some (parsed (bytesOf s)) := by
  have hsz := size_len s
  have hext : bytesOf (s.extract 1 s.size) = (bytesOf s).drop 1 := by rw [bytesOf_extract, List.take_of_length_le (by omega)]
  have j2 : ∀ (k : Nat) (x : ByteArray) (m b : Bool), (x.toList = s.toList ↔ m = false) → x.size ≤ s.size → 2 * s.size + 10 < k → haruspexref04_Parse.j2 k s x b = some (if b = true then (0, 4) else (if allDig (bytesOf x) = true then signed m (val 0 (bytesOf x)) else (0, 4))) := by
    intro k x m b hm hx hk
    obtain ⟨k, rfl⟩ : ∃ n, k = n + 1 := ⟨k - 1, by omega⟩
    rw [haruspexref04_Parse.j2]
    by_cases h : b = true
    · rw [if_pos h, if_pos h]
    · have hxl := size_len x
      rw [if_neg h, if_neg h]
      have := ref_l0 s x m hm (by omega) (bytesOf x) k 0 0 false rfl (by omega) (by omega) (by decide) (fun _ => by omega)
      simpa using this
  have j1 : ∀ (k : Nat) (x : ByteArray) (m : Bool), (x.toList = s.toList ↔ m = false) → x.size ≤ s.size → 2 * s.size + 12 < k → haruspexref04_Parse.j1 k s x = some (if okText s.size (bytesOf x) = true then signed m (val 0 (bytesOf x)) else (0, 4)) := by
    intro k x m hm hx hk
    obtain ⟨k, rfl⟩ : ∃ n, k = n + 1 := ⟨k - 1, by omega⟩
    rw [haruspexref04_Parse.j1]
    unfold okText
    by_cases h : x.toList = []
    · have h' := toList_nil.1 h
      rw [if_pos h, j2 k x m true hm hx (by omega), h']; simp
    · have h' : bytesOf x ≠ [] := fun z => h (toList_nil.2 z)
      have hxl := size_len x
      have h0 : 0 < (bytesOf x).length := List.length_pos_iff.2 h'
      have hb : (bytesOf x == []) = false := by simpa using h'
      rw [if_neg h, if_pos (by omega), bt_rd, hb]
      by_cases c : rd (bytesOf x) 0 = 48
      · rw [if_pos c, j2 k x m _ hm hx (by omega)]
        by_cases c2 : (s.size : Int) > 1
        · have : 1 < s.size := by omega
          rw [if_pos (decide_eq_true c2), if_neg (by simp [c, this])]
        · have : ¬ 1 < s.size := by omega
          rw [if_neg (by simp; omega)]
          simp [c, this]
      · rw [if_neg c, j2 k x m false hm hx (by omega)]; simp [c]
  have j0 : ∀ (k : Nat) (b : Bool), (b = true ↔ (rd (bytesOf s) 0 = 45 ∧ bytesOf s ≠ [])) → 2 * s.size + 15 < k → haruspexref04_Parse.j0 k s s b = some (parsed (bytesOf s)) := by
    intro k b hb hk
    obtain ⟨k, rfl⟩ : ∃ n, k = n + 1 := ⟨k - 1, by omega⟩
    rw [haruspexref04_Parse.j0]
    unfold parsed
    rw [← hsz]
    by_cases h : b = true
    · have h' := hb.1 h
      have h0 : 0 < (bytesOf s).length := List.length_pos_iff.2 h'.2
      have hexl : (s.extract 1 s.size).size = s.size - 1 := by rw [size_len (s.extract 1 s.size), hext, List.length_drop]; omega
      rw [if_pos h, if_pos h', if_pos (by omega), j1 k _ true ?_ (by omega) (by omega), hext]
      rw [toList_eq, hext]
      constructor
      · intro z
        have := congrArg List.length z
        rw [List.length_drop] at this; omega
      · intro z; cases z
    · rw [if_neg h, if_neg (fun z => h (hb.2 z)), j1 k s false (by simp) (by omega) (by omega)]
  unfold haruspexref04_Parse.f
  by_cases h : s.toList = []
  · have h' := toList_nil.1 h
    rw [if_pos h, j0 k false (by simp [h']) (by omega)]
  · have h' : bytesOf s ≠ [] := fun z => h (toList_nil.2 z)
    have h0 : 0 < (bytesOf s).length := List.length_pos_iff.2 h'
    rw [if_neg h, if_pos (by omega), j0 k _ (by rw [bt_rd]; simp [h']) (by omega)]

end Go.Proofs.Ytkbngfelegcplaa.PureNum
