/- One bit of a row of bytes turned. -/
import Derived.Test.YthgfplkgjpkcfaaFrameOpens
set_option linter.unusedVariables false
namespace Go.Proofs.Ythgfplkgjpkcfaa.Burst
open Go.RowKit Go.Proofs.Ythgfplkgjpkcfaa.PAll Go.Proofs.YthgfplkgjpkcfaaW.PrintWords Go.Proofs.Ythgfplkgjpkcfaa.Pure

theorem natBits_len (l : List Int) : (natBits l).length = 8 * l.length := by
  unfold natBits
  induction l with
  | nil => rfl
  | cons c t ih => rw [List.flatMap_cons, List.length_append, ih, bitsOf_len, List.length_cons]; omega
/-- the bit at a place -/
def bitAt (l : List Int) (j : Nat) : Nat := (rd l ((j / 8 : Nat) : Int)).toNat / 2 ^ (j % 8) % 2
theorem natBits_get (l : List Int) : ∀ j : Nat, j < 8 * l.length → (natBits l)[j]? = some (bitAt l j) := by
  induction l with
  | nil => intro j h; simp at h
  | cons c t ih =>
    intro j h
    have hb : natBits (c :: t) = bitsOf 8 c.toNat ++ natBits t := rfl
    rw [hb]
    have hl := bitsOf_len 8 c.toNat
    rcases Nat.lt_or_ge j 8 with h8 | h8
    · rw [List.getElem?_append_left (by omega), bitsOf_range, List.getElem?_map, List.getElem?_range h8]
      unfold bitAt
      rw [Nat.div_eq_of_lt h8, Nat.mod_eq_of_lt h8]
      rfl
    · rw [List.getElem?_append_right (by omega), hl, ih (j - 8) (by simp at h; omega)]
      unfold bitAt
      rw [show (j - 8) % 8 = j % 8 from by omega, show j / 8 = (j - 8) / 8 + 1 from by omega]
      congr 3
theorem bx8 (a b : Nat) (ha : a < 2 ^ 8) (hb : b < 2 ^ 8) : Go.bits .xor .u8 (a : Int) (b : Int) = ((a ^^^ b : Nat) : Int) := by
  have hw : ∀ n : Int, IntKind.u8.wrap n = n % 256 := fun n => by simp [IntKind.wrap, IntKind.bits, IntKind.signed]
  simp only [Go.bits]
  show IntKind.u8.wrap (((BitVec.ofInt 8 (a : Int)) ^^^ (BitVec.ofInt 8 (b : Int))).toNat : Int) = _
  rw [BitVec.toNat_xor, BitVec.ofInt_natCast, BitVec.ofInt_natCast, BitVec.toNat_ofNat, BitVec.toNat_ofNat, Nat.mod_eq_of_lt ha, Nat.mod_eq_of_lt hb, hw]
  have := Nat.xor_lt_two_pow ha hb
  omega
theorem shl_one (m : Nat) (h : m < 8) : shl .u8 1 (m : Int) = ((2 ^ m : Nat) : Int) := by
  have : m = 0 ∨ m = 1 ∨ m = 2 ∨ m = 3 ∨ m = 4 ∨ m = 5 ∨ m = 6 ∨ m = 7 := by omega
  rcases this with rfl | rfl | rfl | rfl | rfl | rfl | rfl | rfl <;> decide
def turn1 (y : List Int) (q m : Nat) : List Int := y.set q (Go.bits .xor .u8 (rd y (q : Int)) (shl .u8 1 (m : Int)))
theorem turn_val {y : List Int} (hy : bytes8 y) {q m : Nat} (hq : q < y.length) (hm : m < 8) : Go.bits .xor .u8 (rd y (q : Int)) (shl .u8 1 (m : Int)) = (((rd y (q : Int)).toNat ^^^ 2 ^ m : Nat) : Int) := by
  have hc := rd_bytes hy q hq
  have h2 : 2 ^ m < 2 ^ 8 := Nat.pow_lt_pow_right (by omega) hm
  rw [shl_one m hm]
  have := bx8 (rd y (q : Int)).toNat (2 ^ m) (by omega) h2
  rwa [show (((rd y (q : Int)).toNat : Nat) : Int) = rd y (q : Int) from by omega] at this
theorem turn_bytes {y : List Int} (hy : bytes8 y) {q m : Nat} (hq : q < y.length) (hm : m < 8) : bytes8 (turn1 y q m) := by
  intro x hx
  unfold turn1 at hx
  rw [turn_val hy hq hm] at hx
  have hc := rd_bytes hy q hq
  have h2 : 2 ^ m < 2 ^ 8 := Nat.pow_lt_pow_right (by omega) hm
  have h3 := Nat.xor_lt_two_pow (show (rd y (q : Int)).toNat < 2 ^ 8 by omega) h2
  rcases List.mem_or_eq_of_mem_set hx with h | rfl
  · exact hy x h
  · omega
theorem turn_bit {y : List Int} (hy : bytes8 y) {q m : Nat} (hq : q < y.length) (hm : m < 8) (j : Nat) (hj : j < 8 * y.length) : bitAt (turn1 y q m) j = if j = 8 * q + m then 1 - bitAt y j else bitAt y j := by
  have key : rd (turn1 y q m) ((j / 8 : Nat) : Int) = if q = j / 8 then (((rd y (q : Int)).toNat ^^^ 2 ^ m : Nat) : Int) else rd y ((j / 8 : Nat) : Int) := by
    unfold turn1
    rw [turn_val hy hq hm]
    generalize j / 8 = r
    generalize (((rd y (q : Int)).toNat ^^^ 2 ^ m : Nat) : Int) = u
    unfold rd
    simp only [Int.toNat_natCast, List.getD_eq_getElem?_getD, List.getElem?_set]
    by_cases e : q = r
    · subst e; simp [hq]
    · simp [e]
  unfold bitAt
  rw [key]
  by_cases hb : q = j / 8
  · rw [if_pos hb, Int.toNat_natCast, ← hb]
    have h1 : ∀ x : Nat, x / 2 ^ (j % 8) % 2 = (x.testBit (j % 8)).toNat := fun x => by
      rw [Nat.testBit_eq_decide_div_mod_eq]
      rcases Nat.mod_two_eq_zero_or_one (x / 2 ^ (j % 8)) with h | h <;> simp [h]
    rw [h1, h1, Nat.testBit_xor, Nat.testBit_two_pow]
    by_cases hm2 : m = j % 8
    · rw [if_pos (by omega), decide_eq_true hm2]
      cases ((rd y (q : Int)).toNat.testBit (j % 8)) <;> rfl
    · rw [if_neg (by omega), decide_eq_false hm2]
      cases ((rd y (q : Int)).toNat.testBit (j % 8)) <;> rfl
  · rw [if_neg hb, if_neg (by omega)]
end Go.Proofs.Ythgfplkgjpkcfaa.Burst
