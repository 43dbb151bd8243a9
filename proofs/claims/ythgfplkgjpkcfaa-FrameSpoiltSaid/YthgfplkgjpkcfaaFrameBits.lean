/- The program's register and the plain one; a frame that opens leaves one register, whatever its bytes. -/
import Derived.Test.YthgfplkgjpkcfaaFrameBurst
set_option linter.unusedVariables false
namespace Go.Proofs.Ythgfplkgjpkcfaa.Burst
open Go.RowKit Go.Proofs.Ythgfplkgjpkcfaa.PAll Go.Proofs.YthgfplkgjpkcfaaW.PrintWords

theorem wrap_u32 (n : Int) : IntKind.u32.wrap n = n % 4294967296 := by simp [IntKind.wrap, IntKind.bits, IntKind.signed]
theorem bx (a b : Nat) (ha : a < 2 ^ 32) (hb : b < 2 ^ 32) : Go.bits .xor .u32 (a : Int) (b : Int) = ((a ^^^ b : Nat) : Int) := by
  simp only [Go.bits]
  show IntKind.u32.wrap (((BitVec.ofInt 32 (a : Int)) ^^^ (BitVec.ofInt 32 (b : Int))).toNat : Int) = _
  rw [BitVec.toNat_xor, BitVec.ofInt_natCast, BitVec.ofInt_natCast, BitVec.toNat_ofNat, BitVec.toNat_ofNat, Nat.mod_eq_of_lt ha, Nat.mod_eq_of_lt hb, wrap_u32]
  have := Nat.xor_lt_two_pow ha hb
  omega
theorem wraps32 (n : Int) (h₀ : 0 ≤ n) (h₁ : n < 2 ^ 32) : IntKind.u32.wrap n = n := by rw [wrap_u32]; omega
theorem band1 (a : Nat) (ha : a < 2 ^ 32) : Go.bits .and .u32 (a : Int) 1 = ((a % 2 : Nat) : Int) := by
  have h : Go.bits .and .u32 (a : Int) 1 = (a : Int) % 2 := bits_mask .u32 32 (by decide) wraps32 1 (by decide) (a : Int) (by omega) (by omega)
  rw [h]
  omega
theorem step_nat (s b : Nat) (hs : s < 2 ^ 32) (hb : b < 2) : frame_More.step (s : Int) (b : Int) = ((step s b : Nat) : Int) := by
  have e2 : (s ^^^ b) / 2 = s / 2 := by rw [xor_half, show b / 2 = 0 from by omega, Nat.xor_zero]
  have e1 : (s ^^^ b) % 2 = (s % 2 ^^^ b) := by
    have h1 := xor_odd s b
    have h2 := xor_odd (s % 2) b
    have h3 : (s % 2 ^^^ b) < 2 ^ 1 := Nat.xor_lt_two_pow (by omega) (by omega)
    omega
  unfold frame_More.step step T
  rw [band1 s hs, bx (s % 2) b (by omega) (by omega), e2, e1, show ((s : Int) / 2) = ((s / 2 : Nat) : Int) from by omega, show (3988292384 : Int) = ((poly : Nat) : Int) from rfl, bx (s / 2) poly (by omega) (by decide)]
  by_cases h : (s % 2 ^^^ b) = 1
  · rw [if_pos (by omega), if_pos h]
  · rw [if_neg (by omega), if_neg h, Nat.xor_zero]
theorem run_nat (l : List Nat) : ∀ s : Nat, s < 2 ^ 32 → isBits l → frame_More.run (s : Int) (l.map (fun b : Nat => (b : Int))) = ((run s l : Nat) : Int) := by
  induction l with
  | nil => intro s _ _; rfl
  | cons b t ih =>
    intro s hs hl
    have hb := hl b (by simp)
    show frame_More.run (frame_More.step (s : Int) (b : Int)) (t.map _) = _
    rw [step_nat s b hs hb, ih _ (step_lt hs hb) (fun x hx => hl x (by simp [hx]))]
    rfl
/-- the bits of a number, the lowest first -/
def bitsOf : Nat → Nat → List Nat
  | 0, _ => []
  | m + 1, v => (v % 2) :: bitsOf m (v / 2)
theorem bitsOf_bits (m : Nat) : ∀ v, isBits (bitsOf m v) := by
  induction m with
  | zero => intro v x hx; cases hx
  | succ m ih =>
    intro v x hx
    rcases List.mem_cons.1 hx with rfl | hx
    · omega
    · exact ih _ x hx
theorem own_bits (m : Nat) : ∀ (s v : Nat), v < 2 ^ m → run s (bitsOf m v) = run (s ^^^ v) (List.replicate m 0) := by
  induction m with
  | zero => intro s v h; have : v = 0 := by omega
            subst this; simp [bitsOf, run]
  | succ m ih =>
    intro s v h
    rw [List.replicate_succ]
    show run (step s (v % 2)) (bitsOf m (v / 2)) = run (step (s ^^^ v) 0) (List.replicate m 0)
    rw [ih _ _ (by rw [Nat.pow_succ] at h; omega)]
    congr 1
    unfold step
    rw [Nat.xor_zero, T_xor, T_xor, Nat.xor_assoc]
    congr 1
    have h0 : T (v % 2) ^^^ v / 2 = T v := by
      unfold T
      rw [show v % 2 / 2 = 0 from by omega, Nat.zero_xor, Nat.mod_mod, Nat.xor_comm]
    exact h0
end Go.Proofs.Ythgfplkgjpkcfaa.Burst
