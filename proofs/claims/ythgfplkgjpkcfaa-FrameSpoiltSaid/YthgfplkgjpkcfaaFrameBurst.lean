/- A burst is found: the sum's register, as whole numbers and bits: turned bits within 32 side by side leave no register 0. No program in sight. -/
import Derived.Test.YthgfplkgjpkcfaaFrameWrap
set_option linter.unusedVariables false
namespace Go.Proofs.Ythgfplkgjpkcfaa.Burst

def poly : Nat := 3988292384
/-- one step of the register, the bit being laid onto it already -/
def T (x : Nat) : Nat := x / 2 ^^^ (if x % 2 = 1 then poly else 0)
def step (s b : Nat) : Nat := T (s ^^^ b)
def run (s : Nat) (l : List Nat) : Nat := l.foldl step s
def isBits (l : List Nat) : Prop := ∀ b ∈ l, b < 2
theorem T_lt {x : Nat} (h : x < 2 ^ 32) : T x < 2 ^ 32 := by
  unfold T
  refine Nat.xor_lt_two_pow (by omega) ?_
  split
  · decide
  · decide
theorem T_even {x : Nat} (h : x % 2 = 0) : T x = x / 2 := by
  unfold T
  rw [if_neg (by omega), Nat.xor_zero]
theorem T_odd {x : Nat} (h : x % 2 = 1) (hx : x < 2 ^ 32) : 2 ^ 31 ≤ T x := by
  have hb : (T x).testBit 31 = true := by
    unfold T
    rw [if_pos h, Nat.testBit_xor, Nat.testBit_lt_two_pow (show x / 2 < 2 ^ 31 by omega)]
    decide
  exact Nat.ge_two_pow_of_testBit hb
theorem xor_half (a b : Nat) : (a ^^^ b) / 2 = a / 2 ^^^ b / 2 := by
  refine Nat.eq_of_testBit_eq fun i => ?_
  simp [Nat.testBit_div_two, Nat.testBit_xor]
theorem xor_odd (a b : Nat) : (a ^^^ b) % 2 = (a % 2 + b % 2) % 2 := by
  have h := Nat.testBit_xor a b 0
  simp only [Nat.testBit_zero] at h
  have ha : a % 2 = 0 ∨ a % 2 = 1 := by omega
  have hb : b % 2 = 0 ∨ b % 2 = 1 := by omega
  have hc : (a ^^^ b) % 2 = 0 ∨ (a ^^^ b) % 2 = 1 := by omega
  rcases ha with ha | ha <;> rcases hb with hb | hb <;> rcases hc with hc | hc <;> simp [ha, hb, hc] at h ⊢
theorem xlc (a b c : Nat) : a ^^^ (b ^^^ c) = b ^^^ (a ^^^ c) := by rw [← Nat.xor_assoc, Nat.xor_comm a b, Nat.xor_assoc]
theorem xss (a b : Nat) : a ^^^ (a ^^^ b) = b := by rw [← Nat.xor_assoc, Nat.xor_self, Nat.zero_xor]
theorem T_xor (a b : Nat) : T (a ^^^ b) = T a ^^^ T b := by
  unfold T
  rw [xor_half, xor_odd]
  have ha : a % 2 = 0 ∨ a % 2 = 1 := by omega
  have hb : b % 2 = 0 ∨ b % 2 = 1 := by omega
  rcases ha with ha | ha <;> rcases hb with hb | hb
  · simp [ha, hb]
  · simp [ha, hb, Nat.xor_assoc]
  · simp [ha, hb, Nat.xor_assoc, Nat.xor_comm (b / 2) poly]
  · rw [ha, hb]
    simp only [Nat.reduceAdd, Nat.reduceMod, if_true]
    rw [if_neg (by decide), Nat.xor_zero, Nat.xor_assoc, xlc poly (b / 2) poly, Nat.xor_self, Nat.xor_zero]
theorem step_lt {s b : Nat} (h : s < 2 ^ 32) (hb : b < 2) : step s b < 2 ^ 32 := T_lt (Nat.xor_lt_two_pow h (by omega))
theorem run_lt (l : List Nat) : ∀ s, s < 2 ^ 32 → isBits l → run s l < 2 ^ 32 := by
  induction l with
  | nil => intro s h _; exact h
  | cons b t ih => intro s h hl; exact ih _ (step_lt h (hl b (by simp))) (fun x hx => hl x (by simp [hx]))
theorem run_app (s : Nat) (a b : List Nat) : run s (a ++ b) = run (run s a) b := by unfold run; rw [List.foldl_append]
theorem back (t : List Nat) : ∀ (s j : Nat), s < 2 ^ 32 → isBits t → j + t.length ≤ 31 → run s t < 2 ^ j → s < 2 ^ (j + t.length) := by
  induction t with
  | nil => intro s j _ _ _ h; simpa [run] using h
  | cons b t ih =>
    intro s j hs hl hj h
    have hb := hl b (by simp)
    have hx : s ^^^ b < 2 ^ 32 := Nat.xor_lt_two_pow hs (by omega)
    have h1 : step s b < 2 ^ (j + t.length) := ih (step s b) j (step_lt hs hb) (fun x hx => hl x (by simp [hx])) (by simp at hj; omega) h
    have hle : 2 ^ (j + t.length) ≤ 2 ^ 30 := Nat.pow_le_pow_right (by omega) (by simp at hj; omega)
    have he : (s ^^^ b) % 2 = 0 := by
      rcases Nat.mod_two_eq_zero_or_one (s ^^^ b) with h2 | h2
      · exact h2
      · have := T_odd h2 hx
        unfold step at h1
        omega
    have h2 : (s ^^^ b) / 2 < 2 ^ (j + t.length) := by rw [← T_even he]; exact h1
    have h3 : s / 2 < 2 ^ (j + t.length) := by
      rw [xor_half, show b / 2 = 0 from by omega, Nat.xor_zero] at h2
      exact h2
    rw [List.length_cons, ← Nat.add_assoc, Nat.pow_succ]
    omega
theorem zeros (n : Nat) : ∀ s, s < 2 ^ 32 → run s (List.replicate n 0) = 0 → s = 0 := by
  induction n with
  | zero => intro s _ h; exact h
  | succ n ih =>
    intro s hs h
    rw [List.replicate_succ] at h
    have h1 : step s 0 = 0 := ih (step s 0) (step_lt hs (by omega)) h
    unfold step at h1
    rw [Nat.xor_zero] at h1
    rcases Nat.mod_two_eq_zero_or_one s with h2 | h2
    · rw [T_even h2] at h1; omega
    · have := T_odd h2 hs; omega
theorem zeros_run (n : Nat) : run 0 (List.replicate n 0) = 0 := by
  induction n with
  | zero => rfl
  | succ n ih => rw [List.replicate_succ]; exact ih
/-- THE BURST -/
theorem burst (a c : Nat) (t : List Nat) (ht : isBits t) (hl : t.length ≤ 31) : run 0 (List.replicate a 0 ++ (1 :: t) ++ List.replicate c 0) ≠ 0 := by
  intro h
  rw [run_app, run_app, zeros_run] at h
  have hp : run 0 (1 :: t) = run poly t := rfl
  rw [hp] at h
  have h0 := zeros c _ (run_lt t poly (by decide) ht) h
  have := back t poly 0 (by decide) ht (by omega) (by rw [h0]; decide)
  have hle : 2 ^ (0 + t.length) ≤ 2 ^ 31 := Nat.pow_le_pow_right (by omega) (by omega)
  have hpp : 2 ^ 31 ≤ poly := by decide
  omega
/-- the turned bits alone -/
theorem turned (a : List Nat) : ∀ (b : List Nat) (s r : Nat), a.length = b.length → run s a ^^^ run r b = run (s ^^^ r) (List.zipWith (· ^^^ ·) a b) := by
  induction a with
  | nil => intro b s r h; cases b with
    | nil => rfl
    | cons y b => simp at h
  | cons x a ih => intro b s r h; cases b with
    | nil => simp at h
    | cons y b =>
      simp only [List.zipWith_cons_cons]
      show run (step s x) a ^^^ run (step r y) b = run (step (s ^^^ r) (x ^^^ y)) _
      rw [ih b _ _ (by simpa using h)]
      congr 1
      unfold step
      rw [← T_xor]
      congr 1
      rw [Nat.xor_assoc, Nat.xor_assoc, xlc x r y]
end Go.Proofs.Ythgfplkgjpkcfaa.Burst
