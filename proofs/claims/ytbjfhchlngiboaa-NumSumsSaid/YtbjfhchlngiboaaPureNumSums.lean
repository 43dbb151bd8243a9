/- NumSums: the program's sum of any numbers (up to 300, as the statement itself says) is the document's: exact, whatever is between. No condition. -/
import Derived.Test.YtbjfhchlngiboaaPAllx6
import Derived.Test.YtbjfhchlngiboaaNum
set_option linter.unusedVariables false
set_option linter.unusedSimpArgs false
namespace Go.Proofs.Ytbjfhchlngiboaa.Pure
open Go.RowKit Go.Proofs.Ytbjfhchlngiboaa.PAll Go.Proofs.YtbjfhchlngiboaaW.PrintWords Go.Proofs.YtbjfhchlngiboaaW.PrintLast

def total : List Int → Int
  | [] => 0
  | x :: t => x + total t
theorem total_append (xs ys : List Int) : total (xs ++ ys) = total xs + total ys := by
  induction xs with
  | nil => simp [total]
  | cons x t ih => simp only [List.cons_append, total, ih]; omega
def all64 (l : List Int) : Prop := ∀ x ∈ l, in64 x

theorem drop_rd {xs : List Int} {k : Nat} (h : k < xs.length) : xs.drop k = rd xs (k : Int) :: xs.drop (k + 1) := by
  rw [List.drop_eq_getElem_cons h]
  congr 1
  unfold rd
  rw [Int.toNat_natCast, List.getD_eq_getElem?_getD, List.getElem?_eq_getElem h]
  rfl
theorem rd_mem {xs : List Int} {k : Nat} (h : k < xs.length) : rd xs (k : Int) ∈ xs := by
  unfold rd
  rw [Int.toNat_natCast, List.getD_eq_getElem?_getD, List.getElem?_eq_getElem h]
  exact List.getElem_mem h

/-! ### the program's sum: a number of 128 bits -/
theorem sum_l0 (l : List Int) (hl : l.length ≤ 300) (h64 : all64 l) (d : Nat) : ∀ (k i : Nat) (hi lo : Int), i + d = l.length → d < k → 0 ≤ lo → lo < 18446744073709551616 → -1000 ≤ hi - i → hi + i ≤ 1000 →
    -2 * (i : Int) ≤ hi → hi ≤ 2 * i →
    num_Sum.l0 k l (l.length : Int) (i : Int) hi lo = some (res (hi * 18446744073709551616 + lo + total (l.drop i))) := by
  induction d with
  | zero =>
    intro k i hi lo hid hk h0 h1 _ _ h2 h3
    obtain ⟨k, rfl⟩ : ∃ m, k = m + 1 := ⟨k - 1, by omega⟩
    simp only [num_Sum.l0]
    rw [if_neg (by omega), List.drop_eq_nil_of_le (by omega)]
    unfold num_wide_narrow.f res total
    have hw : wrap64 lo = lo ∨ wrap64 lo = lo - 18446744073709551616 := by unfold wrap64; omega
    have hi' := in_wrap lo
    unfold in64 at hi'
    generalize wrap64 lo = z at *
    by_cases c : hi = z / 9223372036854775808
    · rw [if_pos c, if_pos (by omega)]
      simp only [Option.bind_some]
      congr 2; omega
    · rw [if_neg c, if_neg (by omega)]
      rfl
  | succ d ih =>
    intro k i hi lo hid hk h0 h1 h4 h5 h2 h3
    obtain ⟨k, rfl⟩ : ∃ m, k = m + 1 := ⟨k - 1, by omega⟩
    have hx := h64 _ (rd_mem (xs := l) (k := i) (by omega))
    unfold in64 at hx
    simp only [num_Sum.l0]
    rw [if_pos (by omega), if_pos (by omega), if_pos (by omega), drop_rd (show i < l.length by omega), wrap64_in (n := (i : Int) + 1) (by omega) (by omega)]
    generalize rd l (i : Int) = x at *
    unfold num_wide_add.f
    simp only [wrap_u64]
    have step : ∀ hi' lo' : Int, 0 ≤ lo' → lo' < 18446744073709551616 → hi' * 18446744073709551616 + lo' = hi * 18446744073709551616 + lo + x → hi - 1 ≤ hi' → hi' ≤ hi + 1 → ((some (hi', lo') : Option (Int × Int)).bind fun bt => (num_Sum.l0 k l (l.length : Int) ((i : Int) + 1) bt.1 bt.2)) = some (res (hi * 18446744073709551616 + lo + total (x :: l.drop (i + 1)))) := by
      intro hi' lo' g0 g1 g2 g3 g4
      rw [Option.bind_some]
      have := ih k (i + 1) hi' lo' (by omega) (by omega) g0 g1 (by omega) (by omega) (by omega) (by omega)
      rw [show ((i : Int) + 1) = ((i + 1 : Nat) : Int) from by omega, this, g2]
      simp only [total]
      congr 2; omega
    split
    · rw [wrap64_in (n := hi + 1) (by omega) (by omega), wrap64_in (n := hi + 1 + x / 9223372036854775808) (by omega) (by omega)]
      exact step _ _ (by omega) (by omega) (by omega) (by omega) (by omega)
    · rw [wrap64_in (n := hi + x / 9223372036854775808) (by omega) (by omega)]
      exact step _ _ (by omega) (by omega) (by omega) (by omega) (by omega)
theorem sum_f (l : List Int) (hl : l.length ≤ 300) (h64 : all64 l) (k : Nat) (hk : l.length < k) : num_Sum.f k l = some (res (total l)) := by
  unfold num_Sum.f
  have := sum_l0 l hl h64 l.length k 0 0 0 (by omega) hk (by omega) (by omega) (by omega) (by omega) (by omega) (by omega)
  rw [show (0 : Int) = ((0 : Nat) : Int) from rfl] at *
  rw [this]; simp

/-! ### the document's sum: those of the other sign first -/
def other (s x : Int) : Prop := (s > 0 ∧ x < 0) ∨ (s ≤ 0 ∧ x > 0)
instance (s x : Int) : Decidable (other s x) := by unfold other; exact inferInstance
/-- which one is taken, looked at from place i on -/
def pick (s : Int) (l : List Int) : Nat → Nat → Nat → Nat
  | 0, _, idx => idx
  | d + 1, i, idx => pick s l d (i + 1) (if other s (rd l (i : Int)) then i else idx)
theorem pick_is (s : Int) (l : List Int) (d : Nat) : ∀ i idx, i + d = l.length → idx < l.length → (other s (rd l (idx : Int)) ∨ ∀ j < i, ¬ other s (rd l (j : Int))) →
    pick s l d i idx < l.length ∧ (other s (rd l (pick s l d i idx : Int)) ∨ ∀ j < l.length, ¬ other s (rd l (j : Int))) := by
  induction d with
  | zero => intro i idx h h1 h2; simp only [pick]; exact ⟨h1, by rw [Nat.add_zero] at h; rw [← h]; exact h2⟩
  | succ d ih =>
    intro i idx h h1 h2
    simp only [pick]
    split
    · rename_i c; exact ih (i + 1) i (by omega) (by omega) (Or.inl c)
    · rename_i c
      refine ih (i + 1) idx (by omega) h1 ?_
      rcases h2 with h2 | h2
      · exact Or.inl h2
      · refine Or.inr fun j hj => ?_
        by_cases e : j = i
        · subst e; exact c
        · exact h2 j (by omega)
theorem l1_step (k : Nat) (s : Int) (l : List Int) (i idx : Nat) (hl : l.length ≤ 300) (h : i < l.length) :
    haruspexref04_Sum.l1 (k + 1) s l (idx : Int) (i : Int) = haruspexref04_Sum.l1 k s l ((if other s (rd l (i : Int)) then i else idx : Nat) : Int) ((i + 1 : Nat) : Int) := by
  rw [haruspexref04_Sum.l1, if_pos (by omega), wrap64_in (n := (i : Int) + 1) (by omega) (by omega)]
  have e : ((i : Int) + 1) = ((i + 1 : Nat) : Int) := by omega
  rw [e]
  generalize rd l (i : Int) = x
  by_cases c1 : s > 0
  · rw [if_pos c1, if_pos (by omega), if_neg (show ¬ s ≤ 0 by omega)]
    by_cases c2 : x < 0
    · rw [if_pos c2, if_pos (show other s x by unfold other; omega)]
    · rw [if_neg c2, if_neg (show ¬ other s x by unfold other; omega)]
  · rw [if_neg c1, if_pos (show s ≤ 0 by omega), if_pos (by omega)]
    by_cases c2 : x > 0
    · rw [if_pos c2, if_pos (show other s x by unfold other; omega)]
    · rw [if_neg c2, if_neg (show ¬ other s x by unfold other; omega)]
theorem l1_pick (s : Int) (l : List Int) (hl : l.length ≤ 300) (d : Nat) : ∀ (k i idx : Nat), i + d = l.length →
    haruspexref04_Sum.l1 (k + d) s l (idx : Int) (i : Int) = haruspexref04_Sum.l1 k s l (pick s l d i idx : Int) (l.length : Int) := by
  induction d with
  | zero => intro k i idx h; simp only [pick, Nat.add_zero] at h ⊢; rw [h]
  | succ d ih =>
    intro k i idx h
    rw [show k + (d + 1) = (k + d) + 1 from by omega, l1_step _ s l i idx hl (by omega), ih k (i + 1) _ (by omega)]
    simp only [pick]
theorem total_pick (l : List Int) (j : Nat) (h : j < l.length) : total (l.take j ++ l.drop (j + 1)) + rd l (j : Int) = total l := by
  have : l = l.take j ++ (rd l (j : Int) :: l.drop (j + 1)) := by rw [← drop_rd h, List.take_append_drop]
  conv => rhs; rw [this]
  rw [total_append, total_append]
  simp only [total]; omega
theorem total_sign (l : List Int) (s : Int) (h : ∀ j < l.length, ¬ other s (rd l (j : Int))) : (s > 0 → 0 ≤ total l) ∧ (s ≤ 0 → total l ≤ 0) := by
  induction l with
  | nil => simp [total]
  | cons x t ih =>
    have h0 := h 0 (by simp)
    have hx : rd (x :: t) ((0 : Nat) : Int) = x := rfl
    rw [hx] at h0
    have ht := ih (fun j hj => by have := h (j + 1) (by simp; omega); exact this)
    unfold other at h0
    simp only [total]
    omega
def bnd : Nat → Nat
  | 0 => 4
  | n + 1 => bnd n + (2 * n + 5)
theorem bnd_lt (n : Nat) : n < bnd n := by
  induction n with
  | zero => simp [bnd]
  | succ n ih => simp only [bnd]; omega
theorem ref_sum_l0 (n : Nat) : ∀ (l : List Int) (s : Int) (k : Nat), l.length = n → n ≤ 300 → all64 l → in64 s → bnd n ≤ k → haruspexref04_Sum.l0 k s l = some (res (s + total l)) := by
  induction n with
  | zero =>
    intro l s k hl _ _ hs hk
    rw [show bnd 0 = 4 from rfl] at hk
    obtain ⟨k, rfl⟩ : ∃ m, k = m + 1 := ⟨k - 1, by omega⟩
    have : l = [] := List.eq_nil_of_length_eq_zero hl
    subst this
    rw [haruspexref04_Sum.l0, if_neg (by simp), total, Int.add_zero, res_in hs]
  | succ n ih =>
    intro l s k hl hn h64 hs hk
    rw [show bnd (n + 1) = bnd n + (2 * n + 5) from rfl] at hk
    have hbn := bnd_lt n
    obtain ⟨k, rfl⟩ : ∃ m, k = m + 1 + (n + 1) + 1 := ⟨k - (n + 3), by omega⟩
    rw [haruspexref04_Sum.l0, if_pos (by omega)]
    have hp := l1_pick s l (by omega) (n + 1) (k + 1) 0 0 (by omega)
    rw [show ((0 : Int)) = ((0 : Nat) : Int) from rfl, hp]
    have hpk := pick_is s l (n + 1) 0 0 (by omega) (by omega) (Or.inr fun j hj => by omega)
    generalize hj : pick s l (n + 1) 0 0 = j at hpk ⊢
    obtain ⟨hjl, hjo⟩ := hpk
    have hx := h64 _ (rd_mem hjl)
    have htot := total_pick l j hjl
    rw [haruspexref04_Sum.l1, if_neg (by omega), if_pos (by omega), if_pos (by omega), ref_add_f hs hx, Option.bind_some]
    have hlen : (l.take j ++ l.drop (j + 1)).length = n := by simp; omega
    by_cases hin : in64 (s + rd l (j : Int))
    · rw [res_in hin]
      have e1 : ((j : Int)).toNat = j := Int.toNat_natCast j
      have e2 : ((j : Int) + 1).toNat = j + 1 := by omega
      have e3 : (([] : List Int).length + (l.take j).length) < 17592186044416 := by rw [List.length_nil, List.length_take]; omega
      have e4 : ((([] : List Int) ++ l.take j).length + (l.drop (j + 1)).length) < 17592186044416 := by rw [List.nil_append, List.length_take, List.length_drop]; omega
      rw [if_pos rfl, Option.bind_some, if_pos (show (j : Int) ≤ (l.length : Int) by omega), e1, Option.bind_some, if_pos e3, Option.bind_some, wrap64_in (n := (j : Int) + 1) (by omega) (by omega), if_pos (show (0 : Int) ≤ (j : Int) + 1 by omega), if_pos (show (j : Int) + 1 ≤ (l.length : Int) by omega), e2, Option.bind_some, if_pos e4, List.nil_append]
      rw [ih _ (s + rd l (j : Int)) k hlen (by omega) ?_ hin (by omega)]
      · congr 2; omega
      · intro x hxm
        rcases List.mem_append.1 hxm with h | h
        · exact h64 x (List.mem_of_mem_take h)
        · exact h64 x (List.mem_of_mem_drop h)
    · rw [res_out hin, if_neg (by simp), res_out]
      unfold in64 at hs hx hin ⊢
      rcases hjo with h | h
      · unfold other at h; omega
      · have h1 := h j hjl
        unfold other at h1
        have hs2 : (s > 0 → 0 ≤ total (l.take j ++ l.drop (j + 1))) ∧ (s ≤ 0 → total (l.take j ++ l.drop (j + 1)) ≤ 0) := by
          refine total_sign _ s fun i hi => ?_
          have hm := rd_mem hi
          obtain ⟨m, hm1, hm2⟩ : ∃ m < l.length, rd l (m : Int) = rd (l.take j ++ l.drop (j + 1)) (i : Int) := by
            rcases List.mem_append.1 hm with h3 | h3
            · obtain ⟨m, hm1, hm2⟩ := List.getElem_of_mem (List.mem_of_mem_take h3)
              exact ⟨m, hm1, by rw [← hm2]; unfold rd; rw [Int.toNat_natCast, List.getD_eq_getElem?_getD, List.getElem?_eq_getElem hm1]; rfl⟩
            · obtain ⟨m, hm1, hm2⟩ := List.getElem_of_mem (List.mem_of_mem_drop h3)
              exact ⟨m, hm1, by rw [← hm2]; unfold rd; rw [Int.toNat_natCast, List.getD_eq_getElem?_getD, List.getElem?_eq_getElem hm1]; rfl⟩
          rw [← hm2]; exact h m hm1
        omega
theorem ref_sum_f (l : List Int) (hl : l.length ≤ 300) (h64 : all64 l) (k : Nat) (hk : bnd l.length ≤ k) : haruspexref04_Sum.f k l = some (res (total l)) := by
  unfold haruspexref04_Sum.f
  rw [Option.bind_some, if_pos (by simp; omega), List.nil_append, ref_sum_l0 l.length l 0 k rfl hl h64 (by decide) hk, Int.zero_add]
theorem NumSums : haruspexlaw04_NumSums.Pure := by
  intro l _ _ hw
  refine ⟨bnd l.length, ?_⟩
  unfold haruspexlaw04_NumSums.f
  rw [awake_f]
  by_cases h : (l.length : Int) > 300
  · rw [if_pos h]; rfl
  · have h64 : all64 l := fun x hx => i64_bd (hw x hx)
    have hsq := bnd_lt l.length
    rw [if_neg h, sum_f l (by omega) h64 _ hsq, ref_sum_f l (by omega) h64 _ (Nat.le_refl _)]
    simp
end Go.Proofs.Ytbjfhchlngiboaa.Pure
