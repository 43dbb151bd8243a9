/- NumUndone: for any two int64, a sum that fits is taken off again; quotient times divisor and rest are the number, and the rest is nearer to 0 than the divisor. No condition. -/
import Derived.Test.YtbjfhchlngiboaaPAllx4
import Derived.Test.YtbjfhchlngiboaaNum
set_option linter.unusedVariables false
set_option linter.unusedSimpArgs false
namespace Go.Proofs.Ytbjfhchlngiboaa.Pure
open Go.RowKit Go.Proofs.Ytbjfhchlngiboaa.PAll Go.Proofs.YtbjfhchlngiboaaW.PrintWords Go.Proofs.YtbjfhchlngiboaaW.PrintLast

theorem div_f {a b : Int} (ha : in64 a) (hb : in64 b) (h0 : b ≠ 0) (hm : ¬ (a = -9223372036854775808 ∧ b = -1)) : num_Div.f a b = some (Int.tdiv a b, 0) := by
  have h := tdiv_in ha h0 hm
  unfold num_Div.f
  rw [if_neg h0]
  by_cases c : a = -9223372036854775808
  · rw [if_pos c, if_neg (fun z => hm ⟨c, z⟩), wrap64_in h.1 h.2]
  · rw [if_neg c, wrap64_in h.1 h.2]
theorem mod_f {a b : Int} (h0 : b ≠ 0) : num_Mod.f a b = some (Int.tmod a b, 0) := by
  unfold num_Mod.f
  rw [if_neg h0]
  by_cases c : b = -1
  · rw [if_pos c, c, Int.tmod_neg, Int.tmod_one]
  · rw [if_neg c]
theorem undone_j0 (k : Nat) {a b : Int} (ha : in64 a) (hb : in64 b) : haruspexlaw04_NumUndone.j0 (k + 2) a b = some true := by
  rw [haruspexlaw04_NumUndone.j0, awake_f]
  by_cases h0 : b = 0
  · subst h0
    unfold num_Div.f num_Mod.f
    simp
  · by_cases hm : a = -9223372036854775808 ∧ b = -1
    · obtain ⟨rfl, rfl⟩ := hm
      unfold num_Div.f num_Mod.f
      simp
    · rw [div_f ha hb h0 hm, mod_f h0]
      obtain ⟨p1, p2, p3⟩ := tdiv_parts a h0
      have hq := tdiv_in ha h0 hm
      have hr : in64 (Int.tmod a b) := by unfold in64 at hb ⊢; omega
      have hqb : in64 (Int.tdiv a b * b) := by
        have h1 : (Int.tdiv a b * b).natAbs ≤ a.natAbs := by
          rw [Int.natAbs_mul, Int.natAbs_tdiv]; exact Nat.div_mul_le_self _ _
        have h5 : (Int.tmod a b).natAbs ≤ a.natAbs := by rw [Int.natAbs_tmod]; exact Nat.mod_le _ _
        unfold in64 at ha ⊢
        omega
      simp only [Option.bind_some, if_true]
      rw [mul_f k hq hb, res_in hqb]
      simp only [Option.bind_some, if_true]
      rw [add_f hqb hr, p1, res_in ha]
      simp only [Option.bind_some, if_true]
      unfold in64 at hr
      generalize hT : Int.tmod a b = r at *
      rcases Int.lt_or_gt_of_ne h0 with h1 | h1
      · have := p3 h1
        by_cases h2 : r < 0
        · repeat (first | rw [if_pos (by omega)] | rw [if_neg (by omega)])
        · rw [wrap64_in (n := -r) (by omega) (by omega)]
          repeat (first | rw [if_pos (by omega)] | rw [if_neg (by omega)])
      · have := p2 h1
        unfold in64 at hb
        rw [wrap64_in (n := -b) (by omega) (by omega)]
        repeat (first | rw [if_pos (by omega)] | rw [if_neg (by omega)])
theorem NumUndone : haruspexlaw04_NumUndone.Pure := by
  intro a b wa wb
  have ha := i64_bd wa
  have hb := i64_bd wb
  refine ⟨2, ?_⟩
  unfold haruspexlaw04_NumUndone.f
  rw [add_f ha hb, Option.bind_some]
  by_cases h : in64 (a + b)
  · rw [res_in h]
    simp only [if_true]
    rw [sub_f h hb, show a + b - b = a from by omega, res_in ha]
    simp only [Option.bind_some, if_true]
    exact undone_j0 0 ha hb
  · rw [res_out h, if_neg (by simp)]
    exact undone_j0 0 ha hb
end Go.Proofs.Ytbjfhchlngiboaa.Pure
