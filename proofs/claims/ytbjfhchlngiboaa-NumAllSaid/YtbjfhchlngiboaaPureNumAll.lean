/- NumAll: all that the program reckons with any two int64 (sum, difference, product, quotient, rest, negation), with its errors, is the document's answer. No condition. -/
import Derived.Test.YtbjfhchlngiboaaPAllx6
import Derived.Test.YtbjfhchlngiboaaNum
namespace Go.Proofs.Ytbjfhchlngiboaa.Pure
open Go.RowKit Go.Proofs.Ytbjfhchlngiboaa.PAll Go.Proofs.YtbjfhchlngiboaaW.PrintWords Go.Proofs.YtbjfhchlngiboaaW.PrintLast

theorem NumAll : haruspexlaw04_NumAll.Pure := by
  intro a b wa wb
  have ha := i64_bd wa
  have hb := i64_bd wb
  refine ⟨2, ?_⟩
  have hd : ∃ x, num_Div.f a b = some x ∧ haruspexref04_Div.f a b = some x := by
    unfold num_Div.f haruspexref04_Div.f
    repeat' split
    all_goals exact ⟨_, rfl, rfl⟩
  have hm : ∃ x, num_Mod.f a b = some x ∧ haruspexref04_Mod.f a b = some x := by
    unfold num_Mod.f haruspexref04_Mod.f
    repeat' split
    all_goals exact ⟨_, rfl, rfl⟩
  obtain ⟨x, hx, hx'⟩ := hd
  obtain ⟨y, hy, hy'⟩ := hm
  unfold haruspexlaw04_NumAll.f
  rw [add_f ha hb, ref_add_f ha hb, sub_f ha hb, ref_sub_f ha hb, mul_f 1 ha hb, ref_mul_f 0 ha hb, hx, hx', hy, hy', neg_f ha, ref_neg_f ha, awake_f]
  simp
end Go.Proofs.Ytbjfhchlngiboaa.Pure
