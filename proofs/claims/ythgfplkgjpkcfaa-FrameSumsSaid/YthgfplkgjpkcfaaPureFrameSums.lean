/- FrameSums: the sum of any bytes, and of any behind others, and any bytes' frame, are those of the document's answer. No condition. -/
import Derived.Test.YthgfplkgjpkcfaaFrameWrap
set_option linter.unusedVariables false
namespace Go.Proofs.Ythgfplkgjpkcfaa.Pure
open Go.RowKit Go.Proofs.Ythgfplkgjpkcfaa.PAll Go.Proofs.YthgfplkgjpkcfaaW.PrintWords Go.Proofs.YthgfplkgjpkcfaaW.PrintLast

theorem FrameSums : haruspexlaw03_FrameSums.Pure := by
  intro l a _ hl hw _
  have h : bytes8 l := fun x hx => u8_bd (hw x hx)
  refine ⟨8 * l.length + 1000, ?_⟩
  unfold haruspexlaw03_FrameSums.f
  have hW : ∃ r, frame_Wrap.f (8 * l.length + 1000) l = some r ∧ haruspexref03_Wrap.f (8 * l.length + 1000) l = some r := by
    by_cases c : l.length ≤ 65536
    · exact ⟨_, wrap_f h c _ (by omega), ref_wrap_f h c _ (by omega)⟩
    · exact ⟨_, wrap_long c _, ref_wrap_long c _⟩
  obtain ⟨r, hr1, hr2⟩ := hW
  rw [hr1, hr2, Option.bind_some, Option.bind_some, sum_f h, Option.bind_some, ref_sum_f h (by omega) _ (by omega), Option.bind_some, if_pos rfl, more_f a h, Option.bind_some, ref_more_f a h (by omega) _ (by omega), Option.bind_some, if_pos rfl, if_pos rfl, if_pos rfl, awake_f]
  rfl
end Go.Proofs.Ythgfplkgjpkcfaa.Pure
