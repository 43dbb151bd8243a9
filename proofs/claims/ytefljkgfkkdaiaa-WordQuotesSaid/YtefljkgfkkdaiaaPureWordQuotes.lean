/- WordQuotes: any text is quoted, and any text is unquoted, as the document's answer tells it. No condition. -/
import Derived.Test.YtefljkgfkkdaiaaQuotedAll
set_option linter.unusedVariables false
namespace Go.Proofs.Ytefljkgfkkdaiaa.Pure
open Go.RowKit Go.Proofs.Ytefljkgfkkdaiaa.PAll Go.Proofs.YtefljkgfkkdaiaaW.PrintWords Go.Proofs.YtefljkgfkkdaiaaW.PrintLast

theorem WordQuotes : haruspexlaw05_WordQuotes.Pure := by
  intro a b ha hb
  obtain ⟨t, p, e, hu⟩ := UqAll.all (bytesOf b)
  refine ⟨4 * b.size + 400, ?_⟩
  unfold haruspexlaw05_WordQuotes.f
  rw [ref_quote_f a _ (by omega), word_unquote hu (by omega) _ (by omega), ref_unquote hu (by omega) _ (by omega)]
  have hq : ∃ r, word_Quote.f a = some r := by
    unfold word_Quote.f; split <;> exact ⟨_, rfl⟩
  obtain ⟨r, hr⟩ := hq
  rw [hr]
  simp only [Option.bind_some]
  rw [if_pos trivial, if_pos trivial, if_pos trivial, if_pos trivial, if_pos trivial, q_awake]
  rfl
end Go.Proofs.Ytefljkgfkkdaiaa.Pure
