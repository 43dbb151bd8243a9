/- NumBack: any int64's text is read as it; a text that is read is that of its number; what is refused answers 0. No condition. -/
import Derived.Test.YtbjfhchlngiboaaPAllx8
import Derived.Test.YtbjfhchlngiboaaNumText
set_option linter.unusedVariables false
set_option linter.unusedSimpArgs false
namespace Go.Proofs.Ytbjfhchlngiboaa.Pure
open Go.RowKit Go.Proofs.Ytbjfhchlngiboaa.PAll Go.Proofs.YtbjfhchlngiboaaW.PrintWords Go.Proofs.YtbjfhchlngiboaaW.PrintLast

theorem parsed_zero (s : List Int) : (parsed s).2 = 0 ∨ parsed s = (0, (parsed s).2) := by
  unfold parsed signed res
  repeat' split
  all_goals simp
theorem textOf_short {n : Int} (h : in64 n) : (textOf n).length ≤ 21 := by
  have hb := digitsOf_ok h
  unfold textOf num_Text.digitsOf
  by_cases c : n < 0
  · rw [if_pos c, if_pos c]
    have := dgs_ok 20 (-n) (hb.1 c).1 (hb.1 c).2 (by omega)
    simp; omega
  · rw [if_neg c, if_neg c]
    have := dgs_ok 20 n (hb.2 c).1 (hb.2 c).2 (by omega)
    omega
theorem NumBack : haruspexlaw04_NumBack.Pure := by
  intro n s wn hs
  have hn := i64_bd wn
  have hl := textOf_short hn
  have hsz := strOfNums_size (textOf n)
  refine ⟨s.size + 50, ?_⟩
  unfold haruspexlaw04_NumBack.f
  rw [text_f hn, Option.bind_some, parse_f _ (strOfNums (textOf n)) (by omega) (by omega), Option.bind_some, parse_f _ s hs (by omega), Option.bind_some, bytesOf_strOfNums (textOf_bytes hn), parsed_text hn, awake_f]
  by_cases h : (parsed (bytesOf s)).2 = 0
  · have hp : parsed (bytesOf s) = ((parsed (bytesOf s)).1, 0) := by rw [← h]
    obtain ⟨h64, ht⟩ := text_parsed (bytesOf_bytes s) hp
    rw [if_pos h, if_pos rfl, if_pos rfl, text_f h64, Option.bind_some, ht, strOfNums_bytesOf, if_pos rfl]
    rfl
  · have hz := (parsed_zero (bytesOf s)).resolve_left h
    rw [if_neg h, if_pos rfl, if_pos rfl, if_pos (by rw [hz])]
    rfl
end Go.Proofs.Ytbjfhchlngiboaa.Pure
