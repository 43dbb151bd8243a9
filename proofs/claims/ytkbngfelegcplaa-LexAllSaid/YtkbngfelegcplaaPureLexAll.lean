/- LexAll: the tokens of any text are those of the document's answer. No condition. -/
import Derived.Test.YtkbngfelegcplaaLexAll
set_option linter.unusedVariables false
namespace Go.Proofs.Ytkbngfelegcplaa.Pure
open Go.RowKit Go.Proofs.Ytkbngfelegcplaa.PAll Go.Proofs.YtkbngfelegcplaaW.PrintWords Go.Proofs.YtkbngfelegcplaaW.PrintLast

theorem same_l0 (l : List S32) (hl : l.length ≤ 100000) (d : Nat) : ∀ (i K : Nat), i + d = l.length → d + 100000 < K → haruspexlaw17_LexAll.l0 K l l (i : Int) = some true := by
  induction d with
  | zero =>
    intro i K hi hK
    obtain ⟨K, rfl⟩ : ∃ n, K = n + 1 := ⟨K - 1, by omega⟩
    rw [haruspexlaw17_LexAll.l0, if_neg (by omega), awake17 K (by omega)]; rfl
  | succ d ih =>
    intro i K hi hK
    obtain ⟨K, rfl⟩ : ∃ n, K = n + 1 := ⟨K - 1, by omega⟩
    rw [haruspexlaw17_LexAll.l0, if_pos (by omega), if_pos (by omega), if_pos (by omega), if_neg (by simp), q_wrap (by omega) (by omega), show (i : Int) + 1 = ((i + 1 : Nat) : Int) from by omega]
    exact ih (i + 1) K (by omega) (by omega)
theorem LexAll : haruspexlaw17_LexAll.Pure := by
  intro s _
  refine ⟨400000, ?_⟩
  unfold haruspexlaw17_LexAll.f
  have key : ∃ l n e, lex_All.f 400000 s = some (l, n, e) ∧ haruspexref17_All.f 400000 s = some (l, n, e) ∧ l.length ≤ 100000 := by
    by_cases hs : s.size ≤ 8192
    · obtain ⟨l, m, e, h⟩ := lx_of s
      refine ⟨_, _, _, all_f hs h _ (by omega), ref_all_f hs h _ (by omega), ?_⟩
      rw [List.length_map]
      have hb := bytesOf_length s
      by_cases he : e = 0
      · have := h.err.2.2.2.2 he; omega
      · rw [h.err.1 he]; simp
    · exact ⟨_, _, _, all_long hs _, ref_all_long hs _, by simp⟩
  obtain ⟨l, n, e, h1, h2, hl⟩ := key
  rw [h1, Option.bind_some, h2, Option.bind_some]
  dsimp only
  rw [if_pos rfl, if_pos rfl, haruspexlaw17_LexAll.j0, if_neg (by simp)]
  exact same_l0 l hl l.length 0 _ (by omega) (by omega)
end Go.Proofs.Ytkbngfelegcplaa.Pure
