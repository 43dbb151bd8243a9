/- WordTells: whether any text is a name, or of A to Z, how it is folded, and whether it is less than another one, is told as the document's answer tells it. No condition. -/
import Derived.Test.YtefljkgfkkdaiaaPAllx2
import Derived.Test.YtefljkgfkkdaiaaWord
set_option linter.unusedVariables false
set_option linter.unusedSimpArgs false
namespace Go.Proofs.Ytefljkgfkkdaiaa.Pure
open Go.RowKit Go.Proofs.Ytefljkgfkkdaiaa.PAll Go.Proofs.YtefljkgfkkdaiaaW.PrintWords Go.Proofs.YtefljkgfkkdaiaaW.PrintLast Go.Proofs.YtefljkgfkkdaiaaW.HandWords

theorem ref_lower_f (c : Int) : haruspexref05_lower.f c = some (word_Name.low c) := word_Name.low_f c
theorem ref_sign_f (c : Int) : haruspexref05_Sign.f c = some (word_Name.sign c) := word_Name.sign_f c
theorem ref_upper_f (c : Int) : haruspexref05_upper.f c = some (word_Upper.up c) := word_Upper.up_f c
theorem ref_name_l0 (s : ByteArray) (hs : s.size ≤ 140737488351232) (d : List Int) : ∀ (k i : Nat), (bytesOf s).drop i = d → i ≤ s.size → word_Name.Rel (bytesOf s) i ∨ (0 < i ∧ ((bytesOf s).take i).all word_Name.sign = true ∧ word_Name.low (rd (bytesOf s) 0) = false) → d.length < k →
    haruspexref05_Name.l0 k s (i : Int) = some (word_Name.is (bytesOf s)) := by
  have hl := bytesOf_length s
  induction d with
  | nil =>
    intro k i hd hi hR hk
    obtain ⟨k, rfl⟩ : ∃ n, k = n + 1 := ⟨k - 1, by omega⟩
    have hge : (bytesOf s).length ≤ i := List.drop_eq_nil_iff.1 hd
    rw [haruspexref05_Name.l0, if_neg (by omega)]
    have hi' : i = (bytesOf s).length := by omega
    by_cases h1 : (s.size : Int) ≥ 1
    · rw [if_pos h1]
      by_cases h2 : (s.size : Int) ≤ 32
      · rw [if_pos h2, if_pos (by omega), bt_rd, ref_lower_f]
        rcases hR with hR | hR
        · rw [hi'] at hR
          rw [word_Name.done hR (by omega), hR.one (by omega)]
          rw [decide_eq_true (by omega)]; rfl
        · rw [word_Name.no_first hR.2.2, hR.2.2]; rfl
      · rw [if_neg h2]
        have : word_Name.is (bytesOf s) = false := by
          unfold word_Name.is
          rw [decide_eq_false (show ¬ (bytesOf s).length ≤ 32 by omega)]; simp
        rw [this]
    · rw [if_neg h1]
      have : word_Name.is (bytesOf s) = false := by
        unfold word_Name.is
        rw [decide_eq_false (show ¬ 1 ≤ (bytesOf s).length by omega)]; simp
      rw [this]
  | cons c t ih =>
    intro k i hd hi hR hk
    obtain ⟨k, rfl⟩ : ∃ n, k = n + 1 := ⟨k - 1, by omega⟩
    have hil : i < (bytesOf s).length := by
      rcases Nat.lt_or_ge i (bytesOf s).length with h | h
      · exact h
      · rw [List.drop_eq_nil_of_le h] at hd; cases hd
    rw [drop_rd hil] at hd
    injection hd with h1 h2
    rw [haruspexref05_Name.l0, if_pos (by omega), if_pos (by omega), bt_rd, ref_sign_f, Option.bind_some, wrap64_in (n := (i : Int) + 1) (by omega) (by omega)]
    by_cases hs1 : word_Name.sign (rd (bytesOf s) (i : Int)) = true
    · rw [if_pos hs1, show ((i : Int) + 1) = ((i + 1 : Nat) : Int) from by omega]
      refine ih k (i + 1) h2 (by omega) ?_ (by simp at hk; omega)
      have hall : ∀ h : ((bytesOf s).take i).all word_Name.sign = true, ((bytesOf s).take (i + 1)).all word_Name.sign = true := by
        intro h
        rw [List.take_add_one, List.getElem?_eq_getElem hil, List.all_append, h]
        have : rd (bytesOf s) (i : Int) = (bytesOf s)[i] := by
          unfold rd; rw [Int.toNat_natCast, List.getD_eq_getElem?_getD, List.getElem?_eq_getElem hil]; rfl
        rw [this] at hs1
        simp [hs1]
      rcases hR with hR | hR
      · by_cases h0 : i = 0
        · subst h0
          by_cases hlo : word_Name.low (rd (bytesOf s) 0) = true
          · exact Or.inl (word_Name.next hR hil hs1 (fun _ => hlo))
          · exact Or.inr ⟨by omega, hall hR.all, by simpa using hlo⟩
        · exact Or.inl (word_Name.next hR hil hs1 (fun h => absurd h h0))
      · exact Or.inr ⟨by omega, hall hR.2.1, hR.2.2⟩
    · rw [if_neg hs1, word_Name.no_sign hil (by simpa using hs1)]
theorem ref_upper_l0 (s : ByteArray) (hs : s.size ≤ 140737488351232) (d : List Int) : ∀ (k i : Nat), (bytesOf s).drop i = d → i ≤ s.size → word_Upper.Rel (bytesOf s) i → d.length < k →
    haruspexref05_Upper.l0 k s (i : Int) = some (word_Upper.is (bytesOf s)) := by
  have hl := bytesOf_length s
  induction d with
  | nil =>
    intro k i hd hi hR hk
    obtain ⟨k, rfl⟩ : ∃ n, k = n + 1 := ⟨k - 1, by omega⟩
    have hge : (bytesOf s).length ≤ i := List.drop_eq_nil_iff.1 hd
    rw [haruspexref05_Upper.l0, if_neg (by omega)]
    have hi' : i = (bytesOf s).length := by omega
    rw [hi'] at hR
    by_cases h1 : (s.size : Int) ≥ 1
    · rw [if_pos h1, word_Upper.done hR (by omega)]
      congr 1
      exact decide_eq_decide.2 (by omega)
    · rw [if_neg h1]
      have : word_Upper.is (bytesOf s) = false := by
        unfold word_Upper.is
        rw [decide_eq_false (show ¬ 1 ≤ (bytesOf s).length by omega)]; simp
      rw [this]
  | cons c t ih =>
    intro k i hd hi hR hk
    obtain ⟨k, rfl⟩ : ∃ n, k = n + 1 := ⟨k - 1, by omega⟩
    have hil : i < (bytesOf s).length := by
      rcases Nat.lt_or_ge i (bytesOf s).length with h | h
      · exact h
      · rw [List.drop_eq_nil_of_le h] at hd; cases hd
    rw [drop_rd hil] at hd
    injection hd with h1 h2
    rw [haruspexref05_Upper.l0, if_pos (by omega), if_pos (by omega), bt_rd, ref_upper_f, Option.bind_some, wrap64_in (n := (i : Int) + 1) (by omega) (by omega)]
    by_cases hs1 : word_Upper.up (rd (bytesOf s) (i : Int)) = true
    · rw [if_pos hs1, show ((i : Int) + 1) = ((i + 1 : Nat) : Int) from by omega]
      exact ih k (i + 1) h2 (by omega) (word_Upper.next hR hil hs1) (by simp at hk; omega)
    · rw [if_neg hs1, word_Upper.no_up hil (by simpa using hs1)]
theorem WordTells : haruspexlaw05_WordTells.Pure := by
  intro s t hs ht
  have hl := bytesOf_length s
  refine ⟨s.size + 2, ?_⟩
  have h1 := ref_name_l0 s hs (bytesOf s) (s.size + 2) 0 rfl (by omega) (Or.inl ⟨Nat.zero_le _, rfl, fun h => absurd h (Nat.lt_irrefl 0)⟩) (by omega)
  have h2 := ref_upper_l0 s hs (bytesOf s) (s.size + 2) 0 rfl (by omega) ⟨Nat.zero_le _, rfl⟩ (by omega)
  have h3 : haruspexref05_Fold.f s = some (strOfNums ((bytesOf s).map fold1)) := by
    unfold haruspexref05_Fold.f; rw [if_pos hs]
  have h1' : haruspexref05_Name.f (s.size + 2) s = some (word_Name.is (bytesOf s)) := h1
  have h2' : haruspexref05_Upper.f (s.size + 2) s = some (word_Upper.is (bytesOf s)) := h2
  unfold haruspexlaw05_WordTells.f word_Less.f
  rw [name_f hs, upper_f hs, fold_f hs, h1', h2', h3, awake_f]
  simp
end Go.Proofs.Ytefljkgfkkdaiaa.Pure
