/- Plain laws of quoted texts: the document's answer unquotes a text just as the case by case law tells it. -/
import Derived.Test.YtefljkgfkkdaiaaQuoted
set_option linter.unusedVariables false
set_option linter.unusedSimpArgs false
namespace Go.Proofs.Ytefljkgfkkdaiaa.Pure
open Go.RowKit Go.Proofs.Ytefljkgfkkdaiaa.PAll Go.Proofs.YtefljkgfkkdaiaaW.PrintWords Go.Proofs.YtefljkgfkkdaiaaW.PrintLast Go.Proofs.YtefljkgfkkdaiaaW.PrintMore Go.Proofs.YtefljkgfkkdaiaaW.HandWords

theorem digits_at (j : Nat) (hj : j < 16) : bt (⟨#[48, 49, 50, 51, 52, 53, 54, 55, 56, 57, 97, 98, 99, 100, 101, 102]⟩ : ByteArray) (j : Int) = word_digit.tab j := by
  have h : j = 0 ∨ j = 1 ∨ j = 2 ∨ j = 3 ∨ j = 4 ∨ j = 5 ∨ j = 6 ∨ j = 7 ∨ j = 8 ∨ j = 9 ∨ j = 10 ∨ j = 11 ∨ j = 12 ∨ j = 13 ∨ j = 14 ∨ j = 15 := by omega
  rcases h with rfl | rfl | rfl | rfl | rfl | rfl | rfl | rfl | rfl | rfl | rfl | rfl | rfl | rfl | rfl | rfl <;> decide
theorem ref_hex_l0 (c : Int) (n : Nat) : ∀ (j k : Nat), j + n = 16 → n < k → (∀ i : Nat, i < j → word_digit.tab i ≠ c) → haruspexref05_hex.l0 k c (j : Int) = some (word_digit.val c) := by
  induction n with
  | zero =>
    intro j k hj hk hm
    obtain ⟨k, rfl⟩ : ∃ n, k = n + 1 := ⟨k - 1, by omega⟩
    rw [haruspexref05_hex.l0, if_neg (by omega), word_digit.val_miss c (fun i hi => hm i (by omega))]
  | succ n ih =>
    intro j k hj hk hm
    obtain ⟨k, rfl⟩ : ∃ n, k = n + 1 := ⟨k - 1, by omega⟩
    rw [haruspexref05_hex.l0, if_pos (by omega), if_pos (by omega), digits_at j (by omega)]
    by_cases h : word_digit.tab j = c
    · rw [if_pos h, word_digit.val_hit c j (by omega) h]
    · rw [if_neg h, q_wrap (by omega) (by omega), show (j : Int) + 1 = ((j + 1 : Nat) : Int) from by omega]
      refine ih (j + 1) k (by omega) (by omega) (fun i hi => ?_)
      rcases Nat.lt_or_ge i j with h1 | h1
      · exact hm i h1
      · rw [show i = j from by omega]; exact h
theorem ref_hex_f (c : Int) (k : Nat) (hk : 17 ≤ k) : haruspexref05_hex.f k c = some (word_digit.val c) := by
  unfold haruspexref05_hex.f
  exact ref_hex_l0 c 16 0 k rfl (by omega) (fun i hi => absurd hi (Nat.not_lt_zero _))
section
variable {s : ByteArray} {b : List Int} {i : Int} {k : Nat} {out : List Int}
theorem ref_l0 (hs : bytesOf s = b) (hz : s.size ≤ 140737488353000) (h0 : 0 ≤ i) (hi : i ≤ b.length) (ho : (out.length : Int) ≤ i) : haruspexref05_Unquote.l0 (k + 1) s out i =
    if (b.length : Int) ≤ i then some (strOfNums [], (b.length : Int), 4) else if rd b i = 39 then (if 256 < out.length then some (strOfNums [], 0, 2) else some (strOfNums out, i + 1, 0)) else
    if 32 ≤ rd b i ∧ rd b i ≤ 126 then (if rd b i = 92 then (if (b.length : Int) ≤ i + 1 then some (strOfNums [], (b.length : Int), 4) else haruspexref05_Unquote.j2 k s out i (decide (rd b (i + 1) = 39 ∨ rd b (i + 1) = 92))) else haruspexref05_Unquote.l0 k s (out ++ [rd b i]) (i + 1))
    else some (strOfNums [], i, 4) := by
  have hl : s.size = b.length := by rw [← hs, bytesOf_length]
  rw [haruspexref05_Unquote.l0]
  by_cases c1 : (b.length : Int) ≤ i
  · rw [if_neg (by omega), if_pos c1, hl]; rfl
  rw [if_pos (by omega), if_pos h0, if_neg c1, bt_rd, hs]
  by_cases c2 : rd b i = 39
  · rw [if_pos c2, if_pos c2, q_wrap (n := i + 1) (by omega) (by omega)]
    by_cases c3 : 256 < out.length
    · rw [if_pos c3, if_pos (by omega)]; rfl
    · rw [if_neg c3, if_neg (by omega)]
  rw [if_neg c2, if_neg c2, ref_plain_f, Option.bind_some]
  by_cases c3 : 32 ≤ rd b i ∧ rd b i ≤ 126
  · rw [decide_eq_true c3, if_pos rfl, if_pos c3, q_wrap (n := i + 1) (by omega) (by omega)]
    by_cases c4 : rd b i = 92
    · rw [if_pos c4, if_pos c4]
      by_cases c5 : (b.length : Int) ≤ i + 1
      · rw [if_pos (by omega), if_pos c5, hl]; rfl
      · rw [if_neg (by omega), if_neg c5, if_pos (by omega), if_pos (by omega), bt_rd, hs]
        by_cases c6 : rd b (i + 1) = 39
        · rw [if_pos c6, decide_eq_true (show rd b (i + 1) = 39 ∨ rd b (i + 1) = 92 from .inl c6)]
        · rw [if_neg c6]
          congr 1
          by_cases c7 : rd b (i + 1) = 92
          · rw [beq_iff_eq.mpr c7, decide_eq_true (show rd b (i + 1) = 39 ∨ rd b (i + 1) = 92 from .inr c7)]
          · rw [beq_eq_false_iff_ne.mpr c7, decide_eq_false (show ¬ (rd b (i + 1) = 39 ∨ rd b (i + 1) = 92) from by simp [c6, c7])]
    · rw [if_neg c4, if_neg c4, if_pos (by omega)]
  · rw [decide_eq_false c3, if_neg (by decide), if_neg c3]; rfl
theorem ref_j2 (hs : bytesOf s = b) (hz : s.size ≤ 140737488353000) (h0 : 0 ≤ i) (hi : i + 1 < b.length) (ho : (out.length : Int) ≤ i) (x : Bool) : haruspexref05_Unquote.j2 (k + 1) s out i x =
    if x = true then haruspexref05_Unquote.l0 k s (out ++ [rd b (i + 1)]) (i + 2) else if rd b (i + 1) = 120 then haruspexref05_Unquote.l1 k s out i (i + 2) else some (strOfNums [], i + 1, 4) := by
  have hl : s.size = b.length := by rw [← hs, bytesOf_length]
  rw [haruspexref05_Unquote.j2, q_wrap (n := i + 1) (by omega) (by omega), q_wrap (n := i + 2) (by omega) (by omega), bt_rd, hs]
  by_cases c : x = true
  · rw [if_pos c, if_pos (by omega), if_pos (by omega), if_pos (by omega), if_pos c]
  · rw [if_neg c, if_pos (by omega), if_pos (by omega), if_neg c]
    rfl
theorem ref_l1a (hs : bytesOf s = b) (hz : s.size ≤ 140737488353000) (h0 : 0 ≤ i) (hi : i < b.length) (hk : 17 ≤ k) (j : Int) (hj0 : i + 2 ≤ j) (hj1 : j < i + 4) : haruspexref05_Unquote.l1 (k + 1) s out i j =
    if (b.length : Int) ≤ j then some (strOfNums [], (b.length : Int), 4) else if word_digit.val (rd b j) < 0 then some (strOfNums [], j, 4) else haruspexref05_Unquote.l1 k s out i (j + 1) := by
  have hl : s.size = b.length := by rw [← hs, bytesOf_length]
  rw [haruspexref05_Unquote.l1, q_wrap (n := i + 4) (by omega) (by omega), if_pos hj1]
  by_cases c : (b.length : Int) ≤ j
  · rw [if_pos (by omega), if_pos c, hl]; rfl
  · rw [if_neg (by omega), if_pos (by omega), if_pos (by omega), if_neg c, bt_rd, hs, ref_hex_f _ _ hk, Option.bind_some, q_wrap (n := j + 1) (by omega) (by omega)]
    rfl
theorem ref_l1b (hs : bytesOf s = b) (hz : s.size ≤ 140737488353000) (h0 : 0 ≤ i) (hi : i + 3 < b.length) (ho : (out.length : Int) ≤ i) (hk : 17 ≤ k) (h4 : ¬ word_digit.val (rd b (i + 2)) < 0) (h5 : ¬ word_digit.val (rd b (i + 3)) < 0) (x : Int)
    (hx : x = 16 * word_digit.val (rd b (i + 2)) + word_digit.val (rd b (i + 3))) : haruspexref05_Unquote.l1 (k + 1) s out i (i + 4) =
    if 32 ≤ x ∧ x ≤ 126 then some (strOfNums [], i, 4) else haruspexref05_Unquote.l0 k s (out ++ [x]) (i + 4) := by
  have hl : s.size = b.length := by rw [← hs, bytesOf_length]
  have v1 := val_range (rd b (i + 2))
  have v2 := val_range (rd b (i + 3))
  rw [haruspexref05_Unquote.l1, q_wrap (n := i + 4) (by omega) (by omega), q_wrap (n := i + 2) (by omega) (by omega), q_wrap (n := i + 3) (by omega) (by omega), if_neg (by omega), if_pos (by omega), if_pos (by omega), bt_rd, bt_rd, hs, ref_hex_f _ _ hk, ref_hex_f _ _ hk,
    Option.bind_some, if_pos (by omega), if_pos (by omega), Option.bind_some, q_wrap (n := 16 * word_digit.val (rd b (i + 2))) (by omega) (by omega), ← hx, q_wrap (n := x) (by omega) (by omega), show x % 256 = x from by omega, ref_plain_f, Option.bind_some]
  by_cases c : 32 ≤ x ∧ x ≤ 126
  · rw [decide_eq_true c, if_pos rfl, if_pos c]; rfl
  · rw [decide_eq_false c, if_neg (by decide), if_neg c, if_pos (by omega)]
end
theorem ref_uq {b : List Int} {i : Int} {out t : List Int} {p e : Int} (h : Uq b i out t p e) : ∀ s : ByteArray, bytesOf s = b → s.size ≤ 140737488353000 → 0 ≤ i → (out.length : Int) ≤ i → ∀ K : Nat, 4 * ((b.length : Int) - i) + 40 ≤ K →
    haruspexref05_Unquote.l0 K s out i = some (strOfNums t, p, e) := by
  induction h with
  | @ends i out h1 =>
    intro s hs hz h0 ho K hK
    obtain ⟨K, rfl⟩ : ∃ n, K = n + 1 := ⟨K - 1, by omega⟩
    rw [ref_l0 hs hz h0 (by omega) ho, if_pos (by omega)]
  | @long i out h1 h2 h3 =>
    intro s hs hz h0 ho K hK
    obtain ⟨K, rfl⟩ : ∃ n, K = n + 1 := ⟨K - 1, by omega⟩
    rw [ref_l0 hs hz h0 (by omega) ho, if_neg (by omega), if_pos h2, if_pos h3]
  | @close i out h1 h2 h3 =>
    intro s hs hz h0 ho K hK
    obtain ⟨K, rfl⟩ : ∃ n, K = n + 1 := ⟨K - 1, by omega⟩
    rw [ref_l0 hs hz h0 (by omega) ho, if_neg (by omega), if_pos h2, if_neg h3]
  | @plain i out t p e h1 h2 h3 h4 h ih =>
    intro s hs hz h0 ho K hK
    obtain ⟨K, rfl⟩ : ∃ n, K = n + 1 := ⟨K - 1, by omega⟩
    rw [ref_l0 hs hz h0 (by omega) ho, if_neg (by omega), if_neg h2, if_pos h4, if_neg h3]
    exact ih s hs hz (by omega) (by simp; omega) K (by omega)
  | @odd i out h1 h2 h3 h4 =>
    intro s hs hz h0 ho K hK
    obtain ⟨K, rfl⟩ : ∃ n, K = n + 1 := ⟨K - 1, by omega⟩
    rw [ref_l0 hs hz h0 (by omega) ho, if_neg (by omega), if_neg h2, if_neg h4]
  | @cut1 i out h1 h2 h3 =>
    intro s hs hz h0 ho K hK
    obtain ⟨K, rfl⟩ : ∃ n, K = n + 1 := ⟨K - 1, by omega⟩
    rw [ref_l0 hs hz h0 (by omega) ho, if_neg (by omega), if_neg (by omega), if_pos (by omega), if_pos h2, if_pos (by omega)]
  | @sign i out t p e h1 h2 h3 h ih =>
    intro s hs hz h0 ho K hK
    obtain ⟨K, rfl⟩ : ∃ n, K = n + 2 := ⟨K - 2, by omega⟩
    rw [ref_l0 hs hz h0 (by omega) ho, if_neg (by omega), if_neg (by omega), if_pos (by omega), if_pos h2, if_neg (by omega), decide_eq_true h3, ref_j2 hs hz h0 (by omega) ho, if_pos rfl]
    exact ih s hs hz (by omega) (by simp; omega) K (by omega)
  | @nosign i out h1 h2 h3 h4 =>
    intro s hs hz h0 ho K hK
    obtain ⟨K, rfl⟩ : ∃ n, K = n + 2 := ⟨K - 2, by omega⟩
    rw [ref_l0 hs hz h0 (by omega) ho, if_neg (by omega), if_neg (by omega), if_pos (by omega), if_pos h2, if_neg (by omega), decide_eq_false h3, ref_j2 hs hz h0 (by omega) ho, if_neg (by decide), if_neg h4]
  | @cut2 i out h1 h2 h3 h4 =>
    intro s hs hz h0 ho K hK
    obtain ⟨K, rfl⟩ : ∃ n, K = n + 3 := ⟨K - 3, by omega⟩
    rw [ref_l0 hs hz h0 (by omega) ho, if_neg (by omega), if_neg (by omega), if_pos (by omega), if_pos h2, if_neg (by omega), decide_eq_false (by omega), ref_j2 hs hz h0 (by omega) ho, if_neg (by decide), if_pos h3, ref_l1a hs hz h0 (by omega) (by omega) _ (by omega) (by omega), if_pos (by omega)]
  | @dig1 i out h1 h2 h3 h4 =>
    intro s hs hz h0 ho K hK
    obtain ⟨K, rfl⟩ : ∃ n, K = n + 3 := ⟨K - 3, by omega⟩
    rw [ref_l0 hs hz h0 (by omega) ho, if_neg (by omega), if_neg (by omega), if_pos (by omega), if_pos h2, if_neg (by omega), decide_eq_false (by omega), ref_j2 hs hz h0 (by omega) ho, if_neg (by decide), if_pos h3, ref_l1a hs hz h0 (by omega) (by omega) _ (by omega) (by omega), if_neg (by omega), if_pos h4]
  | @cut3 i out h1 h2 h3 h4 h5 =>
    intro s hs hz h0 ho K hK
    obtain ⟨K, rfl⟩ : ∃ n, K = n + 4 := ⟨K - 4, by omega⟩
    rw [ref_l0 hs hz h0 (by omega) ho, if_neg (by omega), if_neg (by omega), if_pos (by omega), if_pos h2, if_neg (by omega), decide_eq_false (by omega), ref_j2 hs hz h0 (by omega) ho, if_neg (by decide), if_pos h3, ref_l1a hs hz h0 (by omega) (by omega) _ (by omega) (by omega), if_neg (by omega), if_neg h4,
      ref_l1a hs hz h0 (by omega) (by omega) _ (by omega) (by omega), if_pos (by omega)]
  | @dig2 i out h1 h2 h3 h4 h5 =>
    intro s hs hz h0 ho K hK
    obtain ⟨K, rfl⟩ : ∃ n, K = n + 4 := ⟨K - 4, by omega⟩
    rw [ref_l0 hs hz h0 (by omega) ho, if_neg (by omega), if_neg (by omega), if_pos (by omega), if_pos h2, if_neg (by omega), decide_eq_false (by omega), ref_j2 hs hz h0 (by omega) ho, if_neg (by decide), if_pos h3, ref_l1a hs hz h0 (by omega) (by omega) _ (by omega) (by omega), if_neg (by omega), if_neg h4,
      ref_l1a hs hz h0 (by omega) (by omega) _ (by omega) (by omega), show i + 2 + 1 = i + 3 from by omega, if_neg (by omega), if_pos h5]
  | @bad i x out h1 h2 h3 h4 h5 hx h6 =>
    intro s hs hz h0 ho K hK
    obtain ⟨K, rfl⟩ : ∃ n, K = n + 5 := ⟨K - 5, by omega⟩
    rw [ref_l0 hs hz h0 (by omega) ho, if_neg (by omega), if_neg (by omega), if_pos (by omega), if_pos h2, if_neg (by omega), decide_eq_false (by omega), ref_j2 hs hz h0 (by omega) ho, if_neg (by decide), if_pos h3, ref_l1a hs hz h0 (by omega) (by omega) _ (by omega) (by omega), if_neg (by omega), if_neg h4,
      ref_l1a hs hz h0 (by omega) (by omega) _ (by omega) (by omega), show i + 2 + 1 = i + 3 from by omega, if_neg (by omega), if_neg h5, show i + 3 + 1 = i + 4 from by omega, ref_l1b hs hz h0 h1 ho (by omega) h4 h5 x hx, if_pos h6]
  | @hex i x out t p e h1 h2 h3 h4 h5 hx h6 h ih =>
    intro s hs hz h0 ho K hK
    obtain ⟨K, rfl⟩ : ∃ n, K = n + 5 := ⟨K - 5, by omega⟩
    rw [ref_l0 hs hz h0 (by omega) ho, if_neg (by omega), if_neg (by omega), if_pos (by omega), if_pos h2, if_neg (by omega), decide_eq_false (by omega), ref_j2 hs hz h0 (by omega) ho, if_neg (by decide), if_pos h3, ref_l1a hs hz h0 (by omega) (by omega) _ (by omega) (by omega), if_neg (by omega), if_neg h4,
      ref_l1a hs hz h0 (by omega) (by omega) _ (by omega) (by omega), show i + 2 + 1 = i + 3 from by omega, if_neg (by omega), if_neg h5, show i + 3 + 1 = i + 4 from by omega, ref_l1b hs hz h0 h1 ho (by omega) h4 h5 x hx, if_neg h6]
    exact ih s hs hz (by omega) (by simp; omega) K (by omega)
end Go.Proofs.Ytefljkgfkkdaiaa.Pure
