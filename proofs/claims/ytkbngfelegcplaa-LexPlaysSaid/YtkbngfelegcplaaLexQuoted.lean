/- Plain laws of quoted texts, as far as tokens need them: how a text is unquoted, case by case, and that the program's reader and the document's answer both do just that. -/
import Derived.Test.YtkbngfelegcplaaPAllx9
import Derived.Test.YtkbngfelegcplaaStr
set_option linter.unusedVariables false
set_option linter.unusedSimpArgs false
namespace Go.Proofs.Ytkbngfelegcplaa.Pure
open Go.RowKit Go.Proofs.Ytkbngfelegcplaa.PAll Go.Proofs.YtkbngfelegcplaaW.PrintWords Go.Proofs.YtkbngfelegcplaaW.PrintLast Go.Proofs.YtkbngfelegcplaaW.PrintMore Go.Proofs.YtkbngfelegcplaaW.HandWords

theorem q_wrap {n : Int} (h0 : -9223372036854775808 ≤ n) (h1 : n ≤ 9223372036854775807) : wrap64 n = n := by unfold wrap64; omega
def plainB (c : Int) : Prop := 32 ≤ c ∧ c ≤ 126
theorem plain_f (c : Int) : word_plain.f c = some (decide (32 ≤ c ∧ c ≤ 126)) := by
  unfold word_plain.f
  by_cases h : c ≥ 32
  · rw [if_pos h]; congr 1; by_cases h2 : c ≤ 126
    · rw [decide_eq_true h2, decide_eq_true ⟨h, h2⟩]
    · rw [decide_eq_false h2, decide_eq_false (fun x => h2 x.2)]
  · rw [if_neg h, decide_eq_false (fun x => h x.1)]
theorem ref_plain_f (c : Int) : haruspexref05_plain.f c = some (decide (32 ≤ c ∧ c ≤ 126)) := plain_f c
theorem val_range (c : Int) : -1 ≤ word_digit.val c ∧ word_digit.val c < 16 := by
  unfold word_digit.val
  repeat' split
  all_goals omega

/-- how a text b is unquoted from place i on, out being what is told already: the text, the place, the error -/
inductive Uq (b : List Int) : Int → List Int → List Int → Int → Int → Prop
  | ends {i : Int} {out : List Int} (h1 : i = b.length) : Uq b i out [] b.length 4
  | long {i : Int} {out : List Int} (h1 : i < b.length) (h2 : rd b i = 39) (h3 : 256 < out.length) : Uq b i out [] 0 2
  | close {i : Int} {out : List Int} (h1 : i < b.length) (h2 : rd b i = 39) (h3 : ¬ 256 < out.length) : Uq b i out out (i + 1) 0
  | plain {i : Int} {out t : List Int} {p e : Int} (h1 : i < b.length) (h2 : rd b i ≠ 39) (h3 : rd b i ≠ 92) (h4 : 32 ≤ rd b i ∧ rd b i ≤ 126) (h : Uq b (i + 1) (out ++ [rd b i]) t p e) : Uq b i out t p e
  | odd {i : Int} {out : List Int} (h1 : i < b.length) (h2 : rd b i ≠ 39) (h3 : rd b i ≠ 92) (h4 : ¬ (32 ≤ rd b i ∧ rd b i ≤ 126)) : Uq b i out [] i 4
  | cut1 {i : Int} {out : List Int} (h1 : i < b.length) (h2 : rd b i = 92) (h3 : i + 1 = b.length) : Uq b i out [] b.length 4
  | sign {i : Int} {out t : List Int} {p e : Int} (h1 : i + 1 < b.length) (h2 : rd b i = 92) (h3 : rd b (i + 1) = 39 ∨ rd b (i + 1) = 92) (h : Uq b (i + 2) (out ++ [rd b (i + 1)]) t p e) : Uq b i out t p e
  | nosign {i : Int} {out : List Int} (h1 : i + 1 < b.length) (h2 : rd b i = 92) (h3 : ¬ (rd b (i + 1) = 39 ∨ rd b (i + 1) = 92)) (h4 : rd b (i + 1) ≠ 120) : Uq b i out [] (i + 1) 4
  | cut2 {i : Int} {out : List Int} (h1 : i + 1 < b.length) (h2 : rd b i = 92) (h3 : rd b (i + 1) = 120) (h4 : i + 2 = b.length) : Uq b i out [] b.length 4
  | dig1 {i : Int} {out : List Int} (h1 : i + 2 < b.length) (h2 : rd b i = 92) (h3 : rd b (i + 1) = 120) (h4 : word_digit.val (rd b (i + 2)) < 0) : Uq b i out [] (i + 2) 4
  | cut3 {i : Int} {out : List Int} (h1 : i + 2 < b.length) (h2 : rd b i = 92) (h3 : rd b (i + 1) = 120) (h4 : ¬ word_digit.val (rd b (i + 2)) < 0) (h5 : i + 3 = b.length) : Uq b i out [] b.length 4
  | dig2 {i : Int} {out : List Int} (h1 : i + 3 < b.length) (h2 : rd b i = 92) (h3 : rd b (i + 1) = 120) (h4 : ¬ word_digit.val (rd b (i + 2)) < 0) (h5 : word_digit.val (rd b (i + 3)) < 0) : Uq b i out [] (i + 3) 4
  | bad {i x : Int} {out : List Int} (h1 : i + 3 < b.length) (h2 : rd b i = 92) (h3 : rd b (i + 1) = 120) (h4 : ¬ word_digit.val (rd b (i + 2)) < 0) (h5 : ¬ word_digit.val (rd b (i + 3)) < 0)
      (hx : x = 16 * word_digit.val (rd b (i + 2)) + word_digit.val (rd b (i + 3))) (h6 : 32 ≤ x ∧ x ≤ 126) : Uq b i out [] i 4
  | hex {i x : Int} {out t : List Int} {p e : Int} (h1 : i + 3 < b.length) (h2 : rd b i = 92) (h3 : rd b (i + 1) = 120) (h4 : ¬ word_digit.val (rd b (i + 2)) < 0) (h5 : ¬ word_digit.val (rd b (i + 3)) < 0)
      (hx : x = 16 * word_digit.val (rd b (i + 2)) + word_digit.val (rd b (i + 3))) (h6 : ¬ (32 ≤ x ∧ x ≤ 126)) (h : Uq b (i + 4) (out ++ [x]) t p e) : Uq b i out t p e
theorem Uq.all (b : List Int) : ∀ (m : Nat) (i : Int) (out : List Int), 0 ≤ i → i ≤ b.length → (b.length : Int) - i ≤ m → ∃ t p e, Uq b i out t p e := by
  intro m
  induction m using Nat.strongRecOn with
  | _ m ih =>
    intro i out h0 h1 hm
    by_cases c1 : i = b.length
    · exact ⟨_, _, _, .ends c1⟩
    have hm0 : 0 < m := by omega
    by_cases c2 : rd b i = 39
    · by_cases c3 : 256 < out.length
      · exact ⟨_, _, _, .long (by omega) c2 c3⟩
      · exact ⟨_, _, _, .close (by omega) c2 c3⟩
    by_cases c3 : rd b i = 92
    · by_cases d1 : i + 1 = b.length
      · exact ⟨_, _, _, .cut1 (by omega) c3 d1⟩
      by_cases d2 : rd b (i + 1) = 39 ∨ rd b (i + 1) = 92
      · obtain ⟨t, p, e, h⟩ := ih (m - 1) (by omega) (i + 2) (out ++ [rd b (i + 1)]) (by omega) (by omega) (by omega)
        exact ⟨t, p, e, .sign (by omega) c3 d2 h⟩
      by_cases d3 : rd b (i + 1) = 120
      · by_cases d4 : i + 2 = b.length
        · exact ⟨_, _, _, .cut2 (by omega) c3 d3 d4⟩
        by_cases d5 : word_digit.val (rd b (i + 2)) < 0
        · exact ⟨_, _, _, .dig1 (by omega) c3 d3 d5⟩
        by_cases d6 : i + 3 = b.length
        · exact ⟨_, _, _, .cut3 (by omega) c3 d3 d5 d6⟩
        by_cases d7 : word_digit.val (rd b (i + 3)) < 0
        · exact ⟨_, _, _, .dig2 (by omega) c3 d3 d5 d7⟩
        by_cases d8 : 32 ≤ 16 * word_digit.val (rd b (i + 2)) + word_digit.val (rd b (i + 3)) ∧ 16 * word_digit.val (rd b (i + 2)) + word_digit.val (rd b (i + 3)) ≤ 126
        · exact ⟨_, _, _, .bad (by omega) c3 d3 d5 d7 rfl d8⟩
        · obtain ⟨t, p, e, h⟩ := ih (m - 1) (by omega) (i + 4) (out ++ [16 * word_digit.val (rd b (i + 2)) + word_digit.val (rd b (i + 3))]) (by omega) (by omega) (by omega)
          exact ⟨t, p, e, .hex (by omega) c3 d3 d5 d7 rfl d8 h⟩
      · exact ⟨_, _, _, .nosign (by omega) c3 d2 d3⟩
    by_cases c4 : 32 ≤ rd b i ∧ rd b i ≤ 126
    · obtain ⟨t, p, e, h⟩ := ih (m - 1) (by omega) (i + 1) (out ++ [rd b i]) (by omega) (by omega) (by omega)
      exact ⟨t, p, e, .plain (by omega) c2 c3 c4 h⟩
    · exact ⟨_, _, _, .odd (by omega) c2 c3 c4⟩

/-! ### the program's reader -/
section
variable {s : ByteArray} {b : List Int} {i : Int} {k : Nat}
theorem hex_f (hs : bytesOf s = b) (hz : s.size ≤ 140737488353000) (h0 : 0 ≤ i) : word_reader_hex.f s i =
    if (b.length : Int) ≤ i then some (0, false, s, i) else if word_digit.val (rd b i) < 0 then some (0, false, s, i) else
    if (b.length : Int) ≤ i + 1 then some (0, false, s, i + 1) else if word_digit.val (rd b (i + 1)) < 0 then some (0, false, s, i + 1) else
    some (16 * word_digit.val (rd b i) + word_digit.val (rd b (i + 1)), true, s, i + 2) := by
  have hl : s.size = b.length := by rw [← hs, bytesOf_length]
  unfold word_reader_hex.f
  rw [if_pos ⟨h0, by omega⟩]
  simp only [word_reader_hex.go, bt_rd, hs, hl]
  rw [show (16 : Int) * 0 + word_digit.val (rd b i) = word_digit.val (rd b i) from by omega, show i + 1 + 1 = i + 2 from by omega]
theorem done_f (hs : bytesOf s = b) : word_reader_done.f s i = some (decide (i ≥ (b.length : Int)), s, i) := by
  unfold word_reader_done.f; rw [← bytesOf_length s, hs]
theorem esc_f (hs : bytesOf s = b) (hz : s.size ≤ 140737488353000) (h0 : 1 ≤ i) (hi : i ≤ b.length) : word_reader_escaped.f (k + 1) s i =
    if (b.length : Int) ≤ i then some (0, false, s, i) else if rd b i = 39 ∨ rd b i = 92 then some (rd b i, true, s, i + 1) else
    if rd b i = 120 then (word_reader_hex.f s (i + 1)).bind fun r => (if r.2.1 = true then (if 32 ≤ r.1 ∧ r.1 ≤ 126 then some (0, false, r.2.2.1, i - 1) else some (r.1, r.2.1, r.2.2.1, r.2.2.2)) else some (r.1, r.2.1, r.2.2.1, r.2.2.2))
    else some (0, false, s, i) := by
  have hl : s.size = b.length := by rw [← hs, bytesOf_length]
  unfold word_reader_escaped.f
  rw [done_f hs, Option.bind_some]
  by_cases c1 : i ≥ (b.length : Int)
  · rw [decide_eq_true c1, if_pos rfl, if_pos c1]
  · rw [decide_eq_false c1, if_neg (by simp), if_neg c1]
    dsimp only
    rw [if_pos (by omega), if_pos (by omega), bt_rd, hs, q_wrap (by omega) (by omega)]
    have e39 : ∀ x : Bool, word_reader_escaped.j0 (k + 1) (i - 1) (rd b i) x s i = if x = true then some (rd b i, true, s, i + 1) else if rd b i = 120 then (word_reader_hex.f s (i + 1)).bind fun r => (if r.2.1 = true then (if 32 ≤ r.1 ∧ r.1 ≤ 126 then some (0, false, r.2.2.1, i - 1) else some (r.1, r.2.1, r.2.2.1, r.2.2.2)) else some (r.1, r.2.1, r.2.2.1, r.2.2.2))
    else some (0, false, s, i) := by
      intro x
      rw [word_reader_escaped.j0, q_wrap (n := i + 1) (by omega) (by omega)]
      simp only [plain_f, Option.bind_some, decide_eq_true_eq]
    by_cases c2 : rd b i = 39
    · rw [if_pos c2, if_pos (.inl c2), e39, if_pos rfl]
    · rw [if_neg c2, e39]
      by_cases c3 : rd b i = 92
      · rw [beq_iff_eq.mpr c3, if_pos rfl, if_pos (show rd b i = 39 ∨ rd b i = 92 from .inr c3)]
      · rw [show (rd b i == 92) = false from beq_eq_false_iff_ne.mpr c3, if_neg (by decide), if_neg (show ¬ (rd b i = 39 ∨ rd b i = 92) from by simp [c2, c3])]
theorem next_f (hs : bytesOf s = b) (hz : s.size ≤ 140737488353000) (h0 : 0 ≤ i) (hi : i ≤ b.length) : word_reader_next.f (k + 1) s i =
    if (b.length : Int) ≤ i then some (0, false, false, s, i) else if rd b i = 39 then some (0, false, true, s, i + 1) else
    if rd b i = 92 then (word_reader_escaped.f (k + 1) s (i + 1)).bind fun r => some (r.1, r.2.1, false, r.2.2.1, r.2.2.2) else
    if 32 ≤ rd b i ∧ rd b i ≤ 126 then some (rd b i, true, false, s, i + 1) else some (0, false, false, s, i) := by
  have hl : s.size = b.length := by rw [← hs, bytesOf_length]
  unfold word_reader_next.f
  rw [done_f hs, Option.bind_some]
  by_cases c1 : i ≥ (b.length : Int)
  · rw [decide_eq_true c1, if_pos rfl, if_pos c1]
  · rw [decide_eq_false c1, if_neg (by simp), if_neg c1]
    dsimp only
    rw [if_pos (by omega), if_pos (by omega), bt_rd, hs, q_wrap (by omega) (by omega)]
    simp only [plain_f, Option.bind_some, decide_eq_true_eq]
end
theorem l0_next {K : Nat} {out : List Int} {s s2 : ByteArray} {i j c : Int} {ok en : Bool} (hn : word_reader_next.f (K + 1) s i = some (c, ok, en, s2, j)) : word_Unquote.l0 (K + 2) out s i =
    if en = true then (if 256 < out.length then some (strOfNums [], 0, 2) else some (strOfNums out, j, 0)) else if ok = true then (if out.length < 140737488355328 then word_Unquote.l0 K (out ++ [c]) s2 j else none) else some (strOfNums [], j, 4) := by
  rw [word_Unquote.l0, hn, Option.bind_some]
  dsimp only
  cases en with
  | true =>
    rw [if_pos rfl, if_pos rfl, word_Unquote.j2]
    by_cases h : (out.length : Int) > 256
    · rw [decide_eq_true h, if_pos rfl, if_pos (by omega)]; rfl
    · rw [decide_eq_false h, if_neg (by decide), if_pos rfl, if_neg (by omega)]
  | false =>
    rw [if_neg (by decide), if_neg (by decide), word_Unquote.j2, if_neg (by decide), if_neg (by decide)]
    rfl
theorem word_uq {b : List Int} {i : Int} {out t : List Int} {p e : Int} (h : Uq b i out t p e) : ∀ s : ByteArray, bytesOf s = b → s.size ≤ 140737488353000 → 0 ≤ i → (out.length : Int) ≤ i → ∀ K : Nat, 4 * ((b.length : Int) - i) + 40 ≤ K →
    word_Unquote.l0 K out s i = some (strOfNums t, p, e) := by
  induction h with
  | @ends i out h1 =>
    intro s hs hz h0 ho K hK
    obtain ⟨K, rfl⟩ : ∃ n, K = n + 2 := ⟨K - 2, by omega⟩
    have hn := next_f (k := K) hs hz h0 (by omega)
    rw [if_pos (by omega)] at hn
    rw [l0_next hn, if_neg (by simp), if_neg (by simp), h1]
  | @long i out h1 h2 h3 =>
    intro s hs hz h0 ho K hK
    obtain ⟨K, rfl⟩ : ∃ n, K = n + 2 := ⟨K - 2, by omega⟩
    have hn := next_f (k := K) hs hz h0 (by omega)
    rw [if_neg (by omega), if_pos h2] at hn
    rw [l0_next hn, if_pos rfl, if_pos h3]
  | @close i out h1 h2 h3 =>
    intro s hs hz h0 ho K hK
    obtain ⟨K, rfl⟩ : ∃ n, K = n + 2 := ⟨K - 2, by omega⟩
    have hn := next_f (k := K) hs hz h0 (by omega)
    rw [if_neg (by omega), if_pos h2] at hn
    rw [l0_next hn, if_pos rfl, if_neg h3]
  | @plain i out t p e h1 h2 h3 h4 h ih =>
    intro s hs hz h0 ho K hK
    have hl : s.size = b.length := by rw [← hs, bytesOf_length]
    obtain ⟨K, rfl⟩ : ∃ n, K = n + 2 := ⟨K - 2, by omega⟩
    have hn := next_f (k := K) hs hz h0 (by omega)
    rw [if_neg (by omega), if_neg h2, if_neg h3, if_pos h4] at hn
    rw [l0_next hn, if_neg (by decide), if_pos rfl, if_pos (by omega)]
    exact ih s hs hz (by omega) (by simp; omega) K (by omega)
  | @odd i out h1 h2 h3 h4 =>
    intro s hs hz h0 ho K hK
    obtain ⟨K, rfl⟩ : ∃ n, K = n + 2 := ⟨K - 2, by omega⟩
    have hn := next_f (k := K) hs hz h0 (by omega)
    rw [if_neg (by omega), if_neg h2, if_neg h3, if_neg h4] at hn
    rw [l0_next hn, if_neg (by simp), if_neg (by simp)]
  | @cut1 i out h1 h2 h3 =>
    intro s hs hz h0 ho K hK
    obtain ⟨K, rfl⟩ : ∃ n, K = n + 2 := ⟨K - 2, by omega⟩
    have hn := next_f (k := K) hs hz h0 (by omega)
    rw [if_neg (by omega), if_neg (by omega), if_pos h2, esc_f hs hz (by omega) (by omega), if_pos (by omega), Option.bind_some] at hn
    rw [l0_next hn, if_neg (by simp), if_neg (by simp), h3]
  | @sign i out t p e h1 h2 h3 h ih =>
    intro s hs hz h0 ho K hK
    have hl : s.size = b.length := by rw [← hs, bytesOf_length]
    obtain ⟨K, rfl⟩ : ∃ n, K = n + 2 := ⟨K - 2, by omega⟩
    have hn := next_f (k := K) hs hz h0 (by omega)
    rw [if_neg (by omega), if_neg (by omega), if_pos h2, esc_f hs hz (by omega) (by omega), if_neg (by omega), if_pos h3, Option.bind_some] at hn
    rw [l0_next hn, if_neg (by decide), if_pos rfl, if_pos (by omega)]
    dsimp only
    rw [show i + 1 + 1 = i + 2 from by omega]
    exact ih s hs hz (by omega) (by simp; omega) K (by omega)
  | @nosign i out h1 h2 h3 h4 =>
    intro s hs hz h0 ho K hK
    obtain ⟨K, rfl⟩ : ∃ n, K = n + 2 := ⟨K - 2, by omega⟩
    have hn := next_f (k := K) hs hz h0 (by omega)
    rw [if_neg (by omega), if_neg (by omega), if_pos h2, esc_f hs hz (by omega) (by omega), if_neg (by omega), if_neg h3, if_neg h4, Option.bind_some] at hn
    rw [l0_next hn, if_neg (by simp), if_neg (by simp)]
  | @cut2 i out h1 h2 h3 h4 =>
    intro s hs hz h0 ho K hK
    obtain ⟨K, rfl⟩ : ∃ n, K = n + 2 := ⟨K - 2, by omega⟩
    have hn := next_f (k := K) hs hz h0 (by omega)
    rw [if_neg (by omega), if_neg (by omega), if_pos h2, esc_f hs hz (by omega) (by omega), if_neg (by omega), if_neg (by omega), if_pos h3, show i + 1 + 1 = i + 2 from by omega, hex_f hs hz (by omega), if_pos (by omega)] at hn
    simp only [Option.bind_some] at hn
    rw [if_neg (by simp), Option.bind_some] at hn
    rw [l0_next hn, if_neg (by simp), if_neg (by simp), h4]
  | @dig1 i out h1 h2 h3 h4 =>
    intro s hs hz h0 ho K hK
    obtain ⟨K, rfl⟩ : ∃ n, K = n + 2 := ⟨K - 2, by omega⟩
    have hn := next_f (k := K) hs hz h0 (by omega)
    rw [if_neg (by omega), if_neg (by omega), if_pos h2, esc_f hs hz (by omega) (by omega), if_neg (by omega), if_neg (by omega), if_pos h3, show i + 1 + 1 = i + 2 from by omega, hex_f hs hz (by omega), if_neg (by omega), if_pos h4] at hn
    simp only [Option.bind_some] at hn
    rw [if_neg (by simp), Option.bind_some] at hn
    rw [l0_next hn, if_neg (by simp), if_neg (by simp)]
  | @cut3 i out h1 h2 h3 h4 h5 =>
    intro s hs hz h0 ho K hK
    obtain ⟨K, rfl⟩ : ∃ n, K = n + 2 := ⟨K - 2, by omega⟩
    have hn := next_f (k := K) hs hz h0 (by omega)
    rw [if_neg (by omega), if_neg (by omega), if_pos h2, esc_f hs hz (by omega) (by omega), if_neg (by omega), if_neg (by omega), if_pos h3, show i + 1 + 1 = i + 2 from by omega, hex_f hs hz (by omega), if_neg (by omega), if_neg h4, show i + 2 + 1 = i + 3 from by omega, if_pos (by omega)] at hn
    simp only [Option.bind_some] at hn
    rw [if_neg (by simp), Option.bind_some] at hn
    rw [l0_next hn, if_neg (by simp), if_neg (by simp), h5]
  | @dig2 i out h1 h2 h3 h4 h5 =>
    intro s hs hz h0 ho K hK
    obtain ⟨K, rfl⟩ : ∃ n, K = n + 2 := ⟨K - 2, by omega⟩
    have hn := next_f (k := K) hs hz h0 (by omega)
    rw [if_neg (by omega), if_neg (by omega), if_pos h2, esc_f hs hz (by omega) (by omega), if_neg (by omega), if_neg (by omega), if_pos h3, show i + 1 + 1 = i + 2 from by omega, hex_f hs hz (by omega), if_neg (by omega), if_neg h4, show i + 2 + 1 = i + 3 from by omega, if_neg (by omega), if_pos h5] at hn
    simp only [Option.bind_some] at hn
    rw [if_neg (by simp), Option.bind_some] at hn
    rw [l0_next hn, if_neg (by simp), if_neg (by simp)]
  | @bad i x out h1 h2 h3 h4 h5 hx h6 =>
    intro s hs hz h0 ho K hK
    obtain ⟨K, rfl⟩ : ∃ n, K = n + 2 := ⟨K - 2, by omega⟩
    have hn := next_f (k := K) hs hz h0 (by omega)
    rw [if_neg (by omega), if_neg (by omega), if_pos h2, esc_f hs hz (by omega) (by omega), if_neg (by omega), if_neg (by omega), if_pos h3, show i + 1 + 1 = i + 2 from by omega, hex_f hs hz (by omega), if_neg (by omega), if_neg h4, show i + 2 + 1 = i + 3 from by omega, if_neg (by omega), if_neg h5, ← hx] at hn
    simp only [Option.bind_some] at hn
    rw [if_pos trivial, if_pos h6, Option.bind_some] at hn
    rw [l0_next hn, if_neg (by simp), if_neg (by simp)]
    dsimp only
    rw [show i + 1 - 1 = i from by omega]
  | @hex i x out t p e h1 h2 h3 h4 h5 hx h6 h ih =>
    intro s hs hz h0 ho K hK
    have hl : s.size = b.length := by rw [← hs, bytesOf_length]
    obtain ⟨K, rfl⟩ : ∃ n, K = n + 2 := ⟨K - 2, by omega⟩
    have hn := next_f (k := K) hs hz h0 (by omega)
    rw [if_neg (by omega), if_neg (by omega), if_pos h2, esc_f hs hz (by omega) (by omega), if_neg (by omega), if_neg (by omega), if_pos h3, show i + 1 + 1 = i + 2 from by omega, hex_f hs hz (by omega), if_neg (by omega), if_neg h4, show i + 2 + 1 = i + 3 from by omega, if_neg (by omega), if_neg h5, ← hx] at hn
    simp only [Option.bind_some] at hn
    rw [if_pos trivial, if_neg h6, Option.bind_some] at hn
    rw [l0_next hn, if_neg (by decide), if_pos rfl, if_pos (by omega)]
    dsimp only
    rw [show i + 2 + 2 = i + 4 from by omega]
    exact ih s hs hz (by omega) (by simp; omega) K (by omega)

theorem digits_at (j : Nat) (hj : j < 16) : bt (⟨#[48, 49, 50, 51, 52, 53, 54, 55, 56, 57, 97, 98, 99, 100, 101, 102]⟩ : ByteArray) (j : Int) = word_digit.tab j := by
  have h : j = 0 ∨ j = 1 ∨ j = 2 ∨ j = 3 ∨ j = 4 ∨ j = 5 ∨ j = 6 ∨ j = 7 ∨ j = 8 ∨ j = 9 ∨ j = 10 ∨ j = 11 ∨ j = 12 ∨ j = 13 ∨ j = 14 ∨ j = 15 := by omega
  rcases h with rfl | rfl | rfl | rfl | rfl | rfl | rfl | rfl | rfl | rfl | rfl | rfl | rfl | rfl | rfl | rfl <;> decide
theorem ref_hex_l0 (c : Int) (n : Nat) : ∀ (j k : Nat), j + n = 16 → n < k → (∀ i : Nat, i < j → word_digit.tab i ≠ c) → haruspexref05_hex.l0 k c (j : Int) = some (word_digit.val c) := by
  induction n with
  | zero =>
    intro j k hj hk hm
    obtain ⟨k, rfl⟩ : ∃ n, k = n + 1 := ⟨k - 1, by omega⟩
    rw [haruspexref05_hex.l0, if_neg (by omega), word_digit.val_miss c (fun i hi => hm i (by omega))]
  | succ n ih =>
    intro j k hj hk hm
    obtain ⟨k, rfl⟩ : ∃ n, k = n + 1 := ⟨k - 1, by omega⟩
    rw [haruspexref05_hex.l0, if_pos (by omega), if_pos (by omega), digits_at j (by omega)]
    by_cases h : word_digit.tab j = c
    · rw [if_pos h, word_digit.val_hit c j (by omega) h]
    · rw [if_neg h, q_wrap (by omega) (by omega), show (j : Int) + 1 = ((j + 1 : Nat) : Int) from by omega]
      refine ih (j + 1) k (by omega) (by omega) (fun i hi => ?_)
      rcases Nat.lt_or_ge i j with h1 | h1
      · exact hm i h1
      · rw [show i = j from by omega]; exact h
theorem ref_hex_f (c : Int) (k : Nat) (hk : 17 ≤ k) : haruspexref05_hex.f k c = some (word_digit.val c) := by
  unfold haruspexref05_hex.f
  exact ref_hex_l0 c 16 0 k rfl (by omega) (fun i hi => absurd hi (Nat.not_lt_zero _))
section
variable {s : ByteArray} {b : List Int} {i : Int} {k : Nat} {out : List Int}
theorem ref_l0 (hs : bytesOf s = b) (hz : s.size ≤ 140737488353000) (h0 : 0 ≤ i) (hi : i ≤ b.length) (ho : (out.length : Int) ≤ i) : haruspexref05_Unquote.l0 (k + 1) s out i =
    if (b.length : Int) ≤ i then some (strOfNums [], (b.length : Int), 4) else if rd b i = 39 then (if 256 < out.length then some (strOfNums [], 0, 2) else some (strOfNums out, i + 1, 0)) else
    if 32 ≤ rd b i ∧ rd b i ≤ 126 then (if rd b i = 92 then (if (b.length : Int) ≤ i + 1 then some (strOfNums [], (b.length : Int), 4) else haruspexref05_Unquote.j2 k s out i (decide (rd b (i + 1) = 39 ∨ rd b (i + 1) = 92))) else haruspexref05_Unquote.l0 k s (out ++ [rd b i]) (i + 1))
    else some (strOfNums [], i, 4) := by
  have hl : s.size = b.length := by rw [← hs, bytesOf_length]
  rw [haruspexref05_Unquote.l0]
  by_cases c1 : (b.length : Int) ≤ i
  · rw [if_neg (by omega), if_pos c1, hl]; rfl
  rw [if_pos (by omega), if_pos h0, if_neg c1, bt_rd, hs]
  by_cases c2 : rd b i = 39
  · rw [if_pos c2, if_pos c2, q_wrap (n := i + 1) (by omega) (by omega)]
    by_cases c3 : 256 < out.length
    · rw [if_pos c3, if_pos (by omega)]; rfl
    · rw [if_neg c3, if_neg (by omega)]
  rw [if_neg c2, if_neg c2, ref_plain_f, Option.bind_some]
  by_cases c3 : 32 ≤ rd b i ∧ rd b i ≤ 126
  · rw [decide_eq_true c3, if_pos rfl, if_pos c3, q_wrap (n := i + 1) (by omega) (by omega)]
    by_cases c4 : rd b i = 92
    · rw [if_pos c4, if_pos c4]
      by_cases c5 : (b.length : Int) ≤ i + 1
      · rw [if_pos (by omega), if_pos c5, hl]; rfl
      · rw [if_neg (by omega), if_neg c5, if_pos (by omega), if_pos (by omega), bt_rd, hs]
        by_cases c6 : rd b (i + 1) = 39
        · rw [if_pos c6, decide_eq_true (show rd b (i + 1) = 39 ∨ rd b (i + 1) = 92 from .inl c6)]
        · rw [if_neg c6]
          congr 1
          by_cases c7 : rd b (i + 1) = 92
          · rw [beq_iff_eq.mpr c7, decide_eq_true (show rd b (i + 1) = 39 ∨ rd b (i + 1) = 92 from .inr c7)]
          · rw [beq_eq_false_iff_ne.mpr c7, decide_eq_false (show ¬ (rd b (i + 1) = 39 ∨ rd b (i + 1) = 92) from by simp [c6, c7])]
    · rw [if_neg c4, if_neg c4, if_pos (by omega)]
  · rw [decide_eq_false c3, if_neg (by decide), if_neg c3]; rfl
theorem ref_j2 (hs : bytesOf s = b) (hz : s.size ≤ 140737488353000) (h0 : 0 ≤ i) (hi : i + 1 < b.length) (ho : (out.length : Int) ≤ i) (x : Bool) : haruspexref05_Unquote.j2 (k + 1) s out i x =
    if x = true then haruspexref05_Unquote.l0 k s (out ++ [rd b (i + 1)]) (i + 2) else if rd b (i + 1) = 120 then haruspexref05_Unquote.l1 k s out i (i + 2) else some (strOfNums [], i + 1, 4) := by
  have hl : s.size = b.length := by rw [← hs, bytesOf_length]
  rw [haruspexref05_Unquote.j2, q_wrap (n := i + 1) (by omega) (by omega), q_wrap (n := i + 2) (by omega) (by omega), bt_rd, hs]
  by_cases c : x = true
  · rw [if_pos c, if_pos (by omega), if_pos (by omega), if_pos (by omega), if_pos c]
  · rw [if_neg c, if_pos (by omega), if_pos (by omega), if_neg c]
    rfl
theorem ref_l1a (hs : bytesOf s = b) (hz : s.size ≤ 140737488353000) (h0 : 0 ≤ i) (hi : i < b.length) (hk : 17 ≤ k) (j : Int) (hj0 : i + 2 ≤ j) (hj1 : j < i + 4) : haruspexref05_Unquote.l1 (k + 1) s out i j =
    if (b.length : Int) ≤ j then some (strOfNums [], (b.length : Int), 4) else if word_digit.val (rd b j) < 0 then some (strOfNums [], j, 4) else haruspexref05_Unquote.l1 k s out i (j + 1) := by
  have hl : s.size = b.length := by rw [← hs, bytesOf_length]
  rw [haruspexref05_Unquote.l1, q_wrap (n := i + 4) (by omega) (by omega), if_pos hj1]
  by_cases c : (b.length : Int) ≤ j
  · rw [if_pos (by omega), if_pos c, hl]; rfl
  · rw [if_neg (by omega), if_pos (by omega), if_pos (by omega), if_neg c, bt_rd, hs, ref_hex_f _ _ hk, Option.bind_some, q_wrap (n := j + 1) (by omega) (by omega)]
    rfl
theorem ref_l1b (hs : bytesOf s = b) (hz : s.size ≤ 140737488353000) (h0 : 0 ≤ i) (hi : i + 3 < b.length) (ho : (out.length : Int) ≤ i) (hk : 17 ≤ k) (h4 : ¬ word_digit.val (rd b (i + 2)) < 0) (h5 : ¬ word_digit.val (rd b (i + 3)) < 0) (x : Int)
    (hx : x = 16 * word_digit.val (rd b (i + 2)) + word_digit.val (rd b (i + 3))) : haruspexref05_Unquote.l1 (k + 1) s out i (i + 4) =
    if 32 ≤ x ∧ x ≤ 126 then some (strOfNums [], i, 4) else haruspexref05_Unquote.l0 k s (out ++ [x]) (i + 4) := by
  have hl : s.size = b.length := by rw [← hs, bytesOf_length]
  have v1 := val_range (rd b (i + 2))
  have v2 := val_range (rd b (i + 3))
  rw [haruspexref05_Unquote.l1, q_wrap (n := i + 4) (by omega) (by omega), q_wrap (n := i + 2) (by omega) (by omega), q_wrap (n := i + 3) (by omega) (by omega), if_neg (by omega), if_pos (by omega), if_pos (by omega), bt_rd, bt_rd, hs, ref_hex_f _ _ hk, ref_hex_f _ _ hk,
    Option.bind_some, if_pos (by omega), if_pos (by omega), Option.bind_some, q_wrap (n := 16 * word_digit.val (rd b (i + 2))) (by omega) (by omega), ← hx, q_wrap (n := x) (by omega) (by omega), show x % 256 = x from by omega, ref_plain_f, Option.bind_some]
  by_cases c : 32 ≤ x ∧ x ≤ 126
  · rw [decide_eq_true c, if_pos rfl, if_pos c]; rfl
  · rw [decide_eq_false c, if_neg (by decide), if_neg c, if_pos (by omega)]
end
theorem ref_uq {b : List Int} {i : Int} {out t : List Int} {p e : Int} (h : Uq b i out t p e) : ∀ s : ByteArray, bytesOf s = b → s.size ≤ 140737488353000 → 0 ≤ i → (out.length : Int) ≤ i → ∀ K : Nat, 4 * ((b.length : Int) - i) + 40 ≤ K →
    haruspexref05_Unquote.l0 K s out i = some (strOfNums t, p, e) := by
  induction h with
  | @ends i out h1 =>
    intro s hs hz h0 ho K hK
    obtain ⟨K, rfl⟩ : ∃ n, K = n + 1 := ⟨K - 1, by omega⟩
    rw [ref_l0 hs hz h0 (by omega) ho, if_pos (by omega)]
  | @long i out h1 h2 h3 =>
    intro s hs hz h0 ho K hK
    obtain ⟨K, rfl⟩ : ∃ n, K = n + 1 := ⟨K - 1, by omega⟩
    rw [ref_l0 hs hz h0 (by omega) ho, if_neg (by omega), if_pos h2, if_pos h3]
  | @close i out h1 h2 h3 =>
    intro s hs hz h0 ho K hK
    obtain ⟨K, rfl⟩ : ∃ n, K = n + 1 := ⟨K - 1, by omega⟩
    rw [ref_l0 hs hz h0 (by omega) ho, if_neg (by omega), if_pos h2, if_neg h3]
  | @plain i out t p e h1 h2 h3 h4 h ih =>
    intro s hs hz h0 ho K hK
    obtain ⟨K, rfl⟩ : ∃ n, K = n + 1 := ⟨K - 1, by omega⟩
    rw [ref_l0 hs hz h0 (by omega) ho, if_neg (by omega), if_neg h2, if_pos h4, if_neg h3]
    exact ih s hs hz (by omega) (by simp; omega) K (by omega)
  | @odd i out h1 h2 h3 h4 =>
    intro s hs hz h0 ho K hK
    obtain ⟨K, rfl⟩ : ∃ n, K = n + 1 := ⟨K - 1, by omega⟩
    rw [ref_l0 hs hz h0 (by omega) ho, if_neg (by omega), if_neg h2, if_neg h4]
  | @cut1 i out h1 h2 h3 =>
    intro s hs hz h0 ho K hK
    obtain ⟨K, rfl⟩ : ∃ n, K = n + 1 := ⟨K - 1, by omega⟩
    rw [ref_l0 hs hz h0 (by omega) ho, if_neg (by omega), if_neg (by omega), if_pos (by omega), if_pos h2, if_pos (by omega)]
  | @sign i out t p e h1 h2 h3 h ih =>
    intro s hs hz h0 ho K hK
    obtain ⟨K, rfl⟩ : ∃ n, K = n + 2 := ⟨K - 2, by omega⟩
    rw [ref_l0 hs hz h0 (by omega) ho, if_neg (by omega), if_neg (by omega), if_pos (by omega), if_pos h2, if_neg (by omega), decide_eq_true h3, ref_j2 hs hz h0 (by omega) ho, if_pos rfl]
    exact ih s hs hz (by omega) (by simp; omega) K (by omega)
  | @nosign i out h1 h2 h3 h4 =>
    intro s hs hz h0 ho K hK
    obtain ⟨K, rfl⟩ : ∃ n, K = n + 2 := ⟨K - 2, by omega⟩
    rw [ref_l0 hs hz h0 (by omega) ho, if_neg (by omega), if_neg (by omega), if_pos (by omega), if_pos h2, if_neg (by omega), decide_eq_false h3, ref_j2 hs hz h0 (by omega) ho, if_neg (by decide), if_neg h4]
  | @cut2 i out h1 h2 h3 h4 =>
    intro s hs hz h0 ho K hK
    obtain ⟨K, rfl⟩ : ∃ n, K = n + 3 := ⟨K - 3, by omega⟩
    rw [ref_l0 hs hz h0 (by omega) ho, if_neg (by omega), if_neg (by omega), if_pos (by omega), if_pos h2, if_neg (by omega), decide_eq_false (by omega), ref_j2 hs hz h0 (by omega) ho, if_neg (by decide), if_pos h3, ref_l1a hs hz h0 (by omega) (by omega) _ (by omega) (by omega), if_pos (by omega)]
  | @dig1 i out h1 h2 h3 h4 =>
    intro s hs hz h0 ho K hK
    obtain ⟨K, rfl⟩ : ∃ n, K = n + 3 := ⟨K - 3, by omega⟩
    rw [ref_l0 hs hz h0 (by omega) ho, if_neg (by omega), if_neg (by omega), if_pos (by omega), if_pos h2, if_neg (by omega), decide_eq_false (by omega), ref_j2 hs hz h0 (by omega) ho, if_neg (by decide), if_pos h3, ref_l1a hs hz h0 (by omega) (by omega) _ (by omega) (by omega), if_neg (by omega), if_pos h4]
  | @cut3 i out h1 h2 h3 h4 h5 =>
    intro s hs hz h0 ho K hK
    obtain ⟨K, rfl⟩ : ∃ n, K = n + 4 := ⟨K - 4, by omega⟩
    rw [ref_l0 hs hz h0 (by omega) ho, if_neg (by omega), if_neg (by omega), if_pos (by omega), if_pos h2, if_neg (by omega), decide_eq_false (by omega), ref_j2 hs hz h0 (by omega) ho, if_neg (by decide), if_pos h3, ref_l1a hs hz h0 (by omega) (by omega) _ (by omega) (by omega), if_neg (by omega), if_neg h4,
      ref_l1a hs hz h0 (by omega) (by omega) _ (by omega) (by omega), if_pos (by omega)]
  | @dig2 i out h1 h2 h3 h4 h5 =>
    intro s hs hz h0 ho K hK
    obtain ⟨K, rfl⟩ : ∃ n, K = n + 4 := ⟨K - 4, by omega⟩
    rw [ref_l0 hs hz h0 (by omega) ho, if_neg (by omega), if_neg (by omega), if_pos (by omega), if_pos h2, if_neg (by omega), decide_eq_false (by omega), ref_j2 hs hz h0 (by omega) ho, if_neg (by decide), if_pos h3, ref_l1a hs hz h0 (by omega) (by omega) _ (by omega) (by omega), if_neg (by omega), if_neg h4,
      ref_l1a hs hz h0 (by omega) (by omega) _ (by omega) (by omega), show i + 2 + 1 = i + 3 from by omega, if_neg (by omega), if_pos h5]
  | @bad i x out h1 h2 h3 h4 h5 hx h6 =>
    intro s hs hz h0 ho K hK
    obtain ⟨K, rfl⟩ : ∃ n, K = n + 5 := ⟨K - 5, by omega⟩
    rw [ref_l0 hs hz h0 (by omega) ho, if_neg (by omega), if_neg (by omega), if_pos (by omega), if_pos h2, if_neg (by omega), decide_eq_false (by omega), ref_j2 hs hz h0 (by omega) ho, if_neg (by decide), if_pos h3, ref_l1a hs hz h0 (by omega) (by omega) _ (by omega) (by omega), if_neg (by omega), if_neg h4,
      ref_l1a hs hz h0 (by omega) (by omega) _ (by omega) (by omega), show i + 2 + 1 = i + 3 from by omega, if_neg (by omega), if_neg h5, show i + 3 + 1 = i + 4 from by omega, ref_l1b hs hz h0 h1 ho (by omega) h4 h5 x hx, if_pos h6]
  | @hex i x out t p e h1 h2 h3 h4 h5 hx h6 h ih =>
    intro s hs hz h0 ho K hK
    obtain ⟨K, rfl⟩ : ∃ n, K = n + 5 := ⟨K - 5, by omega⟩
    rw [ref_l0 hs hz h0 (by omega) ho, if_neg (by omega), if_neg (by omega), if_pos (by omega), if_pos h2, if_neg (by omega), decide_eq_false (by omega), ref_j2 hs hz h0 (by omega) ho, if_neg (by decide), if_pos h3, ref_l1a hs hz h0 (by omega) (by omega) _ (by omega) (by omega), if_neg (by omega), if_neg h4,
      ref_l1a hs hz h0 (by omega) (by omega) _ (by omega) (by omega), show i + 2 + 1 = i + 3 from by omega, if_neg (by omega), if_neg h5, show i + 3 + 1 = i + 4 from by omega, ref_l1b hs hz h0 h1 ho (by omega) h4 h5 x hx, if_neg h6]
    exact ih s hs hz (by omega) (by simp; omega) K (by omega)

/-- what unquoting comes to -/
def UqAll (b t : List Int) (p e : Int) : Prop := (¬ (0 < b.length ∧ rd b 0 = 39) ∧ t = [] ∧ p = 0 ∧ e = 4) ∨ (0 < b.length ∧ rd b 0 = 39 ∧ Uq b 1 [] t p e)
theorem UqAll.all (b : List Int) : ∃ t p e, UqAll b t p e := by
  by_cases h : 0 < b.length ∧ rd b 0 = 39
  · obtain ⟨t, p, e, hu⟩ := Uq.all b b.length 1 [] (by omega) (by omega) (by omega)
    exact ⟨t, p, e, .inr ⟨h.1, h.2, hu⟩⟩
  · exact ⟨[], 0, 4, .inl ⟨h, rfl, rfl, rfl⟩⟩
theorem word_unquote {s : ByteArray} {t : List Int} {p e : Int} (h : UqAll (bytesOf s) t p e) (hz : s.size ≤ 140737488353000) (K : Nat) (hK : 4 * s.size + 100 ≤ K) : word_Unquote.f K s = some (strOfNums t, p, e) := by
  have hl := bytesOf_length s
  obtain ⟨K, rfl⟩ : ∃ n, K = n + 1 := ⟨K - 1, by omega⟩
  unfold word_Unquote.f
  by_cases h0 : bytesOf s = []
  · rw [if_pos (toList_nil.2 h0), word_Unquote.j0, if_pos rfl]
    rcases h with ⟨_, rfl, rfl, rfl⟩ | ⟨h1, _⟩
    · rfl
    · rw [h0] at h1; simp at h1
  · rw [if_neg (fun x => h0 (toList_nil.1 x))]
    have hp : 0 < (bytesOf s).length := List.length_pos_iff.2 h0
    rw [if_pos (by omega), bt_rd, word_Unquote.j0]
    rcases h with ⟨h1, rfl, rfl, rfl⟩ | ⟨h1, h2, hu⟩
    · have : rd (bytesOf s) 0 ≠ 39 := fun x => h1 ⟨hp, x⟩
      rw [if_pos (by simpa using this)]; rfl
    · rw [if_neg (by simp [h2])]
      exact word_uq hu s rfl hz (by omega) (by simp) K (by omega)
theorem ref_unquote {s : ByteArray} {t : List Int} {p e : Int} (h : UqAll (bytesOf s) t p e) (hz : s.size ≤ 140737488353000) (K : Nat) (hK : 4 * s.size + 100 ≤ K) : haruspexref05_Unquote.f K s = some (strOfNums t, p, e) := by
  have hl := bytesOf_length s
  obtain ⟨K, rfl⟩ : ∃ n, K = n + 1 := ⟨K - 1, by omega⟩
  unfold haruspexref05_Unquote.f
  by_cases h0 : bytesOf s = []
  · rw [if_pos (toList_nil.2 h0), haruspexref05_Unquote.j0, if_pos rfl]
    rcases h with ⟨_, rfl, rfl, rfl⟩ | ⟨h1, _⟩
    · rfl
    · rw [h0] at h1; simp at h1
  · rw [if_neg (fun x => h0 (toList_nil.1 x))]
    have hp : 0 < (bytesOf s).length := List.length_pos_iff.2 h0
    rw [if_pos (by omega), bt_rd, haruspexref05_Unquote.j0]
    rcases h with ⟨h1, rfl, rfl, rfl⟩ | ⟨h1, h2, hu⟩
    · have : rd (bytesOf s) 0 ≠ 39 := fun x => h1 ⟨hp, x⟩
      rw [if_pos (by simpa using this)]; rfl
    · rw [if_neg (by simp [h2])]
      exact ref_uq hu s rfl hz (by omega) (by simp) K (by omega)
end Go.Proofs.Ytkbngfelegcplaa.Pure
