/- Plain laws of quoted texts: what the program and the document's answer say of a whole text, quoted and unquoted. -/
import Derived.Test.YtefljkgfkkdaiaaQuotedRef
set_option linter.unusedVariables false
set_option linter.unusedSimpArgs false
namespace Go.Proofs.Ytefljkgfkkdaiaa.Pure
open Go.RowKit Go.Proofs.Ytefljkgfkkdaiaa.PAll Go.Proofs.YtefljkgfkkdaiaaW.PrintWords Go.Proofs.YtefljkgfkkdaiaaW.PrintLast Go.Proofs.YtefljkgfkkdaiaaW.PrintMore Go.Proofs.YtefljkgfkkdaiaaW.HandWords

/-- what unquoting comes to -/
def UqAll (b t : List Int) (p e : Int) : Prop := (¬ (0 < b.length ∧ rd b 0 = 39) ∧ t = [] ∧ p = 0 ∧ e = 4) ∨ (0 < b.length ∧ rd b 0 = 39 ∧ Uq b 1 [] t p e)
theorem UqAll.all (b : List Int) : ∃ t p e, UqAll b t p e := by
  by_cases h : 0 < b.length ∧ rd b 0 = 39
  · obtain ⟨t, p, e, hu⟩ := Uq.all b b.length 1 [] (by omega) (by omega) (by omega)
    exact ⟨t, p, e, .inr ⟨h.1, h.2, hu⟩⟩
  · exact ⟨[], 0, 4, .inl ⟨h, rfl, rfl, rfl⟩⟩
theorem word_unquote {s : ByteArray} {t : List Int} {p e : Int} (h : UqAll (bytesOf s) t p e) (hz : s.size ≤ 140737488353000) (K : Nat) (hK : 4 * s.size + 100 ≤ K) : word_Unquote.f K s = some (strOfNums t, p, e) := by
  have hl := bytesOf_length s
  obtain ⟨K, rfl⟩ : ∃ n, K = n + 1 := ⟨K - 1, by omega⟩
  unfold word_Unquote.f
  by_cases h0 : bytesOf s = []
  · rw [if_pos (toList_nil.2 h0), word_Unquote.j0, if_pos rfl]
    rcases h with ⟨_, rfl, rfl, rfl⟩ | ⟨h1, _⟩
    · rfl
    · rw [h0] at h1; simp at h1
  · rw [if_neg (fun x => h0 (toList_nil.1 x))]
    have hp : 0 < (bytesOf s).length := List.length_pos_iff.2 h0
    rw [if_pos (by omega), bt_rd, word_Unquote.j0]
    rcases h with ⟨h1, rfl, rfl, rfl⟩ | ⟨h1, h2, hu⟩
    · have : rd (bytesOf s) 0 ≠ 39 := fun x => h1 ⟨hp, x⟩
      rw [if_pos (by simpa using this)]; rfl
    · rw [if_neg (by simp [h2])]
      exact word_uq hu s rfl hz (by omega) (by simp) K (by omega)
theorem ref_unquote {s : ByteArray} {t : List Int} {p e : Int} (h : UqAll (bytesOf s) t p e) (hz : s.size ≤ 140737488353000) (K : Nat) (hK : 4 * s.size + 100 ≤ K) : haruspexref05_Unquote.f K s = some (strOfNums t, p, e) := by
  have hl := bytesOf_length s
  obtain ⟨K, rfl⟩ : ∃ n, K = n + 1 := ⟨K - 1, by omega⟩
  unfold haruspexref05_Unquote.f
  by_cases h0 : bytesOf s = []
  · rw [if_pos (toList_nil.2 h0), haruspexref05_Unquote.j0, if_pos rfl]
    rcases h with ⟨_, rfl, rfl, rfl⟩ | ⟨h1, _⟩
    · rfl
    · rw [h0] at h1; simp at h1
  · rw [if_neg (fun x => h0 (toList_nil.1 x))]
    have hp : 0 < (bytesOf s).length := List.length_pos_iff.2 h0
    rw [if_pos (by omega), bt_rd, haruspexref05_Unquote.j0]
    rcases h with ⟨h1, rfl, rfl, rfl⟩ | ⟨h1, h2, hu⟩
    · have : rd (bytesOf s) 0 ≠ 39 := fun x => h1 ⟨hp, x⟩
      rw [if_pos (by simpa using this)]; rfl
    · rw [if_neg (by simp [h2])]
      exact ref_uq hu s rfl hz (by omega) (by simp) K (by omega)
/-! ### quoted -/
theorem tab_eq (k : Nat) : word_Quote.tab k = word_digit.tab k := rfl
theorem ref_sign_f {c : Int} (h : 0 ≤ c ∧ c < 256) (k : Nat) : haruspexref05_sign.f (k + 1) c = some (strOfNums (word_Quote.sign c)) := by
  have key : ∀ x : Bool, (c ≠ 39 ∨ x = true) → haruspexref05_sign.j0 (k + 1) c x = some (strOfNums (if x = true then [92, c] else if 32 ≤ c ∧ c ≤ 126 then [c] else [92, 120, word_Quote.tab (c / 16).toNat, word_Quote.tab (c % 16).toNat])) := by
    intro x hx
    rw [haruspexref05_sign.j0]
    by_cases c1 : x = true
    · rw [if_pos c1, if_pos c1]
    · rw [if_neg c1, if_neg c1, ref_plain_f, Option.bind_some]
      by_cases c2 : 32 ≤ c ∧ c ≤ 126
      · rw [decide_eq_true c2, if_pos rfl, if_pos c2]
      · rw [decide_eq_false c2, if_neg (by decide), if_neg c2, Int.tdiv_eq_ediv_of_nonneg h.1, Int.tmod_eq_emod_of_nonneg h.1, show c / 16 % 256 = c / 16 from by omega, if_pos (by omega), if_pos (by omega), if_pos (by omega), if_pos (by omega)]
        have e1 := digits_at (c / 16).toNat (by omega)
        have e2 := digits_at (c % 16).toNat (by omega)
        rw [show (((c / 16).toNat : Nat) : Int) = c / 16 from by omega] at e1
        rw [show (((c % 16).toNat : Nat) : Int) = c % 16 from by omega] at e2
        rw [e1, e2, tab_eq, tab_eq]
  unfold haruspexref05_sign.f word_Quote.sign
  by_cases c1 : c = 39
  · rw [if_pos c1, key true (.inr rfl), if_pos rfl, if_pos (.inl c1)]
  · rw [if_neg c1, key _ (.inl c1)]
    by_cases c2 : c = 92
    · rw [if_pos (by simpa using c2), if_pos (.inr c2)]
    · rw [if_neg (show ¬ (c == 92) = true from by simpa using c2), if_neg (show ¬ (c = 39 ∨ c = 92) from by simp [c1, c2])]
theorem ref_quote_l0 (s : ByteArray) (hs : s.size ≤ 256) (d : List Int) : ∀ (i k : Nat), (bytesOf s).drop i = d → i ≤ s.size → d.length + 1 < k →
    haruspexref05_Quote.l0 k s (strOfNums (word_Quote.to ((bytesOf s).take i))) (i : Int) = some (strOfNums (word_Quote.to (bytesOf s) ++ [39]), 0) := by
  have hl := bytesOf_length s
  induction d with
  | nil =>
    intro i k hd hi hk
    obtain ⟨k, rfl⟩ : ∃ n, k = n + 1 := ⟨k - 1, by omega⟩
    have hge : (bytesOf s).length ≤ i := List.drop_eq_nil_iff.1 hd
    have hn := word_Quote.to_len (bytesOf s)
    rw [haruspexref05_Quote.l0, if_neg (by omega), List.take_of_length_le hge, strOfNums_size, if_pos (by omega), show (⟨#[39]⟩ : ByteArray) = strOfNums [39] from rfl, strOfNums_append]
  | cons c t ih =>
    intro i k hd hi hk
    obtain ⟨k, rfl⟩ : ∃ n, k = n + 2 := ⟨k - 2, by omega⟩
    have hil : i < (bytesOf s).length := by
      rcases Nat.lt_or_ge i (bytesOf s).length with h | h
      · exact h
      · rw [List.drop_eq_nil_of_le h] at hd; cases hd
    rw [drop_rd hil] at hd
    injection hd with h1 h2
    have hb : 0 ≤ rd (bytesOf s) (i : Int) ∧ rd (bytesOf s) (i : Int) < 256 := by rw [rd_bytesOf]; have := bt_range s i; omega
    have hn := word_Quote.to_len ((bytesOf s).take i)
    have hn2 := word_Quote.sign_len (rd (bytesOf s) (i : Int))
    rw [List.length_take] at hn
    rw [haruspexref05_Quote.l0, if_pos (by omega), if_pos (by omega), bt_rd, ref_sign_f hb, Option.bind_some, strOfNums_size, strOfNums_size, if_pos (by omega), q_wrap (by omega) (by omega), strOfNums_append, ← word_Quote.to_next _ _ hil,
      show (i : Int) + 1 = ((i + 1 : Nat) : Int) from by omega]
    exact ih (i + 1) (k + 1) h2 (by omega) (by simp at hk; omega)
theorem ref_quote_f (s : ByteArray) (k : Nat) (hk : 300 ≤ k) : haruspexref05_Quote.f k s = word_Quote.f s := by
  unfold haruspexref05_Quote.f word_Quote.f
  by_cases h : (s.size : Int) > 256
  · rw [if_pos h, if_pos h]
  · rw [if_neg h, if_neg h]
    have := ref_quote_l0 s (by omega) (bytesOf s) 0 k rfl (by omega) (by rw [bytesOf_length]; omega)
    rw [← this]; rfl
end Go.Proofs.Ytefljkgfkkdaiaa.Pure
