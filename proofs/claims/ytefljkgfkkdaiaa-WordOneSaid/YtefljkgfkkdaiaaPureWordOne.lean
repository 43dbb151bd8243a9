/- WordOne: what is unquoted is quoted so again, and each of its bytes is a sign from 20 to 7E; what is refused answers no text, and a place of the text. No condition. -/
import Derived.Test.YtefljkgfkkdaiaaPureWordBack
set_option linter.unusedVariables false
namespace Go.Proofs.Ytefljkgfkkdaiaa.Pure
open Go.RowKit Go.Proofs.Ytefljkgfkkdaiaa.PAll Go.Proofs.YtefljkgfkkdaiaaW.PrintWords Go.Proofs.YtefljkgfkkdaiaaW.PrintLast

theorem tab_val (c : Int) (h : ¬ word_digit.val c < 0) : word_Quote.tab (word_digit.val c).toNat = c := by
  unfold word_digit.val at h ⊢
  unfold word_Quote.tab
  split
  · rename_i g; rw [if_pos (by omega)]; omega
  · rename_i g
    rw [if_neg g] at h
    split
    · rename_i g2; rw [if_neg (by omega)]; omega
    · rename_i g2; rw [if_neg g2] at h; omega
theorem drop_int {b : List Int} {n : Nat} (h : n < b.length) : b.drop n = rd b (n : Int) :: b.drop (n + 1) := drop_rd h
/-- what is told of a text that is unquoted without an error -/
theorem uq_one {b : List Int} {i : Int} {out t : List Int} {p e : Int} (h : Uq b i out t p e) : isBytes b → 0 ≤ i → e = 0 →
    ∃ l : List Int, t = out ++ l ∧ isBytes l ∧ t.length ≤ 256 ∧ p ≤ b.length ∧ b.drop i.toNat = (l.flatMap word_Quote.sign ++ [39]) ++ b.drop p.toNat ∧ p = i + (l.flatMap word_Quote.sign).length + 1 := by
  induction h with
  | @ends i out h1 => intro _ _ he; omega
  | @long i out h1 h2 h3 => intro _ _ he; omega
  | @close i out h1 h2 h3 =>
    intro hb h0 _
    refine ⟨[], by simp, fun x hx => absurd hx (by simp), by omega, by omega, ?_, by simp⟩
    have := drop_int (b := b) (n := i.toNat) (by omega)
    rw [show ((i.toNat : Nat) : Int) = i from by omega, h2] at this
    rw [this, show (i + 1).toNat = i.toNat + 1 from by omega]
    rfl
  | @plain i out t p e h1 h2 h3 h4 h ih =>
    intro hb h0 he
    obtain ⟨l, e1, e2, e3, e4, e5, e6⟩ := ih hb (by omega) he
    have hs : word_Quote.sign (rd b i) = [rd b i] := by unfold word_Quote.sign; rw [if_neg (by omega), if_pos h4]
    refine ⟨rd b i :: l, by rw [e1]; simp, ?_, e3, e4, ?_, ?_⟩
    · intro x hx
      rcases List.mem_cons.1 hx with rfl | hx
      · omega
      · exact e2 x hx
    · have := drop_int (b := b) (n := i.toNat) (by omega)
      rw [show ((i.toNat : Nat) : Int) = i from by omega] at this
      rw [this, show i.toNat + 1 = (i + 1).toNat from by omega, e5, List.flatMap_cons, hs]
      rfl
    · rw [List.flatMap_cons, hs, e6]; simp; omega
  | @odd i out h1 h2 h3 h4 => intro _ _ he; omega
  | @cut1 i out h1 h2 h3 => intro _ _ he; omega
  | @sign i out t p e h1 h2 h3 h ih =>
    intro hb h0 he
    obtain ⟨l, e1, e2, e3, e4, e5, e6⟩ := ih hb (by omega) he
    have hs : word_Quote.sign (rd b (i + 1)) = [92, rd b (i + 1)] := by unfold word_Quote.sign; rw [if_pos h3]
    refine ⟨rd b (i + 1) :: l, by rw [e1]; simp, ?_, e3, e4, ?_, ?_⟩
    · intro x hx
      rcases List.mem_cons.1 hx with rfl | hx
      · omega
      · exact e2 x hx
    · have d1 := drop_int (b := b) (n := i.toNat) (by omega)
      have d2 := drop_int (b := b) (n := i.toNat + 1) (by omega)
      rw [show ((i.toNat : Nat) : Int) = i from by omega, h2] at d1
      rw [show ((i.toNat + 1 : Nat) : Int) = i + 1 from by omega] at d2
      rw [d1, d2, show i.toNat + 1 + 1 = (i + 2).toNat from by omega, e5, List.flatMap_cons, hs]
      rfl
    · rw [List.flatMap_cons, hs, e6]; simp; omega
  | @nosign i out h1 h2 h3 h4 => intro _ _ he; omega
  | @cut2 i out h1 h2 h3 h4 => intro _ _ he; omega
  | @dig1 i out h1 h2 h3 h4 => intro _ _ he; omega
  | @cut3 i out h1 h2 h3 h4 h5 => intro _ _ he; omega
  | @dig2 i out h1 h2 h3 h4 h5 => intro _ _ he; omega
  | @bad i x out h1 h2 h3 h4 h5 hx h6 => intro _ _ he; omega
  | @hex i x out t p e h1 h2 h3 h4 h5 hx h6 h ih =>
    intro hb h0 he
    obtain ⟨l, e1, e2, e3, e4, e5, e6⟩ := ih hb (by omega) he
    have v1 := val_range (rd b (i + 2))
    have v2 := val_range (rd b (i + 3))
    have t1 := tab_val _ h4
    have t2 := tab_val _ h5
    have hs : word_Quote.sign x = [92, 120, rd b (i + 2), rd b (i + 3)] := by
      unfold word_Quote.sign
      rw [if_neg (by omega), if_neg h6, show x / 16 = word_digit.val (rd b (i + 2)) from by omega, show x % 16 = word_digit.val (rd b (i + 3)) from by omega, t1, t2]
    refine ⟨x :: l, by rw [e1]; simp, ?_, e3, e4, ?_, ?_⟩
    · intro y hy
      rcases List.mem_cons.1 hy with rfl | hy
      · omega
      · exact e2 y hy
    · have d1 := drop_int (b := b) (n := i.toNat) (by omega)
      have d2 := drop_int (b := b) (n := i.toNat + 1) (by omega)
      have d3 := drop_int (b := b) (n := i.toNat + 1 + 1) (by omega)
      have d4 := drop_int (b := b) (n := i.toNat + 1 + 1 + 1) (by omega)
      rw [show ((i.toNat : Nat) : Int) = i from by omega, h2] at d1
      rw [show ((i.toNat + 1 : Nat) : Int) = i + 1 from by omega, h3] at d2
      rw [show ((i.toNat + 1 + 1 : Nat) : Int) = i + 2 from by omega] at d3
      rw [show ((i.toNat + 1 + 1 + 1 : Nat) : Int) = i + 3 from by omega] at d4
      rw [d1, d2, d3, d4, show i.toNat + 1 + 1 + 1 + 1 = (i + 4).toNat from by omega, e5, List.flatMap_cons, hs]
      rfl
    · rw [List.flatMap_cons, hs, e6]; simp; omega
/-- what is refused -/
theorem uq_no {b : List Int} {i : Int} {out t : List Int} {p e : Int} (h : Uq b i out t p e) : 0 ≤ i → e ≠ 0 → t = [] ∧ 0 ≤ p ∧ p ≤ b.length := by
  induction h with
  | @ends i out h1 => intro _ _; exact ⟨rfl, by omega, by omega⟩
  | @long i out h1 h2 h3 => intro _ _; exact ⟨rfl, by omega, by omega⟩
  | @close i out h1 h2 h3 => intro _ he; exact absurd rfl he
  | @plain i out t p e h1 h2 h3 h4 h ih => intro h0 he; exact ih (by omega) he
  | @odd i out h1 h2 h3 h4 => intro _ _; exact ⟨rfl, by omega, by omega⟩
  | @cut1 i out h1 h2 h3 => intro _ _; exact ⟨rfl, by omega, by omega⟩
  | @sign i out t p e h1 h2 h3 h ih => intro h0 he; exact ih (by omega) he
  | @nosign i out h1 h2 h3 h4 => intro _ _; exact ⟨rfl, by omega, by omega⟩
  | @cut2 i out h1 h2 h3 h4 => intro _ _; exact ⟨rfl, by omega, by omega⟩
  | @dig1 i out h1 h2 h3 h4 => intro _ _; exact ⟨rfl, by omega, by omega⟩
  | @cut3 i out h1 h2 h3 h4 h5 => intro _ _; exact ⟨rfl, by omega, by omega⟩
  | @dig2 i out h1 h2 h3 h4 h5 => intro _ _; exact ⟨rfl, by omega, by omega⟩
  | @bad i x out h1 h2 h3 h4 h5 hx h6 => intro _ _; exact ⟨rfl, by omega, by omega⟩
  | @hex i x out t p e h1 h2 h3 h4 h5 hx h6 h ih => intro h0 he; exact ih (by omega) he
def shown (l : List Int) : Prop := ∀ x ∈ l, 32 ≤ x ∧ x ≤ 126
theorem sign_shown {c : Int} (h : 0 ≤ c ∧ c < 256) : shown (word_Quote.sign c) := by
  unfold word_Quote.sign
  have h1 := tab_bytes (c / 16).toNat (by omega)
  have h2 := tab_bytes (c % 16).toNat (by omega)
  intro x hx
  split at hx
  · simp at hx; omega
  · split at hx
    · simp at hx; omega
    · simp at hx; omega
theorem to_shown {l : List Int} (h : isBytes l) : shown (word_Quote.to l ++ [39]) := by
  intro x hx
  unfold word_Quote.to at hx
  rcases List.mem_append.1 hx with hx | hx
  · rcases List.mem_cons.1 hx with rfl | hx
    · omega
    · obtain ⟨c, hc, hx⟩ := List.mem_flatMap.1 hx
      exact sign_shown (h c hc) x hx
  · simp at hx; omega
theorem one_l0 (s : ByteArray) (hz : s.size ≤ 10000) (hsh : shown (bytesOf s)) (d : List Int) : ∀ (i k : Nat), (bytesOf s).drop i = d → i ≤ s.size → d.length < k → haruspexlaw05_WordOne.l0 k s (i : Int) = some true := by
  have hl := bytesOf_length s
  induction d with
  | nil =>
    intro i k hd hi hk
    obtain ⟨k, rfl⟩ : ∃ n, k = n + 1 := ⟨k - 1, by omega⟩
    have hge : (bytesOf s).length ≤ i := List.drop_eq_nil_iff.1 hd
    rw [haruspexlaw05_WordOne.l0, if_neg (by omega), q_awake]; rfl
  | cons c t ih =>
    intro i k hd hi hk
    obtain ⟨k, rfl⟩ : ∃ n, k = n + 1 := ⟨k - 1, by omega⟩
    have hil : i < (bytesOf s).length := by
      rcases Nat.lt_or_ge i (bytesOf s).length with h | h
      · exact h
      · rw [List.drop_eq_nil_of_le h] at hd; cases hd
    have hd0 := hd
    rw [drop_rd hil] at hd
    injection hd with h1 h2
    have hc := hsh c (List.mem_of_mem_drop (i := i) (by rw [hd0]; simp))
    rw [haruspexlaw05_WordOne.l0, if_pos (by omega), if_pos (by omega), bt_rd, h1, if_neg (by omega), if_neg (by omega), q_wrap (by omega) (by omega), show (i : Int) + 1 = ((i + 1 : Nat) : Int) from by omega]
    exact ih (i + 1) k h2 (by omega) (by simp at hk; omega)
theorem WordOne : haruspexlaw05_WordOne.Pure := by
  intro a ha
  have hl := bytesOf_length a
  obtain ⟨t, p, e, hu⟩ := UqAll.all (bytesOf a)
  refine ⟨4 * a.size + 20000, ?_⟩
  unfold haruspexlaw05_WordOne.f
  rw [word_unquote hu (by omega) _ (by omega), Option.bind_some]
  dsimp only
  by_cases he : e = 0
  · rcases hu with ⟨_, _, _, h4⟩ | ⟨h1, h2, h3⟩
    · omega
    obtain ⟨l, e1, e2, e3, e4, e5, e6⟩ := uq_one h3 (bytesOf_bytes a) (by omega) he
    rw [List.nil_append] at e1
    subst e1
    have hto := word_Quote.to_len t
    have hbt : isBytes (word_Quote.to t ++ [39]) := isBytes_append (to_bytes e2) (by intro x hx; simp at hx; omega)
    rw [if_pos he]
    unfold word_Quote.f
    rw [bytesOf_strOfNums e2, strOfNums_size, if_neg (by omega), Option.bind_some]
    dsimp only
    have hd0 := drop_int (b := bytesOf a) (n := 0) h1
    rw [List.drop_zero] at hd0
    have hall : bytesOf a = (word_Quote.to t ++ [39]) ++ (bytesOf a).drop p.toNat := by
      conv => lhs; rw [hd0]
      rw [show ((0 : Nat) : Int) = 0 from rfl, h2, show (0 : Nat) + 1 = (1 : Int).toNat from rfl, e5]
      unfold word_Quote.to
      simp
    have hlen : (word_Quote.to t ++ [39]).length = p.toNat := by
      unfold word_Quote.to
      rw [List.length_append, List.length_cons, List.length_cons, List.length_nil]
      omega
    have htake : (bytesOf a).take p.toNat = word_Quote.to t ++ [39] := by
      conv => lhs; rw [hall]
      rw [← hlen, List.take_left]
    obtain ⟨K, hK⟩ : ∃ K, 4 * a.size + 20000 = K + 1 := ⟨_, rfl⟩
    rw [if_pos rfl, if_neg (by omega), if_neg (by omega), if_pos (by omega), if_pos (by omega), hK, haruspexlaw05_WordOne.j0]
    have heq : (strOfNums (word_Quote.to t ++ [39])).toList = (a.extract 0 p.toNat).toList := by
      rw [toList_eq, bytesOf_strOfNums hbt, bytesOf_extract, htake]; rfl
    rw [if_neg (by simp [heq])]
    exact one_l0 _ (by rw [strOfNums_size]; simp; omega) (by rw [bytesOf_strOfNums hbt]; exact to_shown e2) _ 0 K rfl (by omega) (by rw [bytesOf_strOfNums hbt]; simp; omega)
  · have hno : t = [] ∧ 0 ≤ p ∧ p ≤ (bytesOf a).length := by
      rcases hu with ⟨_, h2, h3, h4⟩ | ⟨h1, h2, h3⟩
      · exact ⟨h2, by omega, by omega⟩
      · exact uq_no h3 (by omega) he
    rw [if_neg he, if_pos (by rw [toList_nil, hno.1]; rfl), if_pos (by omega), if_pos (by omega), q_awake]
    rfl
end Go.Proofs.Ytefljkgfkkdaiaa.Pure
