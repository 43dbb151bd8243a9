/- NumTexts: any int64's text, and the number (or the error) of any text, are the document's answer. No condition. -/
import Derived.Test.YtbjfhchlngiboaaPAllx8
import Derived.Test.YtbjfhchlngiboaaNumText
set_option linter.unusedVariables false
set_option linter.unusedSimpArgs false
namespace Go.Proofs.Ytbjfhchlngiboaa.Pure
open Go.RowKit Go.Proofs.Ytbjfhchlngiboaa.PAll Go.Proofs.YtbjfhchlngiboaaW.PrintWords Go.Proofs.YtbjfhchlngiboaaW.PrintLast

theorem in64_fst (n : Int) : in64 (res n).1 := by
  unfold res
  split
  · rename_i h; exact h
  · decide
/-- the document's loop: what it comes to, from a number (not above 0) on, or once it is beyond -/
theorem ref_l0 (s x : ByteArray) (m : Bool) (hm : x.toList = s.toList ↔ m = false) (hx : x.size ≤ 140737488351232) (d : List Int) : ∀ (k i : Nat) (n : Int) (over : Bool), (bytesOf x).drop i = d → i ≤ x.size → 2 * d.length + 5 < k → in64 n → (over = false → n ≤ 0) →
    haruspexref04_Parse.l0 k s x n over (i : Int) = some (if allDig d = true then (if over = true then (0, 10) else signed m (val (-n) d)) else (0, 4)) := by
  have hxl := size_len x
  induction d with
  | nil =>
    intro k i n over hd hi hk hn h0
    obtain ⟨k, rfl⟩ : ∃ n, k = n + 1 := ⟨k - 1, by omega⟩
    have : (bytesOf x).length ≤ i := List.drop_eq_nil_iff.1 hd
    simp only [haruspexref04_Parse.l0, val]
    unfold signed
    rw [if_neg (by omega), if_pos (show allDig [] = true from rfl)]
    cases m
    · rw [if_pos (hm.2 rfl), ref_neg_f hn, Option.bind_some]
      cases over
      · show (if (res (-n)).2 = 0 then some ((res (-n)).1, 0) else some (0, 10)) = some (res (-n))
        by_cases hin : in64 (-n)
        · rw [res_in hin, if_pos rfl]
        · rw [res_out hin, if_neg (by simp)]
      · rfl
    · rw [if_neg (fun z => by have := hm.1 z; simp at this)]
      cases over
      · rw [if_neg (by simp), if_neg (by simp), if_pos rfl, Int.neg_neg, res_in hn]
      · simp
  | cons c t ih =>
    intro k i n over hd hi hk hn h0
    obtain ⟨k, rfl⟩ : ∃ n, k = n + 1 := ⟨k - 1, by omega⟩
    obtain ⟨k, rfl⟩ : ∃ n, k = n + 1 := ⟨k - 1, by simp at hk; omega⟩
    obtain ⟨k, rfl⟩ : ∃ n, k = n + 1 := ⟨k - 1, by simp at hk; omega⟩
    obtain ⟨k, rfl⟩ : ∃ n, k = n + 1 := ⟨k - 1, by simp at hk; omega⟩
    have hil : i < (bytesOf x).length := by
      rcases Nat.lt_or_ge i (bytesOf x).length with h | h
      · exact h
      · rw [List.drop_eq_nil_of_le h] at hd; cases hd
    rw [drop_rd hil] at hd
    injection hd with h1 h2
    have step : ∀ b : Bool, b = !dig c → haruspexref04_Parse.j4 (k + 1 + 1 + 1) s x n over (i : Int) b = some (if allDig (c :: t) = true then (if over = true then (0, 10) else signed m (val (-n) (c :: t))) else (0, 4)) := by
      intro b hb
      subst hb
      rw [haruspexref04_Parse.j4, allDig_cons]
      by_cases hd1 : dig c = true
      · have hc := dig_iff.1 hd1
        rw [if_neg (by simp [hd1]), hd1, Bool.true_and, ref_mul_f k hn (by decide), Option.bind_some, if_pos (by omega), if_pos (by omega), bt_rd, h1, show (c - 48) % 256 = c - 48 from by omega]
        have hc64 : in64 (c - 48) := by unfold in64; omega
        rw [ref_sub_f (in64_fst _) hc64, Option.bind_some, wrap64_in (n := (i : Int) + 1) (by omega) (by omega), show ((i : Int) + 1) = ((i + 1 : Nat) : Int) from by omega]
        have hk' : 2 * t.length + 5 < k + 2 := by simp at hk; omega
        cases over
        · have hn0 := h0 rfl
          rw [if_neg (by simp), if_neg (show ¬ (false = true) by simp)]
          by_cases hin : in64 (n * 10)
          · rw [res_in hin, if_pos rfl]
            dsimp only
            by_cases hin2 : in64 (n * 10 - (c - 48))
            · rw [res_in hin2, ih (k + 2) (i + 1) _ _ h2 (by omega) hk' hin2 (fun _ => by omega)]
              simp only [val]
              rw [show -(n * 10 - (c - 48)) = -n * 10 + (c - 48) from by omega]
              rfl
            · rw [res_out hin2, ih (k + 2) (i + 1) _ _ h2 (by omega) hk' (by decide) (fun _ => by decide)]
              by_cases ht : allDig t = true
              · have hge := val_ge t (-n * 10 + (c - 48)) (by omega) ht
                rw [if_pos ht, if_pos (by decide), if_pos ht]
                simp only [val]
                rw [signed_out]
                unfold in64 at hin2; omega
              · rw [if_neg ht, if_neg ht]
          · rw [res_out hin, if_neg (by simp), ih (k + 2) (i + 1) _ _ h2 (by omega) hk' (in64_fst _) (fun z => by simp at z)]
            by_cases ht : allDig t = true
            · have hge := val_ge t (-n * 10 + (c - 48)) (by omega) ht
              rw [if_pos ht, if_pos rfl, if_pos ht]
              simp only [val]
              rw [signed_out]
              unfold in64 at hin; omega
            · rw [if_neg ht, if_neg ht]
        · rw [if_pos rfl, ih (k + 2) (i + 1) _ _ h2 (by omega) hk' (in64_fst _) (fun z => by simp at z)]
          rfl
      · have hd2 : dig c = false := by simpa using hd1
        rw [hd2, if_pos (by simp), Bool.false_and, if_neg (by simp)]
    rw [haruspexref04_Parse.l0, if_pos (by omega), if_pos (by omega), bt_rd, h1]
    by_cases c1 : c < 48
    · rw [if_pos c1]; exact step true (by simp [dig]; omega)
    · rw [if_neg c1]
      refine step _ ?_
      by_cases c2 : c > 57
      · have h3 : dig c = false := by simp [dig]; omega
        rw [decide_eq_true c2, h3]; rfl
      · have h3 : dig c = true := dig_iff.2 ⟨by omega, by omega⟩
        rw [decide_eq_false c2, h3]; rfl
theorem ref_parse_f (k : Nat) (s : ByteArray) (hs : s.size ≤ 140737488351232) (hk : 2 * s.size + 20 < k) : haruspexref04_Parse.f k s = some (parsed (bytesOf s)) := by
  have hsz := size_len s
  have hext : bytesOf (s.extract 1 s.size) = (bytesOf s).drop 1 := by rw [bytesOf_extract, List.take_of_length_le (by omega)]
  have j2 : ∀ (k : Nat) (x : ByteArray) (m b : Bool), (x.toList = s.toList ↔ m = false) → x.size ≤ s.size → 2 * s.size + 10 < k → haruspexref04_Parse.j2 k s x b = some (if b = true then (0, 4) else (if allDig (bytesOf x) = true then signed m (val 0 (bytesOf x)) else (0, 4))) := by
    intro k x m b hm hx hk
    obtain ⟨k, rfl⟩ : ∃ n, k = n + 1 := ⟨k - 1, by omega⟩
    rw [haruspexref04_Parse.j2]
    by_cases h : b = true
    · rw [if_pos h, if_pos h]
    · have hxl := size_len x
      rw [if_neg h, if_neg h]
      have := ref_l0 s x m hm (by omega) (bytesOf x) k 0 0 false rfl (by omega) (by omega) (by decide) (fun _ => by omega)
      simpa using this
  have j1 : ∀ (k : Nat) (x : ByteArray) (m : Bool), (x.toList = s.toList ↔ m = false) → x.size ≤ s.size → 2 * s.size + 12 < k → haruspexref04_Parse.j1 k s x = some (if okText s.size (bytesOf x) = true then signed m (val 0 (bytesOf x)) else (0, 4)) := by
    intro k x m hm hx hk
    obtain ⟨k, rfl⟩ : ∃ n, k = n + 1 := ⟨k - 1, by omega⟩
    rw [haruspexref04_Parse.j1]
    unfold okText
    by_cases h : x.toList = []
    · have h' := toList_nil.1 h
      rw [if_pos h, j2 k x m true hm hx (by omega), h']; simp
    · have h' : bytesOf x ≠ [] := fun z => h (toList_nil.2 z)
      have hxl := size_len x
      have h0 : 0 < (bytesOf x).length := List.length_pos_iff.2 h'
      have hb : (bytesOf x == []) = false := by simpa using h'
      rw [if_neg h, if_pos (by omega), bt_rd, hb]
      by_cases c : rd (bytesOf x) 0 = 48
      · rw [if_pos c, j2 k x m _ hm hx (by omega)]
        by_cases c2 : (s.size : Int) > 1
        · have : 1 < s.size := by omega
          rw [if_pos (decide_eq_true c2), if_neg (by simp [c, this])]
        · have : ¬ 1 < s.size := by omega
          rw [if_neg (by simp; omega)]
          simp [c, this]
      · rw [if_neg c, j2 k x m false hm hx (by omega)]; simp [c]
  have j0 : ∀ (k : Nat) (b : Bool), (b = true ↔ (rd (bytesOf s) 0 = 45 ∧ bytesOf s ≠ [])) → 2 * s.size + 15 < k → haruspexref04_Parse.j0 k s s b = some (parsed (bytesOf s)) := by
    intro k b hb hk
    obtain ⟨k, rfl⟩ : ∃ n, k = n + 1 := ⟨k - 1, by omega⟩
    rw [haruspexref04_Parse.j0]
    unfold parsed
    rw [← hsz]
    by_cases h : b = true
    · have h' := hb.1 h
      have h0 : 0 < (bytesOf s).length := List.length_pos_iff.2 h'.2
      have hexl : (s.extract 1 s.size).size = s.size - 1 := by rw [size_len (s.extract 1 s.size), hext, List.length_drop]; omega
      rw [if_pos h, if_pos h', if_pos (by omega), j1 k _ true ?_ (by omega) (by omega), hext]
      rw [toList_eq, hext]
      constructor
      · intro z
        have := congrArg List.length z
        rw [List.length_drop] at this; omega
      · intro z; cases z
    · rw [if_neg h, if_neg (fun z => h (hb.2 z)), j1 k s false (by simp) (by omega) (by omega)]
  unfold haruspexref04_Parse.f
  by_cases h : s.toList = []
  · have h' := toList_nil.1 h
    rw [if_pos h, j0 k false (by simp [h']) (by omega)]
  · have h' : bytesOf s ≠ [] := fun z => h (toList_nil.2 z)
    have h0 : 0 < (bytesOf s).length := List.length_pos_iff.2 h'
    rw [if_neg h, if_pos (by omega), j0 k _ (by rw [bt_rd]; simp [h']) (by omega)]

theorem dgs_short (j : Nat) (u : Int) : (num_Text.dgs j u).length ≤ j := by
  induction j generalizing u with
  | zero => simp [num_Text.dgs]
  | succ j ih =>
    have := ih (u / 10)
    simp only [num_Text.dgs]
    split <;> simp <;> omega
theorem ref_text_f (j : Nat) : ∀ (n : Int), 0 < j → j ≤ 30 → in64 n → (n < 0 → -n < 10 ^ j) → (¬ n < 0 → n < 10 ^ j) →
    haruspexref04_Text.f j n = some (strOfNums (if n < 0 then 45 :: num_Text.dgs j (-n) else num_Text.dgs j n)) := by
  induction j with
  | zero => intro n h; omega
  | succ j ih =>
    intro n _ hj hn h1 h2
    have hn' := hn
    unfold in64 at hn'
    rw [haruspexref04_Text.f]
    by_cases c : n < 0
    · have hm : Int.tmod n 10 = -((-n) % 10) := by
        rw [← Int.neg_neg n, Int.neg_tmod, Int.tmod_eq_emod_of_nonneg (by omega), Int.neg_neg]
      have hq : Int.tdiv n 10 = -((-n) / 10) := by
        rw [← Int.neg_neg n, Int.neg_tdiv, Int.tdiv_eq_ediv_of_nonneg (by omega), Int.neg_neg]
      rw [if_pos c, if_pos c, hm, hq, wrap64_in (n := 48 - -(-n % 10)) (by omega) (by omega), wrap64_in (n := -(-n / 10)) (by omega) (by omega), Option.bind_some, show (48 - -(-n % 10)) % 256 = 48 + -n % 10 from by omega]
      simp only [num_Text.dgs]
      by_cases h : -n < 10
      · rw [if_pos (by omega), if_pos (by rw [strOfNums_size, List.length_singleton]; omega), if_pos h, show -n % 10 = -n from by omega]
        rw [show (⟨#[45]⟩ : ByteArray) = strOfNums [45] from rfl, strOfNums_append]; rfl
      · have hj0 : 0 < j := by
          rcases Nat.eq_zero_or_pos j with rfl | h'
          · have := h1 c; simp at this; omega
          · exact h'
        have hp := h1 c
        rw [Int.pow_succ] at hp
        rw [if_neg (by omega), ih (-(-n / 10)) hj0 (by omega) (by unfold in64; omega) (fun _ => by omega) (fun z => by omega), Option.bind_some, if_pos (show -(-n / 10) < 0 by omega), if_neg h, Int.neg_neg]
        have hs := dgs_short j (-n / 10)
        rw [if_pos (by rw [strOfNums_size, strOfNums_size, List.length_cons, List.length_singleton]; omega), strOfNums_append]
        rfl
    · have hm : Int.tmod n 10 = n % 10 := Int.tmod_eq_emod_of_nonneg (by omega)
      have hq : Int.tdiv n 10 = n / 10 := Int.tdiv_eq_ediv_of_nonneg (by omega)
      rw [if_neg c, if_neg c, hm, hq, wrap64_in (n := 48 + n % 10) (by omega) (by omega), wrap64_in (n := n / 10) (by omega) (by omega), Option.bind_some, show (48 + n % 10) % 256 = 48 + n % 10 from by omega]
      simp only [num_Text.dgs]
      by_cases h : n < 10
      · rw [if_neg (by omega), if_pos h, show n % 10 = n from by omega]
      · have hj0 : 0 < j := by
          rcases Nat.eq_zero_or_pos j with rfl | h'
          · have := h2 c; simp at this; omega
          · exact h'
        have hp := h2 c
        rw [Int.pow_succ] at hp
        rw [if_pos (by omega), ih (n / 10) hj0 (by omega) (by unfold in64; omega) (fun z => by omega) (fun _ => by omega), Option.bind_some, if_neg (show ¬ n / 10 < 0 by omega), if_neg h]
        have hs := dgs_short j (n / 10)
        rw [if_pos (by rw [strOfNums_size, strOfNums_size, List.length_singleton]; omega), strOfNums_append]
theorem NumTexts : haruspexlaw04_NumTexts.Pure := by
  intro n s wn hs
  have hn := i64_bd wn
  have hn' := hn
  unfold in64 at hn'
  have hp : (10 : Int) ^ 20 = 100000000000000000000 := by decide
  have ht : haruspexref04_Text.f 20 n = some (strOfNums (textOf n)) := ref_text_f 20 n (by omega) (by omega) hn (fun _ => by omega) (fun _ => by omega) |>.trans (by
    unfold textOf num_Text.digitsOf
    by_cases c : n < 0
    · rw [if_pos c, if_pos c, if_pos c]
    · rw [if_neg c, if_neg c, if_neg c])
  refine ⟨2 * s.size + 50, ?_⟩
  have ht2 := at_rounds (g := fun k => haruspexref04_Text.f k n) (fun k => haruspexref04_Text.mono n k) (show 20 ≤ 2 * s.size + 50 by omega) ht
  unfold haruspexlaw04_NumTexts.f
  rw [parse_f _ s hs (by omega), ref_parse_f _ s hs (by omega), text_f hn, awake_f]
  simp only [Option.bind_some]
  rw [ht2, Option.bind_some, if_pos rfl]
  simp
end Go.Proofs.Ytbjfhchlngiboaa.Pure
