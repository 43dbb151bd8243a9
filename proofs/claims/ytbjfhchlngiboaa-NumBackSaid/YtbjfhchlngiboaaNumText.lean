/- Plain laws of numbers as texts: what both readings of a text come to; a number's digits; that they are read as it, and that no other text is. -/
import Derived.Test.YtbjfhchlngiboaaPAllx8
import Derived.Test.YtbjfhchlngiboaaNum
import Derived.Test.YtbjfhchlngiboaaStr
set_option linter.unusedVariables false
set_option linter.unusedSimpArgs false
namespace Go.Proofs.Ytbjfhchlngiboaa.Pure
open Go.RowKit Go.Proofs.Ytbjfhchlngiboaa.PAll Go.Proofs.YtbjfhchlngiboaaW.PrintWords Go.Proofs.YtbjfhchlngiboaaW.PrintLast Go.Proofs.YtbjfhchlngiboaaW.PrintMore

def dig (c : Int) : Bool := decide (48 ≤ c) && decide (c ≤ 57)
theorem dig_iff {c : Int} : dig c = true ↔ 48 ≤ c ∧ c ≤ 57 := by simp [dig]
def allDig (d : List Int) : Bool := d.all dig
/-- digits read on from a number -/
def val : Int → List Int → Int
  | acc, [] => acc
  | acc, c :: t => val (acc * 10 + (c - 48)) t
theorem allDig_cons {c : Int} {t : List Int} : allDig (c :: t) = (dig c && allDig t) := rfl
theorem val_ge (d : List Int) : ∀ acc, 0 ≤ acc → allDig d = true → acc ≤ val acc d := by
  induction d with
  | nil => intro acc _ _; simp [val]
  | cons c t ih =>
    intro acc h0 h
    rw [allDig_cons, Bool.and_eq_true] at h
    have hc := dig_iff.1 h.1
    have := ih (acc * 10 + (c - 48)) (by omega) h.2
    simp only [val]; omega
/-- the number of digits, with - or not ahead: it, or ErrOver -/
def signed (m : Bool) (v : Int) : Int × Int := res (if m = true then -v else v)
theorem signed_out {m : Bool} {v : Int} (h : 9223372036854775808 < v) : signed m v = (0, 10) := by
  unfold signed
  cases m
  · rw [res_out]; unfold in64; simp; omega
  · rw [res_out]; unfold in64; simp; omega
/-- a text of digits, of a length in all -/
def okText (n : Nat) (d : List Int) : Bool := !(d == []) && !(decide (rd d 0 = 48) && decide (1 < n)) && allDig d
/-- what a text is read as -/
def parsed (s : List Int) : Int × Int :=
  if rd s 0 = 45 ∧ s ≠ [] then (if okText s.length (s.drop 1) = true then signed true (val 0 (s.drop 1)) else (0, 4))
  else (if okText s.length s = true then signed false (val 0 s) else (0, 4))

/-! ### the program's reading -/
theorem digits_l0 (x : ByteArray) (m : Bool) (y : List Int) (hy : y.length ≤ 140737488351232) (d : List Int) : ∀ (k i : Nat), y.drop i = d → i ≤ y.length → d.length < k →
    num_digits.l0 k x m y (y.length : Int) (i : Int) = some (if allDig d = true then (x, m, true) else ((⟨#[]⟩ : ByteArray), false, false)) := by
  induction d with
  | nil =>
    intro k i hd hi hk
    obtain ⟨k, rfl⟩ : ∃ n, k = n + 1 := ⟨k - 1, by omega⟩
    have : y.length ≤ i := List.drop_eq_nil_iff.1 hd
    simp only [num_digits.l0]
    rw [if_neg (by omega)]; rfl
  | cons c t ih =>
    intro k i hd hi hk
    obtain ⟨k, rfl⟩ : ∃ n, k = n + 1 := ⟨k - 1, by omega⟩
    have hil : i < y.length := by
      rcases Nat.lt_or_ge i y.length with h | h
      · exact h
      · rw [List.drop_eq_nil_of_le h] at hd; cases hd
    rw [drop_rd hil] at hd
    injection hd with h1 h2
    simp only [num_digits.l0]
    rw [if_pos (by omega), if_pos (by omega), if_pos (by omega), h1, wrap64_in (n := (i : Int) + 1) (by omega) (by omega), allDig_cons]
    by_cases c1 : c < 48
    · rw [if_pos c1, if_neg (by simp [dig]; omega)]
    · rw [if_neg c1]
      by_cases c2 : c > 57
      · rw [if_pos c2, if_neg (by simp [dig]; omega)]
      · rw [if_neg c2, show ((i : Int) + 1) = ((i + 1 : Nat) : Int) from by omega, ih k (i + 1) h2 (by omega) (by simp at hk; omega)]
        have : dig c = true := dig_iff.2 ⟨by omega, by omega⟩
        rw [this, Bool.true_and]
theorem digits_f (k : Nat) (s : ByteArray) (hs : s.size ≤ 140737488351232) (hk : s.size + 10 < k) : num_digits.f k s =
    some (if rd (bytesOf s) 0 = 45 ∧ bytesOf s ≠ [] then (if okText s.size ((bytesOf s).drop 1) = true then (s.extract 1 s.size, true, true) else ((⟨#[]⟩ : ByteArray), false, false))
      else (if okText s.size (bytesOf s) = true then (s, false, true) else ((⟨#[]⟩ : ByteArray), false, false))) := by
  have hsz := size_len s
  have j2 : ∀ (k : Nat) (x : ByteArray) (m b : Bool), x.size ≤ s.size → s.size + 7 < k → num_digits.j2 k x m b = some (if b = true then ((⟨#[]⟩ : ByteArray), false, false) else (if allDig (bytesOf x) = true then (x, m, true) else ((⟨#[]⟩ : ByteArray), false, false))) := by
    intro k x m b hx hk
    obtain ⟨k, rfl⟩ : ∃ n, k = n + 1 := ⟨k - 1, by omega⟩
    rw [num_digits.j2]
    by_cases h : b = true
    · rw [if_pos h, if_pos h]
    · have hxl := size_len x
      rw [if_neg h, if_neg h, if_pos (by omega), Option.bind_some]
      exact digits_l0 x m (bytesOf x) (by omega) (bytesOf x) k 0 rfl (by omega) (by omega)
  have j1 : ∀ (k : Nat) (x : ByteArray) (m : Bool), x.size ≤ s.size → s.size + 8 < k → num_digits.j1 k s x m = some (if okText s.size (bytesOf x) = true then (x, m, true) else ((⟨#[]⟩ : ByteArray), false, false)) := by
    intro k x m hx hk
    obtain ⟨k, rfl⟩ : ∃ n, k = n + 1 := ⟨k - 1, by omega⟩
    rw [num_digits.j1]
    unfold okText
    by_cases h : x.toList = []
    · have h' := toList_nil.1 h
      rw [if_pos h, j2 k x m true hx (by omega), h']; simp
    · have h' : bytesOf x ≠ [] := fun z => h (toList_nil.2 z)
      have hxl := size_len x
      have h0 : 0 < (bytesOf x).length := List.length_pos_iff.2 h'
      have hb : (bytesOf x == []) = false := by simpa using h'
      rw [if_neg h, if_pos (by omega), bt_rd, hb]
      by_cases c : rd (bytesOf x) 0 = 48
      · rw [if_pos c, j2 k x m _ hx (by omega)]
        by_cases c2 : (s.size : Int) > 1
        · have : 1 < s.size := by omega
          rw [if_pos (decide_eq_true c2), if_neg (by simp [c, this])]
        · have : ¬ 1 < s.size := by omega
          rw [if_neg (by simp; omega)]
          simp [c, this]
      · rw [if_neg c, j2 k x m false hx (by omega)]; simp [c]
  obtain ⟨k, rfl⟩ : ∃ n, k = n + 1 := ⟨k - 1, by omega⟩
  have hext : bytesOf (s.extract 1 s.size) = (bytesOf s).drop 1 := by rw [bytesOf_extract, List.take_of_length_le (by omega)]
  have hexl : (s.extract 1 s.size).size ≤ s.size := by rw [size_len (s.extract 1 s.size), hext, List.length_drop]; omega
  unfold num_digits.f
  by_cases h0 : (s.size : Int) > 0
  · have hne : bytesOf s ≠ [] := fun z => by rw [z, List.length_nil] at hsz; omega
    rw [if_pos h0, if_pos (by omega), num_digits.j0, bt_rd]
    by_cases c : rd (bytesOf s) 0 = 45
    · rw [if_pos (by simp [c]), if_pos (by omega), if_pos ⟨c, hne⟩, j1 k _ true hexl (by omega), hext]
    · rw [if_neg (by simp [c]), if_neg (fun z => c z.1), j1 k s false (by omega) (by omega)]
  · have hne : bytesOf s = [] := List.eq_nil_of_length_eq_zero (by omega)
    rw [if_neg h0, num_digits.j0, if_neg (by simp), if_neg (fun z => z.2 hne), j1 k s false (by omega) (by omega)]

theorem parse_l0 (m : Bool) (y : List Int) (hy : y.length ≤ 140737488351232) (d : List Int) : ∀ (k i : Nat) (n : Int), y.drop i = d → i ≤ y.length → d.length < k → allDig d = true → n ≤ 0 → in64 n →
    num_Parse.l0 k m n y (y.length : Int) (i : Int) = some (signed m (val (-n) d)) := by
  induction d with
  | nil =>
    intro k i n hd hi hk _ h0 hn
    obtain ⟨k, rfl⟩ : ∃ n, k = n + 1 := ⟨k - 1, by omega⟩
    have : y.length ≤ i := List.drop_eq_nil_iff.1 hd
    simp only [num_Parse.l0, val]
    unfold signed
    rw [if_neg (by omega)]
    cases m
    · rw [neg_f hn]; simp
    · rw [if_pos rfl, if_pos rfl, Int.neg_neg, res_in hn]
  | cons c t ih =>
    intro k i n hd hi hk hall h0 hn
    obtain ⟨k, rfl⟩ : ∃ n, k = n + 1 := ⟨k - 1, by omega⟩
    obtain ⟨k, rfl⟩ : ∃ n, k = n + 1 := ⟨k - 1, by simp at hk; omega⟩
    have hil : i < y.length := by
      rcases Nat.lt_or_ge i y.length with h | h
      · exact h
      · rw [List.drop_eq_nil_of_le h] at hd; cases hd
    rw [drop_rd hil] at hd
    injection hd with h1 h2
    rw [allDig_cons, Bool.and_eq_true] at hall
    have hc := dig_iff.1 hall.1
    rw [num_Parse.l0, if_pos (by omega), if_pos (by omega), if_pos (by omega), h1, wrap64_in (n := (i : Int) + 1) (by omega) (by omega), mul_f k hn (by decide), Option.bind_some, show (c - 48) % 256 = c - 48 from by omega]
    simp only [val]
    have hge := val_ge t (-n * 10 + (c - 48)) (by omega) hall.2
    by_cases hin : in64 (n * 10)
    · rw [res_in hin, if_pos rfl]
      have hc64 : in64 (c - 48) := by unfold in64; omega
      rw [sub_f hin hc64, Option.bind_some]
      by_cases hin2 : in64 (n * 10 - (c - 48))
      · rw [res_in hin2, if_pos rfl, show ((i : Int) + 1) = ((i + 1 : Nat) : Int) from by omega, ih (k + 1) (i + 1) _ h2 (by omega) (by simp at hk ⊢; omega) hall.2 (by omega) hin2]
        rw [show -(n * 10 - (c - 48)) = -n * 10 + (c - 48) from by omega]
      · rw [res_out hin2, if_neg (by simp), signed_out]
        unfold in64 at hin2; omega
    · rw [res_out hin, if_neg (by simp), signed_out]
      unfold in64 at hin; omega
theorem parse_f (k : Nat) (s : ByteArray) (hs : s.size ≤ 140737488351232) (hk : s.size + 10 < k) : num_Parse.f k s = some (parsed (bytesOf s)) := by
  have hsz := size_len s
  unfold num_Parse.f parsed
  rw [digits_f k s hs hk, Option.bind_some, ← hsz]
  have hext : bytesOf (s.extract 1 s.size) = (bytesOf s).drop 1 := by rw [bytesOf_extract, List.take_of_length_le (by omega)]
  by_cases c : rd (bytesOf s) 0 = 45 ∧ bytesOf s ≠ []
  · rw [if_pos c, if_pos c]
    by_cases h : okText s.size ((bytesOf s).drop 1) = true
    · have hd : allDig ((bytesOf s).drop 1) = true := by unfold okText at h; simp only [Bool.and_eq_true] at h; exact h.2
      rw [if_pos h, if_pos h]
      dsimp only
      rw [if_pos rfl, if_pos (by rw [size_len (s.extract 1 s.size), hext, List.length_drop]; omega), Option.bind_some, hext]
      have := parse_l0 true ((bytesOf s).drop 1) (by rw [List.length_drop]; omega) _ k 0 0 rfl (by omega) (by simp; omega) hd (by omega) (by decide)
      simpa using this
    · rw [if_neg h, if_neg h, if_neg (by simp)]
  · rw [if_neg c, if_neg c]
    by_cases h : okText s.size (bytesOf s) = true
    · have hd : allDig (bytesOf s) = true := by unfold okText at h; simp only [Bool.and_eq_true] at h; exact h.2
      rw [if_pos h, if_pos h]
      dsimp only
      rw [if_pos rfl, if_pos (by omega), Option.bind_some]
      have := parse_l0 false (bytesOf s) (by omega) _ k 0 0 rfl (by omega) (by simp; omega) hd (by omega) (by decide)
      simpa using this
    · rw [if_neg h, if_neg h, if_neg (by simp)]

/-! ### digits of a number -/
theorem val_snoc (a : List Int) : ∀ (acc c : Int), val acc (a ++ [c]) = val acc a * 10 + (c - 48) := by
  induction a with
  | nil => intro acc c; simp [val]
  | cons x t ih => intro acc c; simp only [List.cons_append, val]; exact ih _ c
theorem allDig_snoc (a : List Int) (c : Int) : allDig (a ++ [c]) = (allDig a && dig c) := by
  unfold allDig; rw [List.all_append]; simp
theorem dgs_ok (k : Nat) : ∀ u : Int, 0 ≤ u → u < 10 ^ k → 0 < k → allDig (num_Text.dgs k u) = true ∧ val 0 (num_Text.dgs k u) = u ∧ num_Text.dgs k u ≠ [] ∧ (rd (num_Text.dgs k u) 0 = 48 → u = 0) ∧ (num_Text.dgs k u).length ≤ k ∧ rd (num_Text.dgs k u) 0 ≠ 45 ∧ (u = 0 → (num_Text.dgs k u).length = 1) := by
  induction k with
  | zero => intro u _ _ h; omega
  | succ k ih =>
    intro u h0 h1 _
    simp only [num_Text.dgs]
    by_cases h : u < 10
    · rw [if_pos h]
      refine ⟨?_, ?_, by simp, ?_, by simp, ?_, by simp⟩
      · simp [allDig, dig]; omega
      · simp only [val]; omega
      · show 48 + u = 48 → u = 0; omega
      · show 48 + u ≠ 45; omega
    · rw [if_neg h]
      have hk : 0 < k := by
        rcases Nat.eq_zero_or_pos k with rfl | h
        · simp at h1; omega
        · exact h
      obtain ⟨i1, i2, i3, i4, i5, i6, i7⟩ := ih (u / 10) (by omega) (by rw [Int.pow_succ] at h1; omega) hk
      have hr : rd (num_Text.dgs k (u / 10) ++ [48 + u % 10]) 0 = rd (num_Text.dgs k (u / 10)) 0 := by
        cases hg : num_Text.dgs k (u / 10) with
        | nil => exact absurd hg i3
        | cons x t => rfl
      refine ⟨?_, ?_, by simp, ?_, by simp; omega, by rw [hr]; exact i6, fun z => by omega⟩
      · rw [allDig_snoc, i1]; simp [dig]; omega
      · rw [val_snoc, i2]; omega
      · rw [hr]; intro z; have := i4 z; omega
theorem val_pos (d : List Int) (h : allDig d = true) (h0 : d ≠ []) (h1 : rd d 0 ≠ 48) : 1 ≤ val 0 d := by
  cases d with
  | nil => exact absurd rfl h0
  | cons c t =>
    rw [allDig_cons, Bool.and_eq_true] at h
    have hc := dig_iff.1 h.1
    have hr : rd (c :: t) 0 = c := rfl
    rw [hr] at h1
    have := val_ge t (0 * 10 + (c - 48)) (by omega) h.2
    simp only [val]; omega
theorem dgs_one (n : Nat) : ∀ (d : List Int) (k : Nat), d.length = n → allDig d = true → d ≠ [] → (rd d 0 = 48 → d.length = 1) → val 0 d < 10 ^ k → 0 < k → num_Text.dgs k (val 0 d) = d := by
  induction n with
  | zero => intro d k hl _ h0; exact absurd (List.eq_nil_of_length_eq_zero hl) h0
  | succ n ih =>
    intro d k hl hall h0 hz hv hk
    obtain ⟨k, rfl⟩ : ∃ j, k = j + 1 := ⟨k - 1, by omega⟩
    have hs : d = d.dropLast ++ [d.getLast h0] := (List.dropLast_concat_getLast h0).symm
    generalize hA : d.dropLast = a at hs
    generalize hC : d.getLast h0 = c at hs
    subst hs
    rw [allDig_snoc, Bool.and_eq_true] at hall
    have hc := dig_iff.1 hall.2
    rw [val_snoc] at hv ⊢
    simp only [num_Text.dgs]
    by_cases ha : a = []
    · subst ha
      have hv0 : val 0 [] = 0 := rfl
      rw [hv0] at hv ⊢
      rw [if_pos (by omega)]
      rw [List.nil_append]
      congr 1; omega
    · have hr : rd (a ++ [c]) 0 = rd a 0 := by
        cases a with
        | nil => exact absurd rfl ha
        | cons x t => rfl
      have hne : rd a 0 ≠ 48 := fun z => by
        have := hz (hr.trans z)
        have h1 : 0 < a.length := List.length_pos_iff.2 ha
        rw [List.length_append, List.length_singleton] at this; omega
      have hp := val_pos a hall.1 ha hne
      rw [if_neg (by omega), show (val 0 a * 10 + (c - 48)) / 10 = val 0 a from by omega, show (val 0 a * 10 + (c - 48)) % 10 = c - 48 from by omega]
      have hk0 : 0 < k := by
        rcases Nat.eq_zero_or_pos k with rfl | h
        · simp at hv; omega
        · exact h
      rw [ih a k (by simp at hl; omega) hall.1 ha (fun z => absurd z hne) (by rw [Int.pow_succ] at hv; omega) hk0]
      congr 2; omega

/-! ### a number's text -/
def textOf (n : Int) : List Int := if n < 0 then 45 :: num_Text.digitsOf n else num_Text.digitsOf n
theorem text_f {n : Int} (h : in64 n) : num_Text.f n = some (strOfNums (textOf n)) := by
  unfold num_Text.f textOf
  unfold in64 at h
  rw [if_pos h]
theorem allDig_bytes {d : List Int} (h : allDig d = true) : isBytes d := by
  intro x hx
  have := List.all_eq_true.1 h x hx
  have := dig_iff.1 this
  omega
theorem digitsOf_ok {n : Int} (h : in64 n) : (n < 0 → 0 ≤ -n ∧ -n < 10 ^ 20) ∧ (¬ n < 0 → 0 ≤ n ∧ n < 10 ^ 20) := by
  unfold in64 at h
  have : (10 : Int) ^ 20 = 100000000000000000000 := by decide
  rw [this]; omega
theorem textOf_bytes {n : Int} (h : in64 n) : isBytes (textOf n) := by
  have hb := digitsOf_ok h
  unfold textOf num_Text.digitsOf
  by_cases c : n < 0
  · rw [if_pos c, if_pos c]
    have := dgs_ok 20 (-n) (hb.1 c).1 (hb.1 c).2 (by omega)
    intro x hx
    rcases List.mem_cons.1 hx with rfl | hx
    · omega
    · exact allDig_bytes this.1 x hx
  · rw [if_neg c, if_neg c]
    have := dgs_ok 20 n (hb.2 c).1 (hb.2 c).2 (by omega)
    exact allDig_bytes this.1
theorem parsed_text {n : Int} (h : in64 n) : parsed (textOf n) = (n, 0) := by
  have hb := digitsOf_ok h
  unfold parsed textOf num_Text.digitsOf
  by_cases c : n < 0
  · rw [if_pos c, if_pos c]
    obtain ⟨i1, i2, i3, i4, i5, i6, i7⟩ := dgs_ok 20 (-n) (hb.1 c).1 (hb.1 c).2 (by omega)
    have hok : okText (45 :: num_Text.dgs 20 (-n)).length (num_Text.dgs 20 (-n)) = true := by
      unfold okText
      have : ¬ rd (num_Text.dgs 20 (-n)) 0 = 48 := fun z => by have := i4 z; omega
      simp [i1, i3, this]
    rw [if_pos ⟨rfl, by simp⟩, List.drop_one, List.tail_cons, if_pos hok, i2]
    unfold signed
    rw [if_pos rfl, Int.neg_neg, res_in h]
  · rw [if_neg c, if_neg c]
    obtain ⟨i1, i2, i3, i4, i5, i6, i7⟩ := dgs_ok 20 n (hb.2 c).1 (hb.2 c).2 (by omega)
    have hok : okText (num_Text.dgs 20 n).length (num_Text.dgs 20 n) = true := by
      unfold okText
      by_cases z : rd (num_Text.dgs 20 n) 0 = 48
      · have := i7 (i4 z)
        simp [i1, i3, this]
      · simp [i1, i3, z]
    rw [if_neg (fun z => i6 z.1), if_pos hok, i2]
    unfold signed
    rw [if_neg (by simp), res_in h]
theorem text_parsed {s : List Int} {n : Int} (hs : isBytes s) (h : parsed s = (n, 0)) : in64 n ∧ textOf n = s := by
  unfold parsed at h
  have h20 : (10 : Int) ^ 20 = 100000000000000000000 := by decide
  by_cases c : rd s 0 = 45 ∧ s ≠ []
  · rw [if_pos c] at h
    by_cases g : okText s.length (s.drop 1) = true
    · rw [if_pos g] at h
      unfold signed at h
      rw [if_pos rfl] at h
      by_cases hin : in64 (-(val 0 (s.drop 1)))
      · rw [res_in hin] at h
        injection h with h1 _
        unfold okText at g
        simp only [Bool.and_eq_true, Bool.not_eq_true', Bool.and_eq_false_iff, beq_eq_false_iff_ne, decide_eq_false_iff_not] at g
        obtain ⟨⟨g1, g2⟩, g3⟩ := g
        obtain ⟨x, t, rfl⟩ : ∃ x t, s = x :: t := by
          cases s with
          | nil => exact absurd rfl c.2
          | cons x t => exact ⟨x, t, rfl⟩
        have hx : x = 45 := c.1
        subst hx
        simp only [List.drop_one, List.tail_cons] at *
        have hlen : 1 < (45 :: t).length := by
          have : 0 < t.length := List.length_pos_iff.2 g1
          simp; omega
        have hne : rd t 0 ≠ 48 := fun z => by rcases g2 with g2 | g2 <;> omega
        have hp := val_pos t g3 g1 hne
        have h64 : in64 n := by rw [← h1]; exact hin
        refine ⟨h64, ?_⟩
        unfold textOf num_Text.digitsOf
        unfold in64 at hin
        rw [if_pos (by omega), if_pos (by omega), ← h1, Int.neg_neg, dgs_one t.length t 20 rfl g3 g1 (fun z => absurd z hne) (by omega) (by omega)]
      · rw [res_out hin] at h; injection h with _ h2; exact absurd h2 (by decide)
    · rw [if_neg g] at h; injection h with _ h2; exact absurd h2 (by decide)
  · rw [if_neg c] at h
    by_cases g : okText s.length s = true
    · rw [if_pos g] at h
      unfold signed at h
      rw [if_neg (by simp)] at h
      by_cases hin : in64 (val 0 s)
      · rw [res_in hin] at h
        injection h with h1 _
        unfold okText at g
        simp only [Bool.and_eq_true, Bool.not_eq_true', Bool.and_eq_false_iff, beq_eq_false_iff_ne, decide_eq_false_iff_not] at g
        obtain ⟨⟨g1, g2⟩, g3⟩ := g
        have hp := val_ge s 0 (by omega) g3
        have h64 : in64 n := by rw [← h1]; exact hin
        refine ⟨h64, ?_⟩
        unfold textOf num_Text.digitsOf
        unfold in64 at hin
        have hz : rd s 0 = 48 → s.length = 1 := fun z => by
          have : 0 < s.length := List.length_pos_iff.2 g1
          rcases g2 with g2 | g2 <;> omega
        rw [if_neg (by omega), if_neg (by omega), ← h1, dgs_one s.length s 20 rfl g3 g1 hz (by omega) (by omega)]
      · rw [res_out hin] at h; injection h with _ h2; exact absurd h2 (by decide)
    · rw [if_neg g] at h; injection h with _ h2; exact absurd h2 (by decide)
end Go.Proofs.Ytbjfhchlngiboaa.Pure
