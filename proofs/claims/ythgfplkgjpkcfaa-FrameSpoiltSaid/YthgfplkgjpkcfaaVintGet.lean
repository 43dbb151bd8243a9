/- Plain laws of reading a number's bytes, as far as frames need them. -/
import Derived.Test.YthgfplkgjpkcfaaPAllx3
import Derived.Test.YthgfplkgjpkcfaaVintPut
set_option linter.unusedVariables false
set_option linter.unusedSimpArgs false
namespace Go.Proofs.Ythgfplkgjpkcfaa.Pure
open Go.RowKit Go.Proofs.Ythgfplkgjpkcfaa.PAll Go.Proofs.YthgfplkgjpkcfaaW.PrintWords Go.Proofs.YthgfplkgjpkcfaaW.PrintLast

theorem u8_and127 {x : Int} (h0 : 0 ≤ x) (h1 : x < 256) : Go.bits .and .u8 x 127 = x % 128 := bits_mask .u8 8 (by decide) wraps_u8 7 (by decide) x h0 h1
theorem u8_and128 {c : Int} (h0 : 0 ≤ c) (h1 : c < 256) : Go.bits .and .u8 c 128 = 0 ↔ c < 128 := by
  obtain ⟨n, rfl⟩ := Int.eq_ofNat_of_zero_le h0
  have hn : n < 256 := by omega
  have key : ∀ m : Fin 256, (Go.bits .and .u8 ((m.val : Nat) : Int) 128 = 0 ↔ ((m.val : Nat) : Int) < 128) := by decide +kernel
  exact key ⟨n, hn⟩
theorem u64_or_shift {n c : Int} {k : Nat} (hk : k ≤ 9) (hn0 : 0 ≤ n) (hn1 : n < 2 ^ (7 * k)) (hc0 : 0 ≤ c) (hc1 : c < 128) (hc2 : k = 9 → c ≤ 1) :
    Go.bits .or .u64 n (shl .u64 (IntKind.u64.wrap c) (wrap64 (7 * (k : Int)))) = n + c * 2 ^ (7 * k) := by
  have hw : wrap64 (7 * (k : Int)) = ((7 * k : Nat) : Int) := by rw [wrap64_in (by omega) (by omega)]; omega
  have hc : IntKind.u64.wrap c = c := by rw [wrap_u64]; omega
  have hs : shl .u64 c ((7 * k : Nat) : Int) = c * 2 ^ (7 * k) ∧ 0 ≤ c * 2 ^ (7 * k) ∧ c * 2 ^ (7 * k) < 18446744073709551616 := by
    have hm : min (((7 * k : Nat) : Int)).toNat IntKind.u64.bits = 7 * k := by
      rw [Int.toNat_natCast]; have : IntKind.u64.bits = 64 := by decide
      omega
    have hb : 0 ≤ c * 2 ^ (7 * k) ∧ c * 2 ^ (7 * k) < 18446744073709551616 := by
      have : k = 0 ∨ k = 1 ∨ k = 2 ∨ k = 3 ∨ k = 4 ∨ k = 5 ∨ k = 6 ∨ k = 7 ∨ k = 8 ∨ k = 9 := by omega
      rcases this with rfl | rfl | rfl | rfl | rfl | rfl | rfl | rfl | rfl | rfl <;> simp <;> omega
    refine ⟨?_, hb⟩
    unfold shl
    rw [hm, wrap_u64, Int.emod_eq_of_lt hb.1 hb.2]
  rw [hw, hc, hs.1, or_comm_, bits_join .u64 64 (by decide) wraps_u64 (7 * k) _ n hs.2.1 (Int.mul_emod_left _ _) hs.2.2 hn0 hn1 ?_]
  · omega
  · have : k = 0 ∨ k = 1 ∨ k = 2 ∨ k = 3 ∨ k = 4 ∨ k = 5 ∨ k = 6 ∨ k = 7 ∨ k = 8 ∨ k = 9 := by omega
    rcases this with rfl | rfl | rfl | rfl | rfl | rfl | rfl | rfl | rfl | rfl <;> simp at hn1 ⊢ <;> omega
def dec : Nat → Int → List Int → Int × Nat × Int
  | _, _, [] => (0, 0, 3)
  | k, n, c :: t => if (0 < k ∧ c = 0) ∨ (k = 9 ∧ 1 < c) then (0, 0, 4) else if c < 128 then (n + c * 2 ^ (7 * k), 1, 0) else ((dec (k + 1) (n + c % 128 * 2 ^ (7 * k)) t).1, (dec (k + 1) (n + c % 128 * 2 ^ (7 * k)) t).2.1 + 1, (dec (k + 1) (n + c % 128 * 2 ^ (7 * k)) t).2.2)
theorem bytes8_drop {l : List Int} (h : bytes8 l) (i : Nat) : bytes8 (l.drop i) := fun x hx => h x (List.mem_of_mem_drop hx)
theorem bytes8_tail {c : Int} {t : List Int} (h : bytes8 (c :: t)) : bytes8 t := fun x hx => h x (List.mem_cons_of_mem _ hx)
theorem drop_cons {xs : List Int} {k : Nat} {c : Int} {t : List Int} (h : xs.drop k = c :: t) : k < xs.length ∧ rd xs (k : Int) = c ∧ xs.drop (k + 1) = t := by
  have hk : k < xs.length := by
    rcases Nat.lt_or_ge k xs.length with h1 | h1
    · exact h1
    · rw [List.drop_eq_nil_of_le h1] at h; cases h
  rw [List.drop_eq_getElem_cons hk] at h
  injection h with h1 h2
  refine ⟨hk, ?_, h2⟩
  unfold rd
  rw [Int.toNat_natCast, List.getD_eq_getElem?_getD, List.getElem?_eq_getElem hk]
  exact h1
theorem may_f (K : Nat) (c : Int) (k : Nat) (hk : k ≤ 9) (hc : 0 ≤ c) (hK : 0 < K) : vint_may.f K c (k : Int) = some (!decide ((0 < k ∧ c = 0) ∨ (k = 9 ∧ 1 < c))) := by
  obtain ⟨K, rfl⟩ : ∃ m, K = m + 1 := ⟨K - 1, by omega⟩
  unfold vint_may.f
  by_cases h0 : 0 < k
  · rw [if_pos (by omega)]
    simp only [vint_may.j0]
    by_cases hz : c = 0
    · subst hz; simp [h0]
    · rw [if_neg (by simp [hz])]
      by_cases h9 : k = 9
      · subst h9
        rw [if_pos (by omega)]
        by_cases h1 : c > 1
        · rw [if_pos h1]; simp [h1]
        · rw [if_neg h1]; simp [hz]; omega
      · rw [if_neg (by omega)]; simp [hz, h9]
  · rw [if_neg (by omega)]
    simp only [vint_may.j0]
    have : k = 0 := by omega
    subst this
    simp
theorem acc_bd {k : Nat} {n c : Int} (hk : k ≤ 9) (hn0 : 0 ≤ n) (hn1 : n < 2 ^ (7 * k)) (hc0 : 0 ≤ c) (hc1 : c < 128) : 0 ≤ n + c * 2 ^ (7 * k) ∧ n + c * 2 ^ (7 * k) < 2 ^ (7 * (k + 1)) := by
  have : k = 0 ∨ k = 1 ∨ k = 2 ∨ k = 3 ∨ k = 4 ∨ k = 5 ∨ k = 6 ∨ k = 7 ∨ k = 8 ∨ k = 9 := by omega
  rcases this with rfl | rfl | rfl | rfl | rfl | rfl | rfl | rfl | rfl | rfl <;> simp at hn1 ⊢ <;> omega
theorem dec_err (t : List Int) : ∀ (k : Nat) (n : Int), (dec k n t).2.1 ≤ t.length ∧ ((dec k n t).2.2 ≠ 0 → (dec k n t).1 = 0) ∧ ((dec k n t).2.2 = 0 → 0 < (dec k n t).2.1) ∧ ((dec k n t).2.2 = 0 ∨ (dec k n t).2.2 = 3 ∨ (dec k n t).2.2 = 4) := by
  induction t with
  | nil => intro k n; simp [dec]
  | cons c t ih =>
    intro k n
    have h := ih (k + 1) (n + c % 128 * 2 ^ (7 * k))
    simp only [dec]
    split
    · simp
    · split
      · simp
      · simp only [List.length_cons]
        exact ⟨by omega, h.2.1, fun _ => by omega, h.2.2.2⟩
theorem wrap_at {a : Int} {k : Nat} (h0 : 0 ≤ a) (h1 : a + k ≤ 140737488351232) : wrap64 (a + (k : Int)) = a + k := wrap64_in (by omega) (by omega)
theorem get_l0 (l : List Int) (a : Nat) (hl : l.length ≤ 140737488351232) (hb : bytes8 l) (ha : a ≤ l.length) (t : List Int) : ∀ (k K : Nat) (n : Int), k ≤ 9 → 0 ≤ n → n < 2 ^ (7 * k) → l.drop (a + k) = t → (t = [] → k = 0) → t.length + 1 < K →
    vint_Get.l0 K l (a : Int) n (l.length : Int) (l.drop a) ((l.drop a).length : Int) (k : Int) = some ((dec k n t).1, (a : Int) + k + (dec k n t).2.1, (dec k n t).2.2) := by
  induction t with
  | nil =>
    intro k K n hk hn0 hn1 ht h0 hK
    obtain ⟨K, rfl⟩ : ∃ m, K = m + 1 := ⟨K - 1, by omega⟩
    obtain rfl := h0 rfl
    have hal : a = l.length := by
      have := List.drop_eq_nil_iff.1 ht
      omega
    simp only [vint_Get.l0, dec]
    rw [if_neg (by simp; omega), if_pos (by omega)]
    simp; omega
  | cons c t ih =>
    intro k K n hk hn0 hn1 ht h0 hK
    obtain ⟨K, rfl⟩ : ∃ m, K = m + 1 := ⟨K - 1, by omega⟩
    have ht' : (l.drop a).drop k = c :: t := by rw [List.drop_drop]; exact ht
    obtain ⟨hkl, hrd, ht2⟩ := drop_cons ht'
    obtain ⟨hakl, _, _⟩ := drop_cons ht
    have hc : 0 ≤ c ∧ c < 256 := hb c (List.mem_of_mem_drop (i := a + k) (by rw [ht]; exact List.mem_cons_self))
    have htl : (t.length : Int) + 1 + k + a = l.length := by
      have := congrArg List.length ht
      simp at this; omega
    simp only [vint_Get.l0]
    rw [if_pos (by omega), if_pos (by omega), if_pos (by omega), hrd, may_f K c k hk hc.1 (by simp at hK; omega), Option.bind_some]
    rw [wrap_at (by omega) (by omega), wrap64_in (n := (a : Int) + k + 1) (by omega) (by omega), wrap64_in (n := (k : Int) + 1) (by omega) (by omega)]
    simp only [dec]
    by_cases hbad : (0 < k ∧ c = 0) ∨ (k = 9 ∧ 1 < c)
    · rw [if_neg (by rw [decide_eq_true hbad]; simp), if_pos hbad]; simp
    · rw [if_pos (by rw [decide_eq_false hbad]; rfl), if_neg hbad, if_pos (by rw [wrap64_in (by omega) (by omega)]; omega)]
      have h127 := u8_and127 hc.1 hc.2
      rw [h127]
      by_cases h128 : c < 128
      · rw [if_pos ((u8_and128 hc.1 hc.2).2 h128), if_neg (by omega), if_pos h128, u64_or_shift hk hn0 hn1 (by omega) (by omega) (by omega), show c % 128 = c from by omega]
        simp
      · rw [if_neg (fun h => h128 ((u8_and128 hc.1 hc.2).1 h)), if_neg h128]
        have hk9 : k ≤ 8 := by omega
        have hacc := acc_bd (c := c % 128) hk hn0 hn1 (by omega) (by omega)
        rw [u64_or_shift hk hn0 hn1 (by omega) (by omega) (by omega)]
        by_cases hend : t = []
        · subst hend
          rw [if_pos (by simp at htl; omega)]
          simp at htl
          simp [dec]; omega
        · rw [if_neg (by have : 0 < t.length := List.length_pos_iff.2 hend; omega)]
          have := ih (k + 1) K (n + c % 128 * 2 ^ (7 * k)) (by omega) hacc.1 hacc.2 (by rw [← Nat.add_assoc, ← List.drop_drop, ht]; rfl) (fun h => absurd h hend) (by simp at hK ⊢; omega)
          rw [show ((k : Int) + 1) = ((k + 1 : Nat) : Int) from by omega, this]
          simp; omega
def got (l : List Int) (a : Int) : Int × Int × Int :=
  if a < 0 ∨ (l.length : Int) < a then (0, 0, 1) else ((dec 0 0 (l.drop a.toNat)).1, a + (dec 0 0 (l.drop a.toNat)).2.1, (dec 0 0 (l.drop a.toNat)).2.2)
theorem get_f (l : List Int) (a : Int) (k : Nat) (hl : l.length ≤ 140737488351232) (hb : bytes8 l) (hk : 2 * l.length + 10 < k) : vint_Get.f k l a = some (got l a) := by
  obtain ⟨k, rfl⟩ : ∃ m, k = m + 1 := ⟨k - 1, by omega⟩
  have hj : ∀ b : Bool, b = decide (a < 0 ∨ (l.length : Int) < a) → vint_Get.j0 (k + 1) l a b = some (got l a) := by
    intro b hbb
    subst hbb
    rw [vint_Get.j0]
    unfold got
    by_cases h : a < 0 ∨ (l.length : Int) < a
    · rw [if_pos (decide_eq_true h), if_pos h]
    · rw [if_neg (by rw [decide_eq_false h]; simp), if_neg h, if_pos (by omega), if_pos (by omega)]
      obtain ⟨m, rfl⟩ := Int.eq_ofNat_of_zero_le (show 0 ≤ a by omega)
      rw [Int.toNat_natCast]
      have := get_l0 l m hl hb (by omega) (l.drop m) 0 k 0 (by omega) (by omega) (by decide) rfl (fun _ => rfl) (by simp; omega)
      simpa using this
  unfold vint_Get.f
  by_cases h : a < 0
  · rw [if_pos h]; exact hj true (by simp [h])
  · rw [if_neg h]; exact hj _ (by simp [h])
theorem dec_vb (d : Nat) : ∀ (k : Nat) (n m : Int) (t : List Int), k + d = 9 → 0 ≤ m → m < 2 ^ (64 - 7 * k) → (0 < k → m ≠ 0) →
    dec k n (vb d m ++ t) = (n + m * 2 ^ (7 * k), (vb d m).length, 0) := by
  induction d with
  | zero =>
    intro k n m t hk hm0 hm1 hmk
    obtain rfl : k = 9 := by omega
    have h2 : m < 2 := by simpa using hm1
    have := hmk (by omega)
    simp only [vb, List.cons_append, List.nil_append, dec]
    rw [if_neg (by omega), if_pos (by omega)]
    simp
  | succ d ih =>
    intro k n m t hk hm0 hm1 hmk
    unfold vb
    by_cases h : m ≥ 128
    · rw [if_pos h, List.cons_append]
      simp only [dec]
      rw [if_neg (by omega), if_neg (by omega), show (m % 128 + 128) % 128 = m % 128 from by omega]
      have hm2 : m / 128 < 2 ^ (64 - 7 * (k + 1)) := by
        have : k = 0 ∨ k = 1 ∨ k = 2 ∨ k = 3 ∨ k = 4 ∨ k = 5 ∨ k = 6 ∨ k = 7 ∨ k = 8 := by omega
        rcases this with rfl | rfl | rfl | rfl | rfl | rfl | rfl | rfl | rfl <;> simp at hm1 ⊢ <;> omega
      rw [ih (k + 1) _ (m / 128) t (by omega) (by omega) hm2 (fun _ => by omega)]
      simp only [List.length_cons]
      refine Prod.ext ?_ rfl
      show n + m % 128 * 2 ^ (7 * k) + m / 128 * 2 ^ (7 * (k + 1)) = n + m * 2 ^ (7 * k)
      rw [show 7 * (k + 1) = 7 * k + 7 from by omega, Int.pow_add]
      have hm : m = m % 128 + 128 * (m / 128) := by omega
      generalize (2 : Int) ^ (7 * k) = p
      have h7 : (2 : Int) ^ 7 = 128 := by decide
      rw [h7]
      have e : m * p = (m % 128) * p + (128 * (m / 128)) * p := by rw [← Int.add_mul, ← hm]
      rw [e, Int.mul_comm p 128, ← Int.mul_assoc, Int.mul_comm (m / 128) 128]
      omega
    · rw [if_neg h]
      simp only [List.cons_append, List.nil_append, dec]
      rw [if_neg (by omega), if_pos (by omega)]
      simp
theorem vb_dec (t : List Int) : ∀ (k d : Nat) (n : Int), k + d = 9 → bytes8 t → (dec k n t).2.2 = 0 → ∃ m : Int, 0 ≤ m ∧ (0 < k → m ≠ 0) ∧ (dec k n t).1 = n + m * 2 ^ (7 * k) ∧ t.take (dec k n t).2.1 = vb d m := by
  induction t with
  | nil => intro k d n _ _ h; simp [dec] at h
  | cons c t ih =>
    intro k d n hk hb
    have hc := hb c List.mem_cons_self
    simp only [dec]
    split
    · intro h; simp at h
    · rename_i hbad
      split
      · rename_i h128
        intro _
        refine ⟨c, hc.1, fun h0 h1 => hbad (Or.inl ⟨h0, h1⟩), rfl, ?_⟩
        cases d with
        | zero => simp [vb]
        | succ d => unfold vb; rw [if_neg (by omega)]; simp
      · rename_i h128
        intro h
        have hk8 : k ≤ 8 := by omega
        obtain ⟨d, rfl⟩ : ∃ e, d = e + 1 := ⟨d - 1, by omega⟩
        obtain ⟨m, hm0, hmk, hm1, hm2⟩ := ih (k + 1) d (n + c % 128 * 2 ^ (7 * k)) (by omega) (bytes8_tail hb) h
        have hm3 := hmk (by omega)
        refine ⟨c % 128 + 128 * m, by omega, fun _ => by omega, ?_, ?_⟩
        · rw [hm1, show 7 * (k + 1) = 7 * k + 7 from by omega, Int.pow_add]
          have h7 : (2 : Int) ^ 7 = 128 := by decide
          rw [h7]
          generalize (2 : Int) ^ (7 * k) = p
          rw [Int.add_mul, Int.mul_comm p 128, ← Int.mul_assoc, Int.mul_comm m 128]
          omega
        · simp only [List.take_succ_cons, hm2]
          unfold vb
          rw [if_pos (by omega), show (c % 128 + 128 * m) / 128 = m from by omega, show (c % 128 + 128 * m) % 128 + 128 = c from by omega]
          cases d <;> rfl
theorem dec_bd (t : List Int) : ∀ (k : Nat) (n : Int), k ≤ 9 → 0 ≤ n → n < 2 ^ (7 * k) → bytes8 t → 0 ≤ (dec k n t).1 ∧ (dec k n t).1 < 18446744073709551616 := by
  induction t with
  | nil => intro k n _ _ _ _; simp [dec]
  | cons c t ih =>
    intro k n hk hn0 hn1 hb
    have hc := hb c List.mem_cons_self
    simp only [dec]
    split
    · simp
    · rename_i hbad
      split
      · rename_i h128
        have hacc := acc_bd hk hn0 hn1 hc.1 h128
        have : k = 0 ∨ k = 1 ∨ k = 2 ∨ k = 3 ∨ k = 4 ∨ k = 5 ∨ k = 6 ∨ k = 7 ∨ k = 8 ∨ k = 9 := by omega
        rcases this with rfl | rfl | rfl | rfl | rfl | rfl | rfl | rfl | rfl | rfl <;> simp at hn1 hbad hacc ⊢ <;> omega
      · have hacc := acc_bd (c := c % 128) hk hn0 hn1 (by omega) (by omega)
        exact ih (k + 1) _ (by omega) hacc.1 hacc.2 (bytes8_tail hb)
theorem got_bd {l : List Int} (hb : bytes8 l) (a : Int) : 0 ≤ (got l a).1 ∧ (got l a).1 < 18446744073709551616 := by
  unfold got
  split
  · simp
  · exact dec_bd _ 0 0 (by omega) (by omega) (by decide) (bytes8_drop hb _)
end Go.Proofs.Ythgfplkgjpkcfaa.Pure
