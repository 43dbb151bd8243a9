/- Plain laws of tokens: what stands at a place of a text, byte by byte; the program's and the document's answer both say just that. No condition. -/
import Derived.Test.YtkbngfelegcplaaLexQuoted
set_option linter.unusedVariables false
set_option linter.unusedSimpArgs false
namespace Go.Proofs.Ytkbngfelegcplaa.Pure
open Go.RowKit Go.Proofs.Ytkbngfelegcplaa.PAll Go.Proofs.YtkbngfelegcplaaW.PrintWords Go.Proofs.YtkbngfelegcplaaW.PrintLast Go.Proofs.YtkbngfelegcplaaW.PrintMore Go.Proofs.YtkbngfelegcplaaW.HandWords

abbrev upB : Int → Bool := lex_scanner_letters.upper
abbrev loB : Int → Bool := lex_scanner_letters.lower
abbrev diB : Int → Bool := lex_scanner_letters.digit
abbrev siB : Int → Bool := lex_scanner_letters.sign
abbrev lenOf : (Int → Bool) → List Int → Nat := lex_scanner_letters.len
def oneList : List Int := [40, 41, 44, 46, 43, 45, 42, 47, 37, 61, 60, 62, 33, 124, 123, 125, 91, 93]
def twoList : List (Int × Int) := [(60, 61), (62, 61), (60, 62), (45, 62)]
def signLen : List Int → Nat
  | [] => 0
  | [c] => if c ∈ oneList then 1 else 0
  | c :: d :: _ => if (c, d) ∈ twoList then 2 else if c ∈ oneList then 1 else 0
theorem signLen_one (c : Int) : signLen [c] = if c ∈ oneList then 1 else 0 := rfl
theorem signLen_two (c d : Int) (r : List Int) : signLen (c :: d :: r) = if (c, d) ∈ twoList then 2 else if c ∈ oneList then 1 else 0 := rfl
/-- what a text that is not quoted begins with: the kind, how many bytes; none: it can't be -/
def tok (X : List Int) : Option (Int × Nat) :=
  if upB (rd X 0) = true then (if lenOf upB X > 32 then none else some (1, lenOf upB X))
  else if loB (rd X 0) = true then (if lenOf siB X > 32 then none else some (2, lenOf siB X))
  else if diB (rd X 0) = true then (if lenOf diB X > 19 ∨ (lenOf diB X > 1 ∧ rd X 0 = 48) then none else some (3, lenOf diB X))
  else if signLen X = 0 then none else some (5, signLen X)
/-- the token at the beginning of a text: kind, text, how many bytes, error -/
inductive One (X : List Int) : Int → List Int → Nat → Int → Prop
  | text (h : rd X 0 = 39) {t : List Int} {p : Int} (hu : UqAll X t p 0) : One X 4 t p.toNat 0
  | textE (h : rd X 0 = 39) {t : List Int} {p e : Int} (hu : UqAll X t p e) (he : e ≠ 0) : One X 0 [] p.toNat e
  | is (h : rd X 0 ≠ 39) {k : Int} {n : Nat} (ht : tok X = some (k, n)) : One X k (X.take n) n 0
  | no (h : rd X 0 ≠ 39) (ht : tok X = none) : One X 0 [] 0 4
theorem One.all (X : List Int) : ∃ k t n e, One X k t n e := by
  by_cases h : rd X 0 = 39
  · obtain ⟨t, p, e, hu⟩ := UqAll.all X
    by_cases he : e = 0
    · subst he; exact ⟨_, _, _, _, .text h hu⟩
    · exact ⟨_, _, _, _, .textE h hu he⟩
  · cases ht : tok X with
    | none => exact ⟨_, _, _, _, .no h ht⟩
    | some kn => exact ⟨_, _, _, _, .is h ht⟩
theorem Uq.bd {b : List Int} {i : Int} {out t : List Int} {p e : Int} (h : Uq b i out t p e) : 0 ≤ i → 0 ≤ p ∧ p ≤ b.length ∧ (e = 0 → i < p) := by
  induction h with
  | ends h1 => intro h; exact ⟨by omega, by omega, by omega⟩
  | long h1 h2 h3 => intro h; exact ⟨by omega, by omega, by omega⟩
  | close h1 h2 h3 => intro h; exact ⟨by omega, by omega, by omega⟩
  | plain h1 h2 h3 h4 h ih => intro h; have := ih (by omega); exact ⟨by omega, by omega, fun he => by have := this.2.2 he; omega⟩
  | odd h1 h2 h3 h4 => intro h; exact ⟨by omega, by omega, by omega⟩
  | cut1 h1 h2 h3 => intro h; exact ⟨by omega, by omega, by omega⟩
  | sign h1 h2 h3 h ih => intro h; have := ih (by omega); exact ⟨by omega, by omega, fun he => by have := this.2.2 he; omega⟩
  | nosign h1 h2 h3 h4 => intro h; exact ⟨by omega, by omega, by omega⟩
  | cut2 h1 h2 h3 h4 => intro h; exact ⟨by omega, by omega, by omega⟩
  | dig1 h1 h2 h3 h4 => intro h; exact ⟨by omega, by omega, by omega⟩
  | cut3 h1 h2 h3 h4 h5 => intro h; exact ⟨by omega, by omega, by omega⟩
  | dig2 h1 h2 h3 h4 h5 => intro h; exact ⟨by omega, by omega, by omega⟩
  | bad h1 h2 h3 h4 h5 hx h6 => intro h; exact ⟨by omega, by omega, by omega⟩
  | hex h1 h2 h3 h4 h5 hx h6 h ih => intro h; have := ih (by omega); exact ⟨by omega, by omega, fun he => by have := this.2.2 he; omega⟩
theorem UqAll.bd {b t : List Int} {p e : Int} (h : UqAll b t p e) : 0 ≤ p ∧ p ≤ b.length ∧ (e = 0 → 0 < p) := by
  rcases h with ⟨_, _, rfl, rfl⟩ | ⟨_, _, hu⟩
  · exact ⟨by omega, by omega, by omega⟩
  · have := hu.bd (by omega)
    exact ⟨this.1, this.2.1, fun he => by have := this.2.2 he; omega⟩
theorem rd_zero {X : List Int} (h : X ≠ []) : ∃ r, X = rd X 0 :: r := by
  cases X with
  | nil => exact absurd rfl h
  | cons c r => exact ⟨r, rfl⟩
theorem len_pos (up : Int → Bool) (X : List Int) (hX : X ≠ []) (h : up (rd X 0) = true) : 0 < lenOf up X := by
  obtain ⟨r, hr⟩ := rd_zero hX
  unfold lenOf lex_scanner_letters.len
  rw [hr, List.takeWhile_cons_of_pos h]; simp
theorem signLen_le (X : List Int) : signLen X ≤ X.length ∧ signLen X ≤ 2 := by
  match X with
  | [] => simp [signLen]
  | [c] => rw [signLen_one]; split <;> simp
  | c :: d :: r =>
    rw [signLen_two]
    split
    · simp
    · split <;> simp
theorem tok_bd {X : List Int} {k : Int} {n : Nat} (hX : X ≠ []) (h : tok X = some (k, n)) : 0 < n ∧ n ≤ X.length ∧ (k = 1 ∨ k = 2 ∨ k = 3 ∨ k = 5) := by
  unfold tok at h
  have l1 := lex_scanner_letters.len_le upB X
  have l2 := lex_scanner_letters.len_le siB X
  have l3 := lex_scanner_letters.len_le diB X
  have l4 := signLen_le X
  by_cases hu : upB (rd X 0) = true
  · rw [if_pos hu] at h
    have := len_pos upB X hX hu
    split at h
    · cases h
    · simp only [Option.some.injEq, Prod.mk.injEq] at h; obtain ⟨rfl, rfl⟩ := h
      exact ⟨this, l1, .inl rfl⟩
  · rw [if_neg hu] at h
    by_cases hl : loB (rd X 0) = true
    · rw [if_pos hl] at h
      have hs : siB (rd X 0) = true := by
        show lex_scanner_letters.sign _ = true
        unfold lex_scanner_letters.sign
        rw [show lex_scanner_letters.lower (rd X 0) = true from hl]; rfl
      have := len_pos siB X hX hs
      split at h
      · cases h
      · simp only [Option.some.injEq, Prod.mk.injEq] at h; obtain ⟨rfl, rfl⟩ := h
        exact ⟨this, l2, .inr (.inl rfl)⟩
    · rw [if_neg hl] at h
      by_cases hd : diB (rd X 0) = true
      · rw [if_pos hd] at h
        have := len_pos diB X hX hd
        split at h
        · cases h
        · simp only [Option.some.injEq, Prod.mk.injEq] at h; obtain ⟨rfl, rfl⟩ := h
          exact ⟨this, l3, .inr (.inr (.inl rfl))⟩
      · rw [if_neg hd] at h
        split at h
        · cases h
        · rename_i h0
          simp only [Option.some.injEq, Prod.mk.injEq] at h; obtain ⟨rfl, rfl⟩ := h
          exact ⟨by omega, l4.1, .inr (.inr (.inr rfl))⟩
theorem One.bd {X t : List Int} {k e : Int} {n : Nat} (hX : X ≠ []) (h : One X k t n e) : n ≤ X.length ∧ (e = 0 → 0 < n) ∧ k ≠ 6 ∧ (e = 0 → k ≠ 4 → t = X.take n) ∧ (e ≠ 0 → k = 0 ∧ t = []) := by
  cases h with
  | text h hu =>
    have := hu.bd
    exact ⟨by omega, fun _ => by have := this.2.2 rfl; omega, by decide, fun _ h => absurd rfl h, fun h => absurd rfl h⟩
  | textE h hu he =>
    have := hu.bd
    exact ⟨by omega, fun h => absurd h he, by decide, fun h => absurd h he, fun _ => ⟨rfl, rfl⟩⟩
  | is h ht =>
    have := tok_bd hX ht
    exact ⟨this.2.1, fun _ => this.1, by omega, fun _ _ => rfl, fun h => absurd rfl h⟩
  | no h ht => exact ⟨by omega, fun h => absurd h (by decide), by decide, fun h => absurd h (by decide), fun _ => ⟨rfl, rfl⟩⟩

/-! ### bytes of parts -/
theorem isBytes_drop {l : List Int} (h : isBytes l) (n : Nat) : isBytes (l.drop n) := fun x hx => h x (List.mem_of_mem_drop hx)
theorem isBytes_take {l : List Int} (h : isBytes l) (n : Nat) : isBytes (l.take n) := fun x hx => h x (List.mem_of_mem_take hx)
theorem bytes_rest (s : ByteArray) (a : Nat) : bytesOf (s.extract a s.size) = (bytesOf s).drop a := by
  rw [bytesOf_extract, List.take_of_length_le (by rw [bytesOf_length]; exact Nat.le_refl _)]
theorem ext_take (s : ByteArray) (a n : Nat) : s.extract a (a + n) = strOfNums (((bytesOf s).drop a).take n) := by
  refine bytesOf_inj ?_
  rw [bytesOf_extract, bytesOf_strOfNums (isBytes_take (isBytes_drop (bytesOf_bytes s) a) n), List.drop_take, Nat.add_sub_cancel_left]
theorem rd_dropN (b : List Int) (a : Nat) (j : Nat) : rd (b.drop a) (j : Int) = rd b ((a + j : Nat) : Int) := by
  unfold rd
  rw [Int.toNat_natCast, Int.toNat_natCast, List.getD_eq_getElem?_getD, List.getD_eq_getElem?_getD, List.getElem?_drop]
theorem bt_drop (s : ByteArray) (a j : Nat) : bt s ((a + j : Nat) : Int) = rd ((bytesOf s).drop a) (j : Int) := by rw [bt_rd, rd_dropN]

/-! ### signs -/
def sgL (k : Nat) : List Int := ([[60, 61], [62, 61], [60, 62], [45, 62], [40], [41], [44], [46], [43], [45], [42], [47], [37], [61], [60], [62], [33], [124], [123], [125], [91], [93]] : List (List Int)).getD k []
theorem sg_bytes (k : Nat) (hk : k < 22) : bytesOf (lex_scanner_sign.sg k) = sgL k := by
  have h : k = 0 ∨ k = 1 ∨ k = 2 ∨ k = 3 ∨ k = 4 ∨ k = 5 ∨ k = 6 ∨ k = 7 ∨ k = 8 ∨ k = 9 ∨ k = 10 ∨ k = 11 ∨ k = 12 ∨ k = 13 ∨ k = 14 ∨ k = 15 ∨ k = 16 ∨ k = 17 ∨ k = 18 ∨ k = 19 ∨ k = 20 ∨ k = 21 := by omega
  rcases h with rfl | rfl | rfl | rfl | rfl | rfl | rfl | rfl | rfl | rfl | rfl | rfl | rfl | rfl | rfl | rfl | rfl | rfl | rfl | rfl | rfl | rfl <;> rfl
theorem hit_iff (x : ByteArray) (k : Nat) (hk : k < 22) : lex_scanner_sign.hit x k = true ↔ (bytesOf x).take (sgL k).length = sgL k := by
  have hb := sg_bytes k hk
  have hl : (lex_scanner_sign.sg k).size = (sgL k).length := by rw [← hb, bytesOf_length]
  unfold lex_scanner_sign.hit
  rw [Bool.and_eq_true, decide_eq_true_iff, beq_iff_eq, toList_eq, bytesOf_extract, hb, hl, List.drop_zero]
  constructor
  · exact fun h => h.2
  · intro h
    refine ⟨?_, h⟩
    have := congrArg List.length h
    rw [List.length_take, bytesOf_length] at this
    omega
theorem find_spec (x : ByteArray) (n : Nat) : ∀ k, (lex_scanner_sign.find x n k = none ∧ ∀ j, k ≤ j → j < k + n → lex_scanner_sign.hit x j = false) ∨
    (∃ j, lex_scanner_sign.find x n k = some j ∧ k ≤ j ∧ j < k + n ∧ lex_scanner_sign.hit x j = true ∧ ∀ i, k ≤ i → i < j → lex_scanner_sign.hit x i = false) := by
  induction n with
  | zero => intro k; exact .inl ⟨rfl, fun j h1 h2 => by omega⟩
  | succ n ih =>
    intro k
    rw [lex_scanner_sign.find]
    by_cases h : lex_scanner_sign.hit x k = true
    · rw [if_pos h]
      exact .inr ⟨k, rfl, Nat.le_refl _, by omega, h, fun i h1 h2 => by omega⟩
    · rw [if_neg h]
      have h' := Bool.eq_false_iff.2 h
      rcases ih (k + 1) with ⟨h1, h2⟩ | ⟨j, h1, h2, h3, h4, h5⟩
      · refine .inl ⟨h1, fun j g1 g2 => ?_⟩
        by_cases e : j = k
        · rw [e]; exact h'
        · exact h2 j (by omega) (by omega)
      · refine .inr ⟨j, h1, by omega, by omega, h4, fun i g1 g2 => ?_⟩
        by_cases e : i = k
        · rw [e]; exact h'
        · exact h5 i (by omega) g2
theorem sgL_len (k : Nat) (hk : k < 22) : (sgL k).length = if k < 4 then 2 else 1 := by
  have : ∀ i : Fin 22, (sgL i.val).length = if i.val < 4 then 2 else 1 := by decide
  exact this ⟨k, hk⟩
theorem two_of (k : Nat) (hk : k < 4) : ∃ p, p ∈ twoList ∧ sgL k = [p.1, p.2] := by
  have : ∀ i : Fin 4, twoList[i.val]? = some (((sgL i.val).getD 0 0, (sgL i.val).getD 1 0)) ∧ sgL i.val = [(sgL i.val).getD 0 0, (sgL i.val).getD 1 0] := by decide
  obtain ⟨h1, h2⟩ := this ⟨k, hk⟩
  exact ⟨_, List.mem_of_getElem? h1, h2⟩
theorem of_two {p : Int × Int} (h : p ∈ twoList) : ∃ k, k < 4 ∧ sgL k = [p.1, p.2] := by
  unfold twoList at h
  simp only [List.mem_cons, List.not_mem_nil, or_false] at h
  rcases h with rfl | rfl | rfl | rfl
  · exact ⟨0, by decide, rfl⟩
  · exact ⟨1, by decide, rfl⟩
  · exact ⟨2, by decide, rfl⟩
  · exact ⟨3, by decide, rfl⟩
theorem one_of (k : Nat) (h4 : 4 ≤ k) (hk : k < 22) : ∃ c, c ∈ oneList ∧ sgL k = [c] := by
  have : ∀ i : Fin 18, oneList[i.val]? = some ((sgL (i.val + 4)).getD 0 0) ∧ sgL (i.val + 4) = [(sgL (i.val + 4)).getD 0 0] := by decide
  obtain ⟨h1, h2⟩ := this ⟨k - 4, by omega⟩
  rw [show (⟨k - 4, by omega⟩ : Fin 18).val + 4 = k from by simp; omega] at h1 h2
  exact ⟨_, List.mem_of_getElem? h1, h2⟩
theorem of_one {c : Int} (h : c ∈ oneList) : ∃ k, 4 ≤ k ∧ k < 22 ∧ sgL k = [c] := by
  obtain ⟨i, hi, hc⟩ := List.getElem_of_mem h
  have hl : oneList.length = 18 := rfl
  refine ⟨i + 4, by omega, by omega, ?_⟩
  have : ∀ i : Fin 18, sgL (i.val + 4) = [oneList.getD i.val 0] := by decide
  have h2 := this ⟨i, by omega⟩
  rw [List.getD_eq_getElem?_getD, List.getElem?_eq_getElem hi, hc] at h2
  exact h2
theorem find_sign (x : ByteArray) : (signLen (bytesOf x) = 0 ∧ lex_scanner_sign.find x 22 0 = none) ∨ (∃ j, lex_scanner_sign.find x 22 0 = some j ∧ 0 < signLen (bytesOf x) ∧ (lex_scanner_sign.sg j).size = signLen (bytesOf x)) := by
  obtain ⟨X, hX⟩ : ∃ X, X = bytesOf x := ⟨_, rfl⟩
  have hh : ∀ k, k < 22 → (lex_scanner_sign.hit x k = true ↔ X.take (sgL k).length = sgL k) := fun k hk => by rw [hX]; exact hit_iff x k hk
  have hsz : ∀ j, j < 22 → (lex_scanner_sign.sg j).size = (sgL j).length := fun j hj => by rw [← sg_bytes j hj, bytesOf_length]
  rw [← hX]
  clear hX
  have hno : ∀ k, k < 22 → (∀ c r, X = c :: r → ¬ (4 ≤ k ∧ sgL k = [c])) → (∀ c d r, X = c :: d :: r → ¬ (k < 4 ∧ sgL k = [c, d])) → lex_scanner_sign.hit x k = false := by
    intro k hk h1 h2
    rw [Bool.eq_false_iff]
    intro h
    have h3 := (hh k hk).1 h
    by_cases h4 : k < 4
    · obtain ⟨p, _, hp⟩ := two_of k h4
      rw [hp] at h3
      match X, h3 with
      | [], h3 => cases h3
      | [c], h3 => cases h3
      | c :: d :: r, h3 =>
        have h5 : [c, d] = [p.1, p.2] := h3
        exact h2 c d r rfl ⟨h4, by rw [hp, h5]⟩
    · obtain ⟨c0, _, hc⟩ := one_of k (by omega) hk
      rw [hc] at h3
      match X, h3 with
      | [], h3 => cases h3
      | c :: r, h3 =>
        have h5 : [c] = [c0] := h3
        exact h1 c r rfl ⟨by omega, by rw [hc, h5]⟩
  have hyes1 : ∀ k c r, k < 22 → X = c :: r → sgL k = [c] → lex_scanner_sign.hit x k = true := by
    intro k c r hk he hs
    rw [hh k hk, he, hs]; rfl
  have hyes2 : ∀ k c d r, k < 22 → X = c :: d :: r → sgL k = [c, d] → lex_scanner_sign.hit x k = true := by
    intro k c d r hk he hs
    rw [hh k hk, he, hs]; rfl
  match X, hno, hyes1, hyes2 with
  | [], hno, _, _ =>
    refine .inl ⟨rfl, ?_⟩
    rcases find_spec x 22 0 with ⟨h1, _⟩ | ⟨j, _, h2, h3, h4, _⟩
    · exact h1
    · rw [hno j (by omega) (fun c r h => by cases h) (fun c d r h => by cases h)] at h4; cases h4
  | [c], hno, hyes1, _ =>
    have l4 : ∀ k, k < 4 → lex_scanner_sign.hit x k = false := fun k hk => hno k (by omega) (fun c' r h g => by omega) (fun c' d r h => by cases h)
    by_cases ho : c ∈ oneList
    · obtain ⟨k0, k4, kl, ks⟩ := of_one ho
      have hy := hyes1 k0 c [] kl rfl ks
      rcases find_spec x 22 0 with ⟨_, h2⟩ | ⟨j, h1, _, h3, h4, _⟩
      · rw [h2 k0 (by omega) (by omega)] at hy; cases hy
      · have hj : 4 ≤ j := by
          rcases Nat.lt_or_ge j 4 with g | g
          · rw [l4 j g] at h4; cases h4
          · exact g
        refine .inr ⟨j, h1, ?_, ?_⟩
        · rw [signLen_one, if_pos ho]; omega
        · rw [hsz j (by omega), sgL_len j (by omega), if_neg (by omega)]; rw [signLen_one, if_pos ho]
    · refine .inl ⟨by rw [signLen_one, if_neg ho], ?_⟩
      rcases find_spec x 22 0 with ⟨h1, _⟩ | ⟨j, _, _, h3, h4, _⟩
      · exact h1
      · rw [hno j (by omega) (fun c' r h g => by
          obtain ⟨c0, hc0, hs⟩ := one_of j g.1 (by omega)
          rw [hs] at g
          injection h with e1 e2
          injection g.2 with e3 e4
          exact ho (by rw [e1, ← e3]; exact hc0)) (fun c' d r h => by cases h)] at h4; cases h4
  | c :: d :: r, hno, hyes1, hyes2 =>
    by_cases ht : (c, d) ∈ twoList
    · obtain ⟨k0, k4, ks⟩ := of_two ht
      have hy := hyes2 k0 c d r (by omega) rfl ks
      rcases find_spec x 22 0 with ⟨_, h2⟩ | ⟨j, h1, _, h3, h4, h5⟩
      · rw [h2 k0 (by omega) (by omega)] at hy; cases hy
      · have hj : j ≤ k0 := by
          rcases Nat.lt_or_ge k0 j with g | g
          · rw [h5 k0 (by omega) g] at hy; cases hy
          · exact g
        refine .inr ⟨j, h1, ?_, ?_⟩
        · rw [signLen_two, if_pos ht]; omega
        · rw [hsz j (by omega), sgL_len j (by omega), if_pos (by omega)]; rw [signLen_two, if_pos ht]
    · have l4 : ∀ k, k < 4 → lex_scanner_sign.hit x k = false := fun k hk => hno k (by omega) (fun c' r' h g => by omega) (fun c' d' r' h g => by
        obtain ⟨p, hp, hs⟩ := two_of k hk
        rw [hs] at g
        injection h with e1 e2
        injection e2 with e2 _
        injection g.2 with e3 e4
        injection e4 with e4 _
        exact ht (by rw [e1, e2, ← e3, ← e4]; exact hp))
      by_cases ho : c ∈ oneList
      · obtain ⟨k0, k4, kl, ks⟩ := of_one ho
        have hy := hyes1 k0 c (d :: r) kl rfl ks
        rcases find_spec x 22 0 with ⟨_, h2⟩ | ⟨j, h1, _, h3, h4, _⟩
        · rw [h2 k0 (by omega) (by omega)] at hy; cases hy
        · have hj : 4 ≤ j := by
            rcases Nat.lt_or_ge j 4 with g | g
            · rw [l4 j g] at h4; cases h4
            · exact g
          refine .inr ⟨j, h1, ?_, ?_⟩
          · rw [signLen_two, if_neg ht, if_pos ho]; omega
          · rw [hsz j (by omega), sgL_len j (by omega), if_neg (by omega)]; rw [signLen_two, if_neg ht, if_pos ho]
      · refine .inl ⟨by rw [signLen_two, if_neg ht, if_neg ho], ?_⟩
        rcases find_spec x 22 0 with ⟨h1, _⟩ | ⟨j, _, _, h3, h4, _⟩
        · exact h1
        · rcases Nat.lt_or_ge j 4 with g | g
          · rw [l4 j g] at h4; cases h4
          · rw [hno j (by omega) (fun c' r' h g' => by
              obtain ⟨c0, hc0, hs⟩ := one_of j g (by omega)
              rw [hs] at g'
              injection h with e1 e2
              injection g'.2 with e3 e4
              exact ho (by rw [e1, ← e3]; exact hc0)) (fun c' d' r' h g' => by omega)] at h4; cases h4
end Go.Proofs.Ytkbngfelegcplaa.Pure
