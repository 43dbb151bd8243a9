/- The next token: the program's and the document's answer, both what the plain law of one token says. No condition. -/
import Derived.Test.YtkbngfelegcplaaLexTok
set_option linter.unusedVariables false
set_option linter.unusedSimpArgs false
namespace Go.Proofs.Ytkbngfelegcplaa.Pure
open Go.RowKit Go.Proofs.Ytkbngfelegcplaa.PAll Go.Proofs.YtkbngfelegcplaaW.PrintWords Go.Proofs.YtkbngfelegcplaaW.PrintLast Go.Proofs.YtkbngfelegcplaaW.PrintMore Go.Proofs.YtkbngfelegcplaaW.HandWords

theorem strs_nil : strOfNums [] = (⟨#[]⟩ : ByteArray) := rfl
section
variable {s : ByteArray} {a : Nat} {X t : List Int} {k e : Int} {n : Nat}
theorem X_ne (hX : X = (bytesOf s).drop a) (ha : a < s.size) : X ≠ [] := by
  intro h
  have := congrArg List.length (hX.symm.trans h)
  rw [List.length_drop, bytesOf_length] at this
  simp at this; omega
theorem X_len (hX : X = (bytesOf s).drop a) : X.length = s.size - a := by rw [hX, List.length_drop, bytesOf_length]
theorem X_zero (hX : X = (bytesOf s).drop a) : bt s (a : Int) = rd X 0 := by
  rw [hX]
  exact bt_drop s a 0
theorem X_bytes (hX : X = (bytesOf s).drop a) : isBytes X := by rw [hX]; exact isBytes_drop (bytesOf_bytes s) a
theorem X_rest (hX : X = (bytesOf s).drop a) : bytesOf (s.extract a s.size) = X := by rw [bytes_rest, hX]
theorem X_take (hX : X = (bytesOf s).drop a) (n : Nat) : s.extract a (a + n) = strOfNums (X.take n) := by rw [ext_take, hX]
theorem X_rsize (hX : X = (bytesOf s).drop a) (ha : a < s.size) (hs : s.size ≤ 8192) : (s.extract a s.size).size ≤ 8192 := by
  rw [← bytesOf_length, X_rest hX, X_len hX]; omega
/-- the program's next token -/
theorem next_one (hX : X = (bytesOf s).drop a) (ha : a < s.size) (hs : s.size ≤ 8192) (h : One X k t n e) (K : Nat) (hK : 40000 ≤ K) :
    lex_scanner_next.f K s (a : Int) = some (k, strOfNums t, if e = 0 then (a : Int) else 0, (a : Int) + n, e, s, if e = 0 then (a : Int) + n else a) := by
  have hne := X_ne hX ha
  have hlen := X_len hX
  have hb := h.bd hne
  unfold lex_scanner_next.f
  rw [if_pos (by omega), X_zero hX]
  have htext : ∀ {t : List Int} {p e : Int}, UqAll X t p e → rd X 0 = 39 → lex_scanner_text.f K s (a : Int) = if e = 0 then some (4, strOfNums t, (a : Int), (a : Int) + p, 0, s, (a : Int) + p) else some (0, (⟨#[]⟩ : ByteArray), 0, (a : Int) + p, e, s, (a : Int)) := by
    intro t p e hu h39
    have hbd := hu.bd
    unfold lex_scanner_text.f
    have hq := X_rsize hX ha hs
    rw [if_pos (by omega), Int.toNat_natCast, word_unquote (by rw [X_rest hX]; exact hu) (by omega) K (by omega), Option.bind_some, if_pos ⟨hbd.1, by dsimp only; omega⟩]
  cases h with
  | text h39 hu =>
    have := hu.bd
    rw [if_pos h39, htext hu h39, if_pos rfl, if_pos rfl, if_pos rfl]
    rw [show ((_ : Int).toNat : Int) = _ from Int.toNat_of_nonneg this.1]
  | textE h39 hu he =>
    have := hu.bd
    rw [if_pos h39, htext hu h39, if_neg he, if_neg he, if_neg he]
    rw [show ((_ : Int).toNat : Int) = _ from Int.toNat_of_nonneg this.1]
    rfl
  | is h39 ht =>
    rw [if_neg h39, if_pos rfl, if_pos rfl]
    have htb := tok_bd hne ht
    unfold lex_scanner_next.one
    rw [X_zero hX]
    unfold tok at ht
    unfold lex_scanner_next.kind
    by_cases hu : upB (rd X 0) = true
    · rw [if_pos hu] at ht ⊢
      rw [if_neg (by decide)]
      have hm : lex_scanner_letters.many s (a : Int) 1 = lenOf upB X := by
        unfold lex_scanner_letters.many lex_scanner_letters.kind
        rw [Int.toNat_natCast, X_rest hX, if_pos rfl]
      split at ht
      · cases ht
      · rename_i h32
        simp only [Option.some.injEq, Prod.mk.injEq] at ht; obtain ⟨rfl, rfl⟩ := ht
        unfold lex_scanner_letters.f
        rw [if_pos (by omega), hm, if_neg (by unfold lex_scanner_letters.bad; rw [if_pos rfl, decide_eq_true_iff]; omega), Option.bind_some, if_pos rfl, Int.toNat_natCast, show ((a : Int) + (lenOf upB X : Nat)).toNat = a + lenOf upB X from by omega, X_take hX]
    · rw [if_neg hu] at ht ⊢
      by_cases hl : loB (rd X 0) = true
      · rw [if_pos hl] at ht ⊢
        rw [if_neg (by decide)]
        have hm : lex_scanner_letters.many s (a : Int) 2 = lenOf siB X := by
          unfold lex_scanner_letters.many lex_scanner_letters.kind
          rw [Int.toNat_natCast, X_rest hX, if_neg (by decide), if_pos rfl]
        split at ht
        · cases ht
        · rename_i h32
          simp only [Option.some.injEq, Prod.mk.injEq] at ht; obtain ⟨rfl, rfl⟩ := ht
          unfold lex_scanner_letters.f
          rw [if_pos (by omega), hm, if_neg (by unfold lex_scanner_letters.bad; rw [if_neg (by decide), if_pos rfl, decide_eq_true_iff]; omega), Option.bind_some, if_pos rfl, Int.toNat_natCast, show ((a : Int) + (lenOf siB X : Nat)).toNat = a + lenOf siB X from by omega, X_take hX]
      · rw [if_neg hl] at ht ⊢
        by_cases hd : diB (rd X 0) = true
        · rw [if_pos hd] at ht ⊢
          rw [if_neg (by decide)]
          have hm : lex_scanner_letters.many s (a : Int) 3 = lenOf diB X := by
            unfold lex_scanner_letters.many lex_scanner_letters.kind
            rw [Int.toNat_natCast, X_rest hX, if_neg (by decide), if_neg (by decide)]
          split at ht
          · cases ht
          · rename_i h19
            simp only [Option.some.injEq, Prod.mk.injEq] at ht; obtain ⟨rfl, rfl⟩ := ht
            unfold lex_scanner_letters.f
            rw [if_pos (by omega), hm, if_neg (by
              unfold lex_scanner_letters.bad
              rw [if_neg (by decide), if_neg (by decide), X_zero hX, Bool.or_eq_true, Bool.and_eq_true, decide_eq_true_iff, decide_eq_true_iff, beq_iff_eq]
              omega), Option.bind_some, if_pos rfl, Int.toNat_natCast, show ((a : Int) + (lenOf diB X : Nat)).toNat = a + lenOf diB X from by omega, X_take hX]
        · rw [if_neg hd] at ht ⊢
          rw [if_pos rfl]
          split at ht
          · cases ht
          · rename_i h0
            simp only [Option.some.injEq, Prod.mk.injEq] at ht; obtain ⟨rfl, rfl⟩ := ht
            unfold lex_scanner_sign.f
            rw [if_pos (by omega), Int.toNat_natCast]
            rcases find_sign (s.extract a s.size) with ⟨h1, _⟩ | ⟨j, h1, h2, h3⟩
            · rw [X_rest hX] at h1; exact absurd h1 h0
            · rw [X_rest hX] at h2 h3
              rw [h1]
              dsimp only
              rw [Option.bind_some, if_pos rfl, h3, show ((a : Int) + (signLen X : Nat)).toNat = a + signLen X from by omega, X_take hX]
  | no h39 ht =>
    rw [if_neg h39, if_neg (by decide), if_neg (by decide)]
    unfold lex_scanner_next.one
    rw [X_zero hX]
    unfold tok at ht
    unfold lex_scanner_next.kind
    by_cases hu : upB (rd X 0) = true
    · rw [if_pos hu] at ht ⊢
      rw [if_neg (by decide)]
      have hm : lex_scanner_letters.many s (a : Int) 1 = lenOf upB X := by
        unfold lex_scanner_letters.many lex_scanner_letters.kind
        rw [Int.toNat_natCast, X_rest hX, if_pos rfl]
      split at ht
      · rename_i h32
        unfold lex_scanner_letters.f
        rw [if_pos (by omega), hm, if_pos (by unfold lex_scanner_letters.bad; rw [if_pos rfl, decide_eq_true_iff]; omega), Option.bind_some, if_neg (by simp)]
        simp [strs_nil]
      · cases ht
    · rw [if_neg hu] at ht ⊢
      by_cases hl : loB (rd X 0) = true
      · rw [if_pos hl] at ht ⊢
        rw [if_neg (by decide)]
        have hm : lex_scanner_letters.many s (a : Int) 2 = lenOf siB X := by
          unfold lex_scanner_letters.many lex_scanner_letters.kind
          rw [Int.toNat_natCast, X_rest hX, if_neg (by decide), if_pos rfl]
        split at ht
        · rename_i h32
          unfold lex_scanner_letters.f
          rw [if_pos (by omega), hm, if_pos (by unfold lex_scanner_letters.bad; rw [if_neg (by decide), if_pos rfl, decide_eq_true_iff]; omega), Option.bind_some, if_neg (by simp)]
          simp [strs_nil]
        · cases ht
      · rw [if_neg hl] at ht ⊢
        by_cases hd : diB (rd X 0) = true
        · rw [if_pos hd] at ht ⊢
          rw [if_neg (by decide)]
          have hm : lex_scanner_letters.many s (a : Int) 3 = lenOf diB X := by
            unfold lex_scanner_letters.many lex_scanner_letters.kind
            rw [Int.toNat_natCast, X_rest hX, if_neg (by decide), if_neg (by decide)]
          split at ht
          · rename_i h19
            unfold lex_scanner_letters.f
            rw [if_pos (by omega), hm, if_pos (by
              unfold lex_scanner_letters.bad
              rw [if_neg (by decide), if_neg (by decide), X_zero hX, Bool.or_eq_true, Bool.and_eq_true, decide_eq_true_iff, decide_eq_true_iff, beq_iff_eq]
              omega), Option.bind_some, if_neg (by simp)]
            simp [strs_nil]
          · cases ht
        · rw [if_neg hd] at ht ⊢
          rw [if_pos rfl]
          split at ht
          · rename_i h0
            unfold lex_scanner_sign.f
            rw [if_pos (by omega), Int.toNat_natCast]
            rcases find_sign (s.extract a s.size) with ⟨_, h1⟩ | ⟨j, h1, h2, h3⟩
            · rw [h1]
              dsimp only
              rw [Option.bind_some, if_neg (by simp)]
              simp [strs_nil]
            · rw [X_rest hX] at h2; omega
          · cases ht
/-! ### the document's answer -/
theorem ref_up (c : Int) : haruspexref17_upper.f c = some (upB c) := lex_scanner_letters.upper_f c
theorem ref_lo (c : Int) : haruspexref17_lower.f c = some (loB c) := lex_scanner_letters.lower_f c
theorem ref_di (c : Int) : haruspexref17_digit.f c = some (diB c) := lex_scanner_letters.digit_f c
theorem ref_si (c : Int) : haruspexref05_Sign.f c = some (siB c) := lex_scanner_letters.sign_f c
def upOf (j : Int) : Int → Bool := if j = 1 then upB else if j = 2 then siB else diB
theorem span_step (hX : X = (bytesOf s).drop a) (ha : a < s.size) (hs : s.size ≤ 8192) (j : Int) (hj : j = 1 ∨ j = 2 ∨ j = 3) (m : Nat) (hm : m ≤ X.length) (K : Nat) :
    haruspexref17_span.l0 (K + 1) s (a : Int) j (m : Int) = if m < X.length then (if upOf j (rd X (m : Int)) = true then haruspexref17_span.l0 K s (a : Int) j ((m + 1 : Nat) : Int) else some (m : Int)) else some (m : Int) := by
  have hl := X_len hX
  rw [haruspexref17_span.l0, q_wrap (n := (a : Int) + m) (by omega) (by omega), q_wrap (n := (m : Int) + 1) (by omega) (by omega), show (a : Int) + m = ((a + m : Nat) : Int) from by omega, show (m : Int) + 1 = ((m + 1 : Nat) : Int) from by omega, bt_drop s a m, ← hX]
  by_cases h : m < X.length
  · rw [if_pos (by omega), if_pos (by omega), if_pos h]
    rcases hj with rfl | rfl | rfl
    · rw [if_pos rfl, ref_up, Option.bind_some]
      show (if upB _ = true then _ else _) = (if upB _ = true then _ else _)
      by_cases hu : upB (rd X (m : Int)) = true
      · rw [if_pos hu, if_pos hu, if_neg (by decide), if_neg (by decide)]
      · rw [if_neg hu, if_neg hu]
    · rw [if_neg (by decide), if_pos rfl, ref_si, Option.bind_some]
      show (if siB _ = true then _ else _) = (if siB _ = true then _ else _)
      by_cases hu : siB (rd X (m : Int)) = true
      · rw [if_pos hu, if_pos hu, if_neg (by decide)]
      · rw [if_neg hu, if_neg hu]
    · rw [if_neg (by decide), if_neg (by decide), if_pos rfl, ref_di, Option.bind_some]; rfl
  · rw [if_neg (by omega), if_neg h]
theorem lenOf_cons (up : Int → Bool) (c : Int) (r : List Int) : lenOf up (c :: r) = if up c = true then lenOf up r + 1 else 0 := by
  unfold lenOf lex_scanner_letters.len
  by_cases h : up c = true
  · rw [if_pos h, List.takeWhile_cons_of_pos h]; rfl
  · rw [if_neg h, List.takeWhile_cons_of_neg h]; rfl
theorem span_l0 (hX : X = (bytesOf s).drop a) (ha : a < s.size) (hs : s.size ≤ 8192) (j : Int) (hj : j = 1 ∨ j = 2 ∨ j = 3) (d : Nat) : ∀ (m K : Nat), m + d = X.length → d < K →
    haruspexref17_span.l0 K s (a : Int) j (m : Int) = some ((m + lenOf (upOf j) (X.drop m) : Nat) : Int) := by
  induction d with
  | zero =>
    intro m K hm hK
    obtain ⟨K, rfl⟩ : ∃ n, K = n + 1 := ⟨K - 1, by omega⟩
    rw [span_step hX ha hs j hj m (by omega), if_neg (by omega), List.drop_eq_nil_of_le (by omega)]; rfl
  | succ d ih =>
    intro m K hm hK
    obtain ⟨K, rfl⟩ : ∃ n, K = n + 1 := ⟨K - 1, by omega⟩
    have hlt : m < X.length := by omega
    have hrd : rd X (m : Int) = X[m] := by
      unfold rd; rw [Int.toNat_natCast, List.getD_eq_getElem?_getD, List.getElem?_eq_getElem hlt]; rfl
    rw [span_step hX ha hs j hj m (by omega), if_pos hlt, List.drop_eq_getElem_cons hlt, lenOf_cons, hrd]
    by_cases h : upOf j X[m] = true
    · rw [if_pos h, if_pos h, ih (m + 1) K (by omega) (by omega)]; congr 2; omega
    · rw [if_neg h, if_neg h]; rfl
theorem span_f (hX : X = (bytesOf s).drop a) (ha : a < s.size) (hs : s.size ≤ 8192) (j : Int) (hj : j = 1 ∨ j = 2 ∨ j = 3) (K : Nat) (hK : 10000 ≤ K) : haruspexref17_span.f K s (a : Int) j = some ((lenOf (upOf j) X : Nat) : Int) := by
  have := span_l0 hX ha hs j hj X.length 0 K (by omega) (by have := X_len hX; omega)
  rw [List.drop_zero, Nat.zero_add] at this
  exact this
theorem singles_at (j : Nat) (hj : j < 18) : bt (⟨#[40, 41, 44, 46, 43, 45, 42, 47, 37, 61, 60, 62, 33, 124, 123, 125, 91, 93]⟩ : ByteArray) (j : Int) = oneList.getD j 0 := by
  have : ∀ i : Fin 18, bt (⟨#[40, 41, 44, 46, 43, 45, 42, 47, 37, 61, 60, 62, 33, 124, 123, 125, 91, 93]⟩ : ByteArray) ((i.val : Nat) : Int) = oneList.getD i.val 0 := by decide +kernel
  exact this ⟨j, hj⟩
theorem single_l0 (hX : X = (bytesOf s).drop a) (ha : a < s.size) (hs : s.size ≤ 8192) (d : Nat) : ∀ (j K : Nat), j + d = 18 → d < K → (∀ i, i < j → oneList.getD i 0 ≠ rd X 0) →
    haruspexref17_sign.l0 K s (a : Int) (j : Int) = some (if rd X 0 ∈ oneList then strOfNums (X.take 1) else (⟨#[]⟩ : ByteArray)) := by
  induction d with
  | zero =>
    intro j K hj hK hno
    obtain ⟨K, rfl⟩ : ∃ n, K = n + 1 := ⟨K - 1, by omega⟩
    rw [haruspexref17_sign.l0, if_neg (by omega), if_neg]
    intro h
    obtain ⟨i, hi, hc⟩ := List.getElem_of_mem h
    have hl : oneList.length = 18 := rfl
    refine hno i (by omega) ?_
    rw [List.getD_eq_getElem?_getD, List.getElem?_eq_getElem hi, hc]; rfl
  | succ d ih =>
    intro j K hj hK hno
    obtain ⟨K, rfl⟩ : ∃ n, K = n + 1 := ⟨K - 1, by omega⟩
    rw [haruspexref17_sign.l0, if_pos (by omega), if_pos (by omega), if_pos (by omega), if_pos (by omega), singles_at j (by omega), X_zero hX]
    by_cases h : oneList.getD j 0 = rd X 0
    · rw [if_pos h, q_wrap (n := (a : Int) + 1) (by omega) (by omega), if_pos (by omega), if_pos (by omega), if_pos, Int.toNat_natCast, show ((a : Int) + 1).toNat = a + 1 from by omega, X_take hX]
      have hl : oneList.length = 18 := rfl
      rw [← h, List.getD_eq_getElem?_getD, List.getElem?_eq_getElem (by omega)]
      exact List.getElem_mem _
    · rw [if_neg h, q_wrap (n := (j : Int) + 1) (by omega) (by omega), show (j : Int) + 1 = ((j + 1 : Nat) : Int) from by omega]
      refine ih (j + 1) K (by omega) (by omega) (fun i hi => ?_)
      by_cases e : i = j
      · rw [e]; exact h
      · exact hno i (by omega)
theorem lit2 (x : ByteArray) (p q : UInt8) : x.toList = [p, q] ↔ bytesOf x = [(p.toNat : Int), (q.toNat : Int)] := by
  have : x.toList = (⟨#[p, q]⟩ : ByteArray).toList ↔ bytesOf x = bytesOf (⟨#[p, q]⟩ : ByteArray) := toList_eq
  rw [show (⟨#[p, q]⟩ : ByteArray).toList = [p, q] from by rw [ByteArray.toList_eq]] at this
  exact this
theorem ref_sign (hX : X = (bytesOf s).drop a) (ha : a < s.size) (hs : s.size ≤ 8192) (K : Nat) (hK : 100 ≤ K) : haruspexref17_sign.f K s (a : Int) = some (strOfNums (X.take (signLen X))) := by
  have hl := X_len hX
  have hne := X_ne hX ha
  obtain ⟨r, hr⟩ := rd_zero hne
  have hone : haruspexref17_sign.j0 K s (a : Int) = some (if rd X 0 ∈ oneList then strOfNums (X.take 1) else (⟨#[]⟩ : ByteArray)) := by
    obtain ⟨K, rfl⟩ : ∃ n, K = n + 1 := ⟨K - 1, by omega⟩
    rw [haruspexref17_sign.j0]
    exact single_l0 hX ha hs 18 0 K (by omega) (by omega) (fun i hi => absurd hi (Nat.not_lt_zero _))
  unfold haruspexref17_sign.f
  rw [q_wrap (n := (a : Int) + 2) (by omega) (by omega), hone]
  by_cases h2 : a + 2 ≤ s.size
  · rw [if_pos (by omega), if_pos (by omega), if_pos (by omega), Int.toNat_natCast, show ((a : Int) + 2).toNat = a + 2 from by omega, X_take hX]
    cases r with
    | nil => rw [hr] at hl; simp at hl; omega
    | cons d r =>
      have hb : isBytes (X.take 2) := isBytes_take (X_bytes hX) 2
      have h2 : X.take 2 = [rd X 0, d] := by rw [hr]; rfl
      have hc : ∀ p q : UInt8, (strOfNums (X.take 2)).toList = [p, q] ↔ [rd X 0, d] = [(p.toNat : Int), (q.toNat : Int)] := fun p q => by rw [lit2, bytesOf_strOfNums hb, h2]
      have hs2 : signLen X = if (rd X 0, d) ∈ twoList then 2 else if rd X 0 ∈ oneList then 1 else 0 := by
        conv => lhs; rw [hr]
        exact signLen_two _ _ _
      have key : ((rd X 0, d) ∈ twoList) ↔ ([rd X 0, d] = [60, 61] ∨ [rd X 0, d] = [62, 61] ∨ [rd X 0, d] = [60, 62] ∨ [rd X 0, d] = [45, 62]) := by
        unfold twoList; simp
      by_cases ht : (rd X 0, d) ∈ twoList
      · rw [hs2, if_pos ht]
        split
        · rfl
        · split
          · rfl
          · split
            · rfl
            · split
              · rfl
              · rename_i n1 n2 n3 n4
                rcases key.1 ht with g | g | g | g
                · exact absurd ((hc 60 61).2 g) n1
                · exact absurd ((hc 62 61).2 g) n2
                · exact absurd ((hc 60 62).2 g) n3
                · exact absurd ((hc 45 62).2 g) n4
      · rw [hs2, if_neg ht]
        have hn : ∀ p q : UInt8, ((p.toNat : Int), (q.toNat : Int)) ∈ twoList → ¬ [rd X 0, d] = [(p.toNat : Int), (q.toNat : Int)] := by
          intro p q hp he
          simp only [List.cons.injEq, and_true] at he
          rw [← he.1, ← he.2] at hp
          exact ht hp
        rw [if_neg (fun h => hn 60 61 (by decide) ((hc 60 61).1 h)), if_neg (fun h => hn 62 61 (by decide) ((hc 62 61).1 h)), if_neg (fun h => hn 60 62 (by decide) ((hc 60 62).1 h)), if_neg (fun h => hn 45 62 (by decide) ((hc 45 62).1 h))]
        by_cases ho : rd X 0 ∈ oneList
        · rw [if_pos ho, if_pos ho]
        · rw [if_neg ho, if_neg ho]; rfl
  · rw [if_neg (by omega)]
    cases r with
    | nil =>
      have hs2 : signLen X = if rd X 0 ∈ oneList then 1 else 0 := by
        conv => lhs; rw [hr]
        exact signLen_one _
      rw [hs2]
      by_cases ho : rd X 0 ∈ oneList
      · rw [if_pos ho, if_pos ho]
      · rw [if_neg ho, if_neg ho]; rfl
    | cons d r => rw [hr] at hl; simp at hl; omega
theorem ref_one (hX : X = (bytesOf s).drop a) (ha : a < s.size) (hs : s.size ≤ 8192) (h : One X k t n e) (K : Nat) (hK : 40000 ≤ K) :
    haruspexref17_one.f K s (a : Int) = some (k, strOfNums t, if e = 0 then (a : Int) else 0, (a : Int) + n, e) := by
  have hne := X_ne hX ha
  have hlen := X_len hX
  have l1 : lenOf upB X ≤ X.length := lex_scanner_letters.len_le upB X
  have l2 : lenOf siB X ≤ X.length := lex_scanner_letters.len_le siB X
  have l3 : lenOf diB X ≤ X.length := lex_scanner_letters.len_le diB X
  have l4 := signLen_le X
  have s1 := span_f hX ha hs 1 (.inl rfl) K (by omega)
  have s2 := span_f hX ha hs 2 (.inr (.inl rfl)) K (by omega)
  have s3 := span_f hX ha hs 3 (.inr (.inr rfl)) K (by omega)
  rw [show upOf 1 = upB from rfl] at s1
  rw [show upOf 2 = siB from rfl] at s2
  rw [show upOf 3 = diB from rfl] at s3
  unfold haruspexref17_one.f
  rw [if_pos (by omega), if_pos (by omega), X_zero hX, ref_up, Option.bind_some, ref_lo, Option.bind_some, ref_di, Option.bind_some, s1, s2, s3]
  have h39t : rd X 0 = 39 → upB (rd X 0) = false ∧ loB (rd X 0) = false ∧ diB (rd X 0) = false := fun h => by rw [h]; decide
  cases h with
  | text h39 hu =>
    obtain ⟨g1, g2, g3⟩ := h39t h39
    have hbd := hu.bd
    have hq := X_rsize hX ha hs
    rw [if_neg (by rw [g1]; decide), if_neg (by rw [g2]; decide), if_neg (by rw [g3]; decide), if_pos h39, if_pos (by omega), Int.toNat_natCast, ref_unquote (by rw [X_rest hX]; exact hu) (by omega) K (by omega), Option.bind_some, if_pos rfl, if_pos rfl]
    dsimp only
    rw [q_wrap (by omega) (by omega), show ((_ : Int).toNat : Int) = _ from Int.toNat_of_nonneg hbd.1]
  | textE h39 hu he =>
    obtain ⟨g1, g2, g3⟩ := h39t h39
    have hbd := hu.bd
    have hq := X_rsize hX ha hs
    rw [if_neg (by rw [g1]; decide), if_neg (by rw [g2]; decide), if_neg (by rw [g3]; decide), if_pos h39, if_pos (by omega), Int.toNat_natCast, ref_unquote (by rw [X_rest hX]; exact hu) (by omega) K (by omega), Option.bind_some, if_neg he, if_neg he]
    dsimp only
    rw [q_wrap (by omega) (by omega), show ((_ : Int).toNat : Int) = _ from Int.toNat_of_nonneg hbd.1]
    rfl
  | is h39 ht =>
    rw [if_pos rfl]
    unfold tok at ht
    by_cases hu : upB (rd X 0) = true
    · rw [if_pos hu] at ht ⊢
      split at ht
      · cases ht
      · rename_i h32
        simp only [Option.some.injEq, Prod.mk.injEq] at ht; obtain ⟨rfl, rfl⟩ := ht
        rw [Option.bind_some, if_neg (by decide), if_neg (by omega), q_wrap (n := (a : Int) + (lenOf upB X : Nat)) (by omega) (by omega), if_pos (show (a : Int) ≤ (a : Int) + (lenOf upB X : Nat) by omega), if_pos (show (a : Int) + (lenOf upB X : Nat) ≤ (s.size : Int) by omega), Int.toNat_natCast, show ((a : Int) + (lenOf upB X : Nat)).toNat = a + lenOf upB X from by omega, X_take hX]
    · rw [if_neg hu] at ht ⊢
      by_cases hl : loB (rd X 0) = true
      · rw [if_pos hl] at ht ⊢
        split at ht
        · cases ht
        · rename_i h32
          simp only [Option.some.injEq, Prod.mk.injEq] at ht; obtain ⟨rfl, rfl⟩ := ht
          rw [Option.bind_some, if_neg (by decide), if_neg (by omega), q_wrap (n := (a : Int) + (lenOf siB X : Nat)) (by omega) (by omega), if_pos (show (a : Int) ≤ (a : Int) + (lenOf siB X : Nat) by omega), if_pos (show (a : Int) + (lenOf siB X : Nat) ≤ (s.size : Int) by omega), Int.toNat_natCast, show ((a : Int) + (lenOf siB X : Nat)).toNat = a + lenOf siB X from by omega, X_take hX]
      · rw [if_neg hl] at ht ⊢
        by_cases hd : diB (rd X 0) = true
        · rw [if_pos hd] at ht ⊢
          split at ht
          · cases ht
          · rename_i h19
            simp only [Option.some.injEq, Prod.mk.injEq] at ht; obtain ⟨rfl, rfl⟩ := ht
            rw [Option.bind_some, if_pos rfl, if_neg (by omega), q_wrap (n := (a : Int) + (lenOf diB X : Nat)) (by omega) (by omega), if_pos (show (a : Int) ≤ (a : Int) + (lenOf diB X : Nat) by omega), if_pos (show (a : Int) + (lenOf diB X : Nat) ≤ (s.size : Int) by omega), Int.toNat_natCast, show ((a : Int) + (lenOf diB X : Nat)).toNat = a + lenOf diB X from by omega, X_take hX]
            by_cases h1 : ((lenOf diB X : Nat) : Int) > 1
            · rw [if_pos h1, if_neg (by omega)]
            · rw [if_neg h1]
        · rw [if_neg hd] at ht ⊢
          rw [if_neg h39, ref_sign hX ha hs K (by omega), Option.bind_some]
          split at ht
          · cases ht
          · rename_i h0
            simp only [Option.some.injEq, Prod.mk.injEq] at ht; obtain ⟨rfl, rfl⟩ := ht
            have hb : isBytes (X.take (signLen X)) := isBytes_take (X_bytes hX) _
            have hsz : (strOfNums (X.take (signLen X))).size = signLen X := by rw [← bytesOf_length, bytesOf_strOfNums hb, List.length_take]; omega
            rw [if_neg (by rw [toList_nil, bytesOf_strOfNums hb]; intro h; have := congrArg List.length h; rw [List.length_take, List.length_nil] at this; omega), hsz, q_wrap (n := (a : Int) + (signLen X : Nat)) (by omega) (by omega)]
  | no h39 ht =>
    rw [if_neg (show ¬ (4 : Int) = 0 by decide)]
    have e0 : (a : Int) + ((0 : Nat) : Int) = a := by omega
    rw [e0, strs_nil]
    unfold tok at ht
    by_cases hu : upB (rd X 0) = true
    · rw [if_pos hu] at ht ⊢
      split at ht
      · rename_i h32
        rw [Option.bind_some, if_neg (by decide), if_pos (by omega)]
      · cases ht
    · rw [if_neg hu] at ht ⊢
      by_cases hl : loB (rd X 0) = true
      · rw [if_pos hl] at ht ⊢
        split at ht
        · rename_i h32
          rw [Option.bind_some, if_neg (by decide), if_pos (by omega)]
        · cases ht
      · rw [if_neg hl] at ht ⊢
        by_cases hd : diB (rd X 0) = true
        · rw [if_pos hd] at ht ⊢
          split at ht
          · rename_i h19
            rw [Option.bind_some, if_pos rfl]
            by_cases h1 : ((lenOf diB X : Nat) : Int) > 19
            · rw [if_pos h1]
            · rw [if_neg h1, if_pos (by omega), if_pos (by omega)]
          · cases ht
        · rw [if_neg hd] at ht ⊢
          rw [if_neg h39, ref_sign hX ha hs K (by omega), Option.bind_some]
          split at ht
          · rename_i h0
            rw [h0, if_pos (by rw [toList_nil]; rfl)]
          · cases ht
end
end Go.Proofs.Ytkbngfelegcplaa.Pure
