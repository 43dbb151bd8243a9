/- The tokens of a text: a plain law that tells them one by one, and that the program's and the document's answers are just those. No condition. -/
import Derived.Test.YtkbngfelegcplaaLexNext
set_option linter.unusedVariables false
set_option linter.unusedSimpArgs false
namespace Go.Proofs.Ytkbngfelegcplaa.Pure
open Go.RowKit Go.Proofs.Ytkbngfelegcplaa.PAll Go.Proofs.YtkbngfelegcplaaW.PrintWords Go.Proofs.YtkbngfelegcplaaW.PrintLast Go.Proofs.YtkbngfelegcplaaW.PrintMore Go.Proofs.YtkbngfelegcplaaW.HandWords

/-- a token: kind, text, place -/
abbrev Tok : Type := Int × List Int × Nat
def blankB (c : Int) : Bool := c == 32 || c == 9 || c == 10
/-- the tokens of a text b from a place on; or the place and the error -/
inductive Lx (b : List Int) : Nat → List Tok → Int → Int → Prop
  | ends {a : Nat} (h : a = b.length) : Lx b a [(6, [], b.length)] b.length 0
  | blank {a : Nat} {l : List Tok} {m e : Int} (h1 : a < b.length) (h2 : blankB (rd b (a : Int)) = true) (h : Lx b (a + 1) l m e) : Lx b a l m e
  | bad {a : Nat} {k e : Int} {t : List Int} {n : Nat} (h1 : a < b.length) (h2 : blankB (rd b (a : Int)) = false) (ho : One (b.drop a) k t n e) (he : e ≠ 0) : Lx b a [] ((a : Int) + n) e
  | tok {a : Nat} {k m e : Int} {t : List Int} {n : Nat} {l : List Tok} (h1 : a < b.length) (h2 : blankB (rd b (a : Int)) = false) (ho : One (b.drop a) k t n 0) (h : Lx b (a + n) l m e) : Lx b a (if e = 0 then (k, t, a) :: l else []) m e
theorem Lx.all (b : List Int) (d : Nat) : ∀ a, a + d = b.length → ∃ l m e, Lx b a l m e := by
  induction d using Nat.strongRecOn with
  | _ d ih =>
    intro a ha
    by_cases h0 : d = 0
    · exact ⟨_, _, _, .ends (by omega)⟩
    · have h1 : a < b.length := by omega
      cases h2 : blankB (rd b (a : Int)) with
      | true =>
        obtain ⟨l, m, e, h⟩ := ih (d - 1) (by omega) (a + 1) (by omega)
        exact ⟨l, m, e, .blank h1 h2 h⟩
      | false =>
        obtain ⟨k, t, n, e, ho⟩ := One.all (b.drop a)
        have hne : b.drop a ≠ [] := by
          intro h; have := congrArg List.length h; rw [List.length_drop, List.length_nil] at this; omega
        have hb := ho.bd hne
        rw [List.length_drop] at hb
        by_cases he : e = 0
        · subst he
          have := hb.2.1 rfl
          obtain ⟨l, m, e, h⟩ := ih (d - n) (by omega) (a + n) (by omega)
          exact ⟨_, m, e, .tok h1 h2 ho h⟩
        · exact ⟨_, _, _, .bad h1 h2 ho he⟩
def toS (x : Tok) : S32 := ⟨x.1, strOfNums x.2.1, (x.2.2 : Int)⟩
theorem Lx.err {b : List Int} {a : Nat} {l : List Tok} {m e : Int} (h : Lx b a l m e) : (e ≠ 0 → l = []) ∧ (a : Int) ≤ m ∧ m ≤ b.length ∧ (e = 0 → m = b.length) ∧ (e = 0 → l.length ≤ b.length - a + 1) := by
  induction h with
  | ends h => subst h; exact ⟨fun h => absurd rfl h, by omega, by omega, fun _ => rfl, fun _ => by simp⟩
  | blank h1 h2 h ih => exact ⟨ih.1, by have := ih.2.1; omega, ih.2.2.1, ih.2.2.2.1, fun he => by have := ih.2.2.2.2 he; omega⟩
  | bad h1 h2 ho he =>
    rename_i a k e t n
    have hb := ho.bd (by intro h; have := congrArg List.length h; rw [List.length_drop, List.length_nil] at this; omega)
    rw [List.length_drop] at hb
    exact ⟨fun _ => rfl, by omega, by omega, fun h => absurd h he, fun h => absurd h he⟩
  | tok h1 h2 ho h ih =>
    rename_i a k m e t n l
    have hb := ho.bd (by intro h; have := congrArg List.length h; rw [List.length_drop, List.length_nil] at this; omega)
    rw [List.length_drop] at hb
    refine ⟨fun he => if_neg he, by have := ih.2.1; omega, ih.2.2.1, ih.2.2.2.1, fun he => ?_⟩
    rw [if_pos he, List.length_cons]
    have := ih.2.2.2.2 he
    have := hb.2.1 rfl
    omega
/-! ### the program -/
theorem blank_f (c : Int) : lex_isBlank.f c = some (blankB c) := by
  unfold lex_isBlank.f blankB
  by_cases h1 : c = 32
  · rw [if_pos h1, h1]; rfl
  · rw [if_neg h1]
    by_cases h2 : c = 9
    · rw [if_pos h2, h2]; rfl
    · rw [if_neg h2]
      have e1 : (c == 32) = false := beq_eq_false_iff_ne.mpr h1
      have e2 : (c == 9) = false := beq_eq_false_iff_ne.mpr h2
      rw [e1, e2]; rfl
theorem ref_blank_f (c : Int) : haruspexref17_blank.f c = some (blankB c) := blank_f c
section
variable {s : ByteArray}
/-- behind the blanks -/
def skip (b : List Int) : Nat → Nat → Nat
  | 0, a => a
  | d + 1, a => if a < b.length ∧ blankB (rd b (a : Int)) = true then skip b d (a + 1) else a
theorem blanks_l0 (hs : s.size ≤ 8192) (d : Nat) : ∀ (a K : Nat), a + d = s.size → d < K → lex_scanner_blanks.l0 K s (a : Int) = some (s, ((skip (bytesOf s) d a : Nat) : Int)) := by
  have hl := bytesOf_length s
  induction d with
  | zero =>
    intro a K ha hK
    obtain ⟨K, rfl⟩ : ∃ n, K = n + 1 := ⟨K - 1, by omega⟩
    rw [lex_scanner_blanks.l0, if_neg (by omega)]; rfl
  | succ d ih =>
    intro a K ha hK
    obtain ⟨K, rfl⟩ : ∃ n, K = n + 1 := ⟨K - 1, by omega⟩
    rw [lex_scanner_blanks.l0, if_pos (by omega), if_pos (by omega), bt_rd, blank_f, Option.bind_some, skip]
    cases h : blankB (rd (bytesOf s) (a : Int)) with
    | true => rw [if_pos rfl, if_pos ⟨by omega, rfl⟩, q_wrap (by omega) (by omega), show (a : Int) + 1 = ((a + 1 : Nat) : Int) from by omega, ih (a + 1) K (by omega) (by omega)]
    | false => rw [if_neg (by simp), if_neg (by simp)]
theorem blanks_f (hs : s.size ≤ 8192) (a : Nat) (ha : a ≤ s.size) (K : Nat) (hK : 10000 ≤ K) : lex_scanner_blanks.f K s (a : Int) = some (s, ((skip (bytesOf s) (s.size - a) a : Nat) : Int)) := by
  unfold lex_scanner_blanks.f
  exact blanks_l0 hs (s.size - a) a K (by omega) (by omega)
theorem skip_at {b : List Int} {d a : Nat} (h : ¬ (a < b.length ∧ blankB (rd b (a : Int)) = true)) : skip b d a = a := by
  cases d with
  | zero => rfl
  | succ d => rw [skip, if_neg h]
theorem word_lx (hs : s.size ≤ 8192) {a : Nat} {l : List Tok} {m e : Int} (h : Lx (bytesOf s) a l m e) : ∀ (out : List S32) (K : Nat), out.length ≤ a → 60000 + (s.size - a) < K →
    lex_All.l0 K s out s ((skip (bytesOf s) (s.size - a) a : Nat) : Int) = some (if e = 0 then out ++ l.map toS else [], m, e) := by
  have hl := bytesOf_length s
  induction h with
  | ends h =>
    intro out K ho hK
    obtain ⟨K, rfl⟩ : ∃ n, K = n + 1 := ⟨K - 1, by omega⟩
    rw [skip_at (by omega), lex_All.l0, if_neg (by omega), if_pos (by omega), if_pos rfl, hl]
    simp [toS, strs_nil]
  | blank h1 h2 h ih =>
    rename_i a l m e
    intro out K ho hK
    have := ih out K (by omega) (by omega)
    rw [show s.size - a = (s.size - (a + 1)) + 1 from by omega, skip, if_pos ⟨h1, h2⟩]
    exact this
  | bad h1 h2 ho he =>
    rename_i a k e t n
    intro out K hlo hK
    obtain ⟨K, rfl⟩ : ∃ n, K = n + 1 := ⟨K - 1, by omega⟩
    rw [skip_at (by simp [h2]), lex_All.l0, if_pos (by omega), next_one rfl (by omega) hs ho K (by omega), Option.bind_some]
    dsimp only
    rw [if_neg he, if_neg he]
  | tok h1 h2 ho h ih =>
    rename_i a k m e t n l
    intro out K hlo hK
    obtain ⟨K, rfl⟩ : ∃ n, K = n + 1 := ⟨K - 1, by omega⟩
    have hb := ho.bd (by intro h; have := congrArg List.length h; rw [List.length_drop, List.length_nil] at this; omega)
    rw [List.length_drop] at hb
    have hn := hb.2.1 rfl
    rw [skip_at (by simp [h2]), lex_All.l0, if_pos (by omega), next_one rfl (by omega) hs ho K (by omega), Option.bind_some]
    dsimp only
    rw [if_pos rfl, if_pos rfl, if_pos rfl, if_pos (by omega), show (a : Int) + (n : Int) = ((a + n : Nat) : Int) from by omega, blanks_f hs (a + n) (by omega) K (by omega), Option.bind_some]
    dsimp only
    rw [ih _ K (by rw [List.length_append]; simp; omega) (by omega)]
    by_cases he : e = 0
    · rw [if_pos he, if_pos he, if_pos he, List.append_assoc]; rfl
    · rw [if_neg he, if_neg he]
theorem ref_lx (hs : s.size ≤ 8192) {a : Nat} {l : List Tok} {m e : Int} (h : Lx (bytesOf s) a l m e) : ∀ (out : List S32) (K : Nat), out.length ≤ a → 60000 + (s.size - a) < K →
    haruspexref17_All.l0 K s out (a : Int) = some (if e = 0 then out ++ l.map toS else [], m, e) := by
  have hl := bytesOf_length s
  induction h with
  | ends h =>
    intro out K ho hK
    obtain ⟨K, rfl⟩ : ∃ n, K = n + 1 := ⟨K - 1, by omega⟩
    rw [haruspexref17_All.l0, if_neg (by omega), if_pos (by omega), if_pos rfl, hl]
    simp [toS, strs_nil]
  | blank h1 h2 h ih =>
    rename_i a l m e
    intro out K ho hK
    obtain ⟨K, rfl⟩ : ∃ n, K = n + 1 := ⟨K - 1, by omega⟩
    rw [haruspexref17_All.l0, if_pos (by omega), if_pos (by omega), bt_rd, ref_blank_f, h2, Option.bind_some, if_pos rfl, q_wrap (by omega) (by omega), show (a : Int) + 1 = ((a + 1 : Nat) : Int) from by omega]
    exact ih out K (by omega) (by omega)
  | bad h1 h2 ho he =>
    rename_i a k e t n
    intro out K hlo hK
    obtain ⟨K, rfl⟩ : ∃ n, K = n + 1 := ⟨K - 1, by omega⟩
    rw [haruspexref17_All.l0, if_pos (by omega), if_pos (by omega), bt_rd, ref_blank_f, h2, Option.bind_some, if_neg (by simp), ref_one rfl (by omega) hs ho K (by omega), Option.bind_some]
    dsimp only
    rw [if_neg he, if_neg he]
  | tok h1 h2 ho h ih =>
    rename_i a k m e t n l
    intro out K hlo hK
    obtain ⟨K, rfl⟩ : ∃ n, K = n + 1 := ⟨K - 1, by omega⟩
    have hb := ho.bd (by intro h; have := congrArg List.length h; rw [List.length_drop, List.length_nil] at this; omega)
    rw [List.length_drop] at hb
    have hn := hb.2.1 rfl
    rw [haruspexref17_All.l0, if_pos (by omega), if_pos (by omega), bt_rd, ref_blank_f, h2, Option.bind_some, if_neg (by simp), ref_one rfl (by omega) hs ho K (by omega), Option.bind_some]
    dsimp only
    rw [if_pos rfl, if_pos rfl, if_pos (by omega), show (a : Int) + (n : Int) = ((a + n : Nat) : Int) from by omega, ih _ K (by rw [List.length_append]; simp; omega) (by omega)]
    by_cases he : e = 0
    · rw [if_pos he, if_pos he, if_pos he, List.append_assoc]; rfl
    · rw [if_neg he, if_neg he]
theorem all_f (hs : s.size ≤ 8192) {l : List Tok} {m e : Int} (h : Lx (bytesOf s) 0 l m e) (K : Nat) (hK : 100000 ≤ K) : lex_All.f K s = some (l.map toS, m, e) := by
  unfold lex_All.f
  have hb := blanks_f hs 0 (by omega) K (by omega)
  have hw := word_lx hs h [] K (by simp) (by omega)
  rw [if_neg (by omega), show (0 : Int) = ((0 : Nat) : Int) from rfl, hb, Option.bind_some]
  dsimp only
  rw [hw, List.nil_append]
  by_cases he : e = 0
  · rw [if_pos he]
  · rw [if_neg he, h.err.1 he]; rfl
theorem ref_all_f (hs : s.size ≤ 8192) {l : List Tok} {m e : Int} (h : Lx (bytesOf s) 0 l m e) (K : Nat) (hK : 100000 ≤ K) : haruspexref17_All.f K s = some (l.map toS, m, e) := by
  unfold haruspexref17_All.f
  have hw := ref_lx hs h [] K (by simp) (by omega)
  rw [if_neg (by omega), show (0 : Int) = ((0 : Nat) : Int) from rfl, hw, List.nil_append]
  by_cases he : e = 0
  · rw [if_pos he]
  · rw [if_neg he, h.err.1 he]; rfl
theorem all_long (hs : ¬ s.size ≤ 8192) (K : Nat) : lex_All.f K s = some ([], 0, 2) := by
  unfold lex_All.f
  rw [if_pos (by omega)]
theorem ref_all_long (hs : ¬ s.size ≤ 8192) (K : Nat) : haruspexref17_All.f K s = some ([], 0, 2) := by
  unfold haruspexref17_All.f
  rw [if_pos (by omega)]
theorem lx_of (s : ByteArray) : ∃ l m e, Lx (bytesOf s) 0 l m e := Lx.all (bytesOf s) (bytesOf s).length 0 (by omega)
end
theorem awake17 (K : Nat) (hK : 100000 ≤ K) : haruspexlaw17_awake.f K = some true := by
  have hb : bytesOf (⟨#[97, 45, 62, 98]⟩ : ByteArray) = [97, 45, 62, 98] := rfl
  have h : Lx [97, 45, 62, 98] 0 [(2, [97], 0), (5, [45, 62], 1), (2, [98], 3), (6, [], 4)] 4 0 := by
    have h3 : Lx [97, 45, 62, 98] 4 [(6, [], 4)] 4 0 := .ends rfl
    have h2 : Lx [97, 45, 62, 98] 3 [(2, [98], 3), (6, [], 4)] 4 0 := Lx.tok (b := [97, 45, 62, 98]) (a := 3) (n := 1) (by decide) rfl (One.is (X := [97, 45, 62, 98].drop 3) (k := 2) (n := 1) (by decide) (by decide)) h3
    have h1 : Lx [97, 45, 62, 98] 1 [(5, [45, 62], 1), (2, [98], 3), (6, [], 4)] 4 0 := Lx.tok (b := [97, 45, 62, 98]) (a := 1) (n := 2) (by decide) rfl (One.is (X := [97, 45, 62, 98].drop 1) (k := 5) (n := 2) (by decide) (by decide)) h2
    exact Lx.tok (b := [97, 45, 62, 98]) (a := 0) (n := 1) (by decide) rfl (One.is (X := [97, 45, 62, 98].drop 0) (k := 2) (n := 1) (by decide) (by decide)) h1
  unfold haruspexlaw17_awake.f
  rw [all_f (s := ⟨#[97, 45, 62, 98]⟩) (by decide) (by rw [hb]; exact h) K hK]
  decide +kernel
end Go.Proofs.Ytkbngfelegcplaa.Pure
