/- LexPlaces: places of tokens rise, and the text has each token's signs there; the last one is the end. No condition. -/
import Derived.Test.YtkbngfelegcplaaLexAll
import Derived.Test.YtkbngfelegcplaaPAllx9
set_option linter.unusedVariables false
namespace Go.Proofs.Ytkbngfelegcplaa.Pure
open Go.RowKit Go.Proofs.Ytkbngfelegcplaa.PAll Go.Proofs.YtkbngfelegcplaaW.PrintWords Go.Proofs.YtkbngfelegcplaaW.PrintLast

/-- what is told of the tokens from a place on -/
structure Fits (b : List Int) (a : Nat) (l : List Tok) : Prop where
  ne : 0 < l.length
  here : ∀ i k t p, l[i]? = some (k, t, p) → a ≤ p ∧ p ≤ b.length ∧ (k = 6 ↔ i + 1 = l.length) ∧ (k ≠ 4 → p + t.length ≤ b.length ∧ (b.drop p).take t.length = t) ∧ (i + 1 = l.length → p = b.length)
  rise : ∀ i k t p k' t' p', l[i]? = some (k, t, p) → l[i + 1]? = some (k', t', p') → p < p'
theorem Lx.fits {b : List Int} {a : Nat} {l : List Tok} {m e : Int} (h : Lx b a l m e) : e = 0 → Fits b a l := by
  induction h with
  | ends h =>
    intro _
    refine ⟨by simp, ?_, ?_⟩
    · intro i k t p hi
      match i with
      | 0 =>
        simp only [List.getElem?_cons_zero, Option.some.injEq, Prod.mk.injEq] at hi
        obtain ⟨rfl, rfl, rfl⟩ := hi
        exact ⟨by omega, Nat.le_refl _, by simp, fun _ => ⟨by simp, by simp⟩, fun _ => rfl⟩
      | i + 1 => simp at hi
    · intro i k t p k' t' p' h1 h2
      simp at h2
  | blank h1 h2 h ih =>
    intro he
    obtain ⟨f1, f2, f3⟩ := ih he
    exact ⟨f1, fun i k t p hi => by have := f2 i k t p hi; exact ⟨by omega, this.2⟩, f3⟩
  | bad h1 h2 ho he => intro h; exact absurd h he
  | tok h1 h2 ho h ih =>
    rename_i a k m e t n l
    intro he
    obtain ⟨f1, f2, f3⟩ := ih he
    rw [if_pos he]
    have hb := ho.bd (by intro h; have := congrArg List.length h; rw [List.length_drop, List.length_nil] at this; omega)
    rw [List.length_drop] at hb
    have hn := hb.2.1 rfl
    refine ⟨by simp, ?_, ?_⟩
    · intro i k' t' p hi
      match i with
      | 0 =>
        simp only [List.getElem?_cons_zero, Option.some.injEq, Prod.mk.injEq] at hi
        obtain ⟨rfl, rfl, rfl⟩ := hi
        refine ⟨Nat.le_refl _, by omega, ⟨fun h => absurd h hb.2.2.1, fun h => by rw [List.length_cons] at h; omega⟩, fun h4 => ?_, fun h => by rw [List.length_cons] at h; omega⟩
        have ht := hb.2.2.2.1 rfl h4
        have hl : t.length = n := by rw [ht, List.length_take, List.length_drop]; omega
        exact ⟨by omega, by rw [hl]; exact ht.symm⟩
      | i + 1 =>
        rw [List.getElem?_cons_succ] at hi
        have := f2 i k' t' p hi
        refine ⟨by omega, this.2.1, ?_, this.2.2.2.1, fun h => this.2.2.2.2 (by simp at h; exact h)⟩
        rw [this.2.2.1, List.length_cons]; omega
    · intro i k1 t1 p1 k2 t2 p2 h1 h2
      rw [List.getElem?_cons_succ] at h2
      match i with
      | 0 =>
        simp only [List.getElem?_cons_zero, Option.some.injEq, Prod.mk.injEq] at h1
        obtain ⟨rfl, rfl, rfl⟩ := h1
        have := f2 0 k2 t2 p2 h2
        omega
      | i + 1 =>
        rw [List.getElem?_cons_succ] at h1
        exact f3 i k1 t1 p1 k2 t2 p2 h1 h2
theorem rdT_map {l : List Tok} {i : Nat} {x : Tok} (h : l[i]? = some x) : rd_T32 (l.map toS) (i : Int) = toS x := by
  unfold rd_T32
  first | unfold rdOf | skip
  rw [Int.toNat_natCast, List.getD_eq_getElem?_getD, List.getElem?_map, h]; rfl
theorem places_l0 (s : ByteArray) (hs : s.size ≤ 8192) (l : List Tok) (hl : l.length ≤ 100000) (hf : Fits (bytesOf s) 0 l) (d : Nat) : ∀ (i K : Nat), i + d = l.length → 2 * d + 200000 < K → haruspexlaw17_LexPlaces.l0 K s (l.map toS) (i : Int) = some true := by
  have hbl := bytesOf_length s
  have hml : (l.map toS).length = l.length := List.length_map _
  have hne := hf.ne
  have hget : ∀ i, i < l.length → ∃ k t p, l[i]? = some (k, t, p) := fun i hi => ⟨_, _, _, List.getElem?_eq_getElem hi⟩
  have HF := Aside0.mk hf
  have HG := Aside0.mk hget
  clear hf hget
  induction d with
  | zero =>
    intro i K hi hK
    obtain ⟨K, rfl⟩ : ∃ n, K = n + 1 := ⟨K - 1, by omega⟩
    obtain ⟨k, t, p, hx⟩ := HG.out (l.length - 1) (by omega)
    have hlast : p = (bytesOf s).length := (HF.out.here _ _ _ _ hx).2.2.2.2 (by omega)
    rw [haruspexlaw17_LexPlaces.l0, if_neg (by omega), q_wrap (n := ((l.map toS).length : Int) - 1) (by omega) (by omega), if_pos (by omega), if_pos (by omega), if_pos (by omega), show ((l.map toS).length : Int) - 1 = ((l.length - 1 : Nat) : Int) from by omega, rdT_map hx, if_pos (show (toS (k, t, p)).f2 = (s.size : Int) from by show ((p : Nat) : Int) = (s.size : Int); omega), awake17 K (by omega)]
    rfl
  | succ d ih =>
    intro i K hi hK
    obtain ⟨K, rfl⟩ : ∃ n, K = n + 2 := ⟨K - 2, by omega⟩
    obtain ⟨k, t, p, hx⟩ := HG.out i (by omega)
    obtain ⟨_, hp1, h6, h4t, _⟩ := HF.out.here _ _ _ _ hx
    have H6 := Aside0.mk h6
    have H4 := Aside0.mk h4t
    clear h6 h4t
    have hnx := ih (i + 1) K (by omega) (by omega)
    clear ih
    have hw1 : wrap64 ((i : Int) + 1) = ((i + 1 : Nat) : Int) := by rw [q_wrap (n := (i : Int) + 1) (by omega) (by omega)]; omega
    have hwl : wrap64 (((l.map toS).length : Int) - 1) = (l.length : Int) - 1 := by rw [q_wrap (n := ((l.map toS).length : Int) - 1) (by omega) (by omega), hml]
    have hflag : ((k == 6) != ((i : Int) == ((l.length : Int) - 1))) = false := by
      rw [bne_eq_false_iff_eq]
      by_cases h6 : k = 6
      · have := H6.out.1 h6
        rw [beq_iff_eq.mpr h6, beq_iff_eq.mpr (show (i : Int) = (l.length : Int) - 1 by omega)]
      · have : ¬ i + 1 = l.length := fun h => h6 (H6.out.2 h)
        rw [beq_eq_false_iff_ne.mpr h6, beq_eq_false_iff_ne.mpr (show (i : Int) ≠ (l.length : Int) - 1 by omega)]
    have hj : haruspexlaw17_LexPlaces.j1 (K + 1) s (l.map toS) (i : Int) false k (strOfNums t) (p : Int) = some true := by
      rw [haruspexlaw17_LexPlaces.j1, if_neg (show ¬ (false = true) by decide), hw1]
      by_cases h4 : k = 4
      · rw [if_pos h4, hnx]
      · rw [if_neg h4]
        obtain ⟨ht1, ht2⟩ := H4.out h4
        have htb : isBytes t := by rw [← ht2]; exact isBytes_take (isBytes_drop (bytesOf_bytes s) _) _
        have hsz : (strOfNums t).size = t.length := by rw [← bytesOf_length, bytesOf_strOfNums htb]
        have hext : (s.extract ((p : Int)).toNat (((p : Int) + (t.length : Int)).toNat)).toList = (strOfNums t).toList := by
          rw [toList_eq, bytesOf_strOfNums htb, Int.toNat_natCast, show ((p : Int) + (t.length : Int)).toNat = p + t.length from by omega, bytesOf_extract, List.drop_take, Nat.add_sub_cancel_left]
          exact ht2
        rw [hsz, q_wrap (n := (p : Int) + (t.length : Int)) (by omega) (by omega), if_neg (show ¬ (p : Int) + (t.length : Int) > (s.size : Int) by omega), if_pos (show (0 : Int) ≤ (p : Int) by omega), if_pos (show (p : Int) ≤ (p : Int) + (t.length : Int) by omega), if_pos (show (p : Int) + (t.length : Int) ≤ (s.size : Int) by omega), if_pos hext, hnx]
    have hrd : rd_T32 (l.map toS) (i : Int) = ⟨k, strOfNums t, (p : Int)⟩ := rdT_map hx
    rw [haruspexlaw17_LexPlaces.l0, if_pos (show (i : Int) < ((l.map toS).length : Int) by omega), if_pos (show (0 : Int) ≤ (i : Int) by omega), hrd, hwl]
    dsimp only
    rw [hflag]
    by_cases h0 : (i : Int) > 0
    · obtain ⟨k', t', p', hx'⟩ := HG.out (i - 1) (by omega)
      have hr := HF.out.rise (i - 1) k' t' p' k t p hx' (by rw [show i - 1 + 1 = i from by omega]; exact hx)
      have hrd' : rd_T32 (l.map toS) ((i : Int) - 1) = ⟨k', strOfNums t', (p' : Int)⟩ := by rw [show (i : Int) - 1 = ((i - 1 : Nat) : Int) from by omega]; exact rdT_map hx'
      rw [if_pos h0, q_wrap (n := (i : Int) - 1) (by omega) (by omega), if_pos (show (0 : Int) ≤ (i : Int) - 1 by omega), if_pos (show (i : Int) - 1 < ((l.map toS).length : Int) by omega), hrd']
      dsimp only
      rw [if_neg (show ¬ (p : Int) ≤ (p' : Int) by omega), if_neg (show ¬ (p : Int) < 0 by omega), if_neg (show ¬ (p : Int) > (s.size : Int) by omega), hj]
    · rw [if_neg h0, if_neg (show ¬ (p : Int) < 0 by omega), if_neg (show ¬ (p : Int) > (s.size : Int) by omega), hj]
theorem LexPlaces : haruspexlaw17_LexPlaces.Pure := by
  intro s _
  refine ⟨900000, ?_⟩
  unfold haruspexlaw17_LexPlaces.f
  by_cases hs : s.size ≤ 8192
  · obtain ⟨l, m, e, h⟩ := lx_of s
    have hb := bytesOf_length s
    have herr := h.err
    rw [all_f hs h _ (by omega), Option.bind_some]
    dsimp only
    by_cases he : e = 0
    · have hlen := herr.2.2.2.2 he
      rw [if_pos he]
      exact places_l0 s hs l (by omega) (h.fits he) l.length 0 _ (by omega) (by omega)
    · rw [if_neg he, herr.1 he]
      obtain ⟨_, h2, h3, _, _⟩ := herr
      rw [if_pos (show (((List.map toS ([] : List Tok)).length : Nat) : Int) = 0 from rfl), if_pos (show m ≥ 0 by omega), if_pos (show m ≤ (s.size : Int) by omega), awake17 _ (by omega)]; rfl
  · rw [all_long hs, Option.bind_some]
    dsimp only
    rw [if_neg (by decide), if_pos (show ((([] : List S32).length : Nat) : Int) = 0 from rfl), if_pos (by decide), if_pos (by omega), awake17 _ (by omega)]; rfl
end Go.Proofs.Ytkbngfelegcplaa.Pure
