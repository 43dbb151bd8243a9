/- LexPlays: what the plain law tells of any text: its tokens by both, what its numbers are. No condition. -/
import Derived.Test.YtkbngfelegcplaaLexAll
import Derived.Test.YtkbngfelegcplaaLexNum
import Derived.Test.YtkbngfelegcplaaLexPlaysWalk
set_option linter.unusedVariables false
namespace Go.Proofs.Ytkbngfelegcplaa.Pure
open Go.RowKit Go.Proofs.Ytkbngfelegcplaa.PAll Go.Proofs.YtkbngfelegcplaaW.PrintWords Go.Proofs.YtkbngfelegcplaaW.PrintLast

theorem Lx.last {b : List Int} {a : Nat} {l : List Tok} {m e : Int} (h : Lx b a l m e) : e = 0 → 0 < l.length ∧ ∀ j x, j + 1 = l.length → l[j]? = some x → x.1 = 6 := by
  induction h with
  | ends h =>
    intro _
    refine ⟨by simp, fun j x hj hx => ?_⟩
    simp at hj
    subst hj
    simp at hx
    subst hx; rfl
  | blank h1 h2 h ih => exact ih
  | bad h1 h2 ho he => intro h; exact absurd h he
  | tok h1 h2 ho h ih =>
    intro he
    obtain ⟨g1, g2⟩ := ih he
    rw [if_pos he]
    refine ⟨by simp, fun j x hj hx => ?_⟩
    rw [List.length_cons] at hj
    match j with
    | 0 => omega
    | j + 1 =>
      rw [List.getElem?_cons_succ] at hx
      exact g2 j x (by omega) hx
theorem Uq.short {b : List Int} {i : Int} {out t : List Int} {p e : Int} (h : Uq b i out t p e) : e = 0 → t.length ≤ 256 := by
  induction h with
  | ends h1 => intro h; exact absurd h (by decide)
  | long h1 h2 h3 => intro h; exact absurd h (by decide)
  | close h1 h2 h3 => intro _; omega
  | plain h1 h2 h3 h4 h ih => exact ih
  | odd h1 h2 h3 h4 => intro h; exact absurd h (by decide)
  | cut1 h1 h2 h3 => intro h; exact absurd h (by decide)
  | sign h1 h2 h3 h ih => exact ih
  | nosign h1 h2 h3 h4 => intro h; exact absurd h (by decide)
  | cut2 h1 h2 h3 h4 => intro h; exact absurd h (by decide)
  | dig1 h1 h2 h3 h4 => intro h; exact absurd h (by decide)
  | cut3 h1 h2 h3 h4 h5 => intro h; exact absurd h (by decide)
  | dig2 h1 h2 h3 h4 h5 => intro h; exact absurd h (by decide)
  | bad h1 h2 h3 h4 h5 hx h6 => intro h; exact absurd h (by decide)
  | hex h1 h2 h3 h4 h5 hx h6 h ih => exact ih
theorem One.short {X t : List Int} {k e : Int} {n : Nat} (h : One X k t n e) (hX : X.length ≤ 8192) : t.length ≤ 8192 := by
  cases h with
  | text h hu =>
    rcases hu with ⟨_, _, _, h⟩ | ⟨_, _, hu⟩
    · exact absurd h (by decide)
    · have := hu.short rfl; omega
  | textE h hu he => simp
  | is h ht => rw [List.length_take]; omega
  | no h ht => simp
theorem Lx.short {b : List Int} {a : Nat} {l : List Tok} {m e : Int} (h : Lx b a l m e) (hb : b.length ≤ 8192) : ∀ x ∈ l, x.2.1.length ≤ 8192 := by
  induction h with
  | ends h => intro x hx; rw [List.mem_singleton] at hx; subst hx; simp
  | blank h1 h2 h ih => exact ih
  | bad h1 h2 ho he => intro x hx; cases hx
  | tok h1 h2 ho h ih =>
    intro x hx
    split at hx
    · rcases List.mem_cons.1 hx with rfl | hx
      · exact ho.short (by rw [List.length_drop]; omega)
      · exact ih x hx
    · cases hx
theorem told (s : ByteArray) : ∃ K l n er pn pe, Reader.Told s K l n er pn pe := by
  by_cases hs : s.size ≤ 8192
  · obtain ⟨l, m, e, h⟩ := lx_of s
    have hb := bytesOf_length s
    refine ⟨400000, l.map toS, m, e, fun j => (PureNum.parsed (bytesOf (Reader.now (l.map toS) j).f1)).1, fun j => (PureNum.parsed (bytesOf (Reader.now (l.map toS) j).f1)).2, all_f hs h _ (by omega), ref_all_f hs h _ (by omega), ?_, ?_, awake17 _ (by omega)⟩
    · intro he
      obtain ⟨g1, g2⟩ := h.last he
      have := h.err.2.2.2.2 he
      refine ⟨by rw [List.length_map]; omega, by rw [List.length_map]; exact g1, fun j hj => ?_⟩
      rw [List.length_map] at hj
      have hx : l[j]? = some l[j] := List.getElem?_eq_getElem (by omega)
      have := g2 j _ hj hx
      unfold rd_T32
      rw [Int.toNat_natCast, List.getD_eq_getElem?_getD, List.getElem?_map, hx]
      exact this
    · intro j hj
      rw [List.length_map] at hj
      have hx : l[j]? = some l[j] := List.getElem?_eq_getElem (by omega)
      have hn : Reader.now (l.map toS) j = toS l[j] := by
        unfold Reader.now rd_T32
        rw [Int.toNat_natCast, List.getD_eq_getElem?_getD, List.getElem?_map, hx]; rfl
      have hsz : (Reader.now (l.map toS) j).f1.size ≤ 8192 := by
        rw [hn]
        show (strOfNums (l[j]).2.1).size ≤ 8192
        rw [strOfNums_size]
        exact h.short (by omega) _ (List.getElem_mem _)
      exact ⟨PureNum.parse_f _ _ (by omega) (by omega), PureNum.ref_parse_f _ _ (by omega) (by omega)⟩
  · refine ⟨400000, [], 0, 2, fun _ => 0, fun _ => 0, all_long hs _, ref_all_long hs _, fun h => absurd h (by decide), fun j hj => absurd hj (by simp), awake17 _ (by omega)⟩
end Go.Proofs.Ytkbngfelegcplaa.Pure
