/- WordBack: a text that is quoted is unquoted as it was, whatever stands behind. No condition. -/
import Derived.Test.YtefljkgfkkdaiaaQuotedAll
set_option linter.unusedVariables false
namespace Go.Proofs.Ytefljkgfkkdaiaa.Pure
open Go.RowKit Go.Proofs.Ytefljkgfkkdaiaa.PAll Go.Proofs.YtefljkgfkkdaiaaW.PrintWords Go.Proofs.YtefljkgfkkdaiaaW.PrintLast

theorem val_tab (j : Nat) (hj : j < 16) : word_digit.val (word_Quote.tab j) = j := by
  rw [tab_eq]
  exact word_digit.val_hit _ j hj rfl
theorem tab_bytes (j : Nat) (hj : j < 16) : 48 ≤ word_Quote.tab j ∧ word_Quote.tab j ≤ 102 := by
  unfold word_Quote.tab; split <;> omega
theorem sign_bytes {c : Int} (h : 0 ≤ c ∧ c < 256) : isBytes (word_Quote.sign c) := by
  unfold word_Quote.sign
  have h1 := tab_bytes (c / 16).toNat (by omega)
  have h2 := tab_bytes (c % 16).toNat (by omega)
  intro x hx
  split at hx
  · simp at hx; omega
  · split at hx
    · simp at hx; omega
    · simp at hx; omega
theorem to_bytes {l : List Int} (h : isBytes l) : isBytes (word_Quote.to l) := by
  intro x hx
  unfold word_Quote.to at hx
  rcases List.mem_cons.1 hx with rfl | hx
  · omega
  · obtain ⟨c, hc, hx⟩ := List.mem_flatMap.1 hx
    exact sign_bytes (h c hc) x hx
theorem rd_at {b : List Int} {n : Nat} {pre post : List Int} (h : b.drop n = pre ++ post) (j : Nat) (hj : j < pre.length) : rd b ((n : Int) + (j : Int)) = rd pre (j : Int) ∧ n + j < b.length := by
  have h1 := rd_drop b n j
  rw [h] at h1
  have h2 : (b.drop n).length = (pre ++ post).length := by rw [h]
  rw [List.length_drop, List.length_append] at h2
  refine ⟨?_, by omega⟩
  rw [show (n : Int) + (j : Int) = ((n + j : Nat) : Int) from by omega, ← h1]
  unfold rd
  rw [Int.toNat_natCast, List.getD_eq_getElem?_getD, List.getD_eq_getElem?_getD, List.getElem?_append_left hj]
theorem drop_more {b : List Int} {n : Nat} {pre post : List Int} (h : b.drop n = pre ++ post) : b.drop (n + pre.length) = post := by
  rw [← List.drop_drop, h, List.drop_left]
theorem uq_quoted {b : List Int} (bh : List Int) (l : List Int) : ∀ (n : Nat) (out : List Int), isBytes l → b.drop n = l.flatMap word_Quote.sign ++ (39 :: bh) → out.length + l.length ≤ 256 →
    Uq b n out (out ++ l) ((n : Int) + (l.flatMap word_Quote.sign).length + 1) 0 := by
  induction l with
  | nil =>
    intro n out hl hd ho
    have hd : b.drop n = [39] ++ bh := by simpa using hd
    have e1 : rd b (n : Int) = 39 := by
      rw [show (n : Int) = n + ((0 : Nat) : Int) from by omega]
      exact (rd_at hd 0 (by simp)).1.trans rfl
    have e2 := (rd_at hd 0 (by simp)).2
    rw [List.append_nil, List.flatMap_nil, List.length_nil, show (n : Int) + ((0 : Nat) : Int) + 1 = n + 1 from by omega]
    exact Uq.close (by omega) e1 (by omega)
  | cons c l ih =>
    intro n out hl hd ho
    have hc := hl c (by simp)
    have hl' : isBytes l := fun x hx => hl x (by simp [hx])
    rw [List.flatMap_cons, List.append_assoc] at hd
    have hn := ih (n + (word_Quote.sign c).length) (out ++ [c]) hl' (drop_more hd) (by simp at ho ⊢; omega)
    rw [List.append_assoc, List.singleton_append] at hn
    rw [List.flatMap_cons, List.length_append]
    rw [show ((n + (word_Quote.sign c).length : Nat) : Int) + ((l.flatMap word_Quote.sign).length : Int) + 1 = (n : Int) + (((word_Quote.sign c).length + (l.flatMap word_Quote.sign).length : Nat) : Int) + 1 from by omega] at hn
    have hsg : word_Quote.sign c = if c = 39 ∨ c = 92 then [92, c] else if 32 ≤ c ∧ c ≤ 126 then [c] else [92, 120, word_Quote.tab (c / 16).toNat, word_Quote.tab (c % 16).toNat] := rfl
    by_cases c1 : c = 39 ∨ c = 92
    · rw [if_pos c1] at hsg
      rw [hsg] at hd hn ⊢
      have e0 : rd b (n : Int) = 92 := by
        rw [show (n : Int) = n + ((0 : Nat) : Int) from by omega]
        exact (rd_at hd 0 (by simp)).1.trans rfl
      have l0 := (rd_at hd 0 (by simp)).2
      have e1 : rd b ((n : Int) + 1) = c := (rd_at hd 1 (by simp)).1.trans rfl
      have l1 := (rd_at hd 1 (by simp)).2
      refine Uq.sign (by omega) e0 (by rw [e1]; exact c1) ?_
      rw [e1]
      simpa using hn
    · rw [if_neg c1] at hsg
      by_cases c2 : 32 ≤ c ∧ c ≤ 126
      · rw [if_pos c2] at hsg
        rw [hsg] at hd hn ⊢
        have e0 : rd b (n : Int) = c := by
          rw [show (n : Int) = n + ((0 : Nat) : Int) from by omega]
          exact (rd_at hd 0 (by simp)).1.trans rfl
        have l0 := (rd_at hd 0 (by simp)).2
        refine Uq.plain (by omega) (by rw [e0]; omega) (by rw [e0]; omega) (by rw [e0]; exact c2) ?_
        rw [e0]
        simpa using hn
      · rw [if_neg c2] at hsg
        rw [hsg] at hd hn ⊢
        have e0 : rd b (n : Int) = 92 := by
          rw [show (n : Int) = n + ((0 : Nat) : Int) from by omega]
          exact (rd_at hd 0 (by simp)).1.trans rfl
        have l0 := (rd_at hd 0 (by simp)).2
        have e1 : rd b ((n : Int) + 1) = 120 := (rd_at hd 1 (by simp)).1.trans rfl
        have l1 := (rd_at hd 1 (by simp)).2
        have e2 : rd b ((n : Int) + 2) = word_Quote.tab (c / 16).toNat := (rd_at hd 2 (by simp)).1.trans rfl
        have l2 := (rd_at hd 2 (by simp)).2
        have e3 : rd b ((n : Int) + 3) = word_Quote.tab (c % 16).toNat := (rd_at hd 3 (by simp)).1.trans rfl
        have l3 := (rd_at hd 3 (by simp)).2
        have v2 := val_tab (c / 16).toNat (by omega)
        have v3 := val_tab (c % 16).toNat (by omega)
        refine Uq.hex (x := c) (by omega) e0 e1 (by rw [e2, v2]; omega) (by rw [e3, v3]; omega) (by rw [e2, e3, v2, v3]; omega) c2 ?_
        simpa using hn
theorem WordBack : haruspexlaw05_WordBack.Pure := by
  intro a b ha hb
  refine ⟨4 * (a.size + b.size) + 10000, ?_⟩
  unfold haruspexlaw05_WordBack.f word_Quote.f
  by_cases h : (a.size : Int) > 256
  · rw [if_pos h]
    simp only [Option.bind_some]
    rw [if_neg (by decide), if_pos trivial, if_pos h, q_awake]
    rfl
  · rw [if_neg h]
    simp only [Option.bind_some]
    have hl := bytesOf_length a
    have hlen := word_Quote.to_len (bytesOf a)
    have hby := to_bytes (bytesOf_bytes a)
    have hby2 : isBytes (word_Quote.to (bytesOf a) ++ [39]) := isBytes_append hby (by intro x hx; simp at hx; omega)
    have hz : (strOfNums (word_Quote.to (bytesOf a) ++ [39])).size = (word_Quote.to (bytesOf a)).length + 1 := by rw [strOfNums_size]; simp
    have hb2 := bytesOf_append (strOfNums (word_Quote.to (bytesOf a) ++ [39])) b
    rw [bytesOf_strOfNums hby2] at hb2
    have hsz : (strOfNums (word_Quote.to (bytesOf a) ++ [39]) ++ b).size = (word_Quote.to (bytesOf a)).length + 1 + b.size := by
      rw [ByteArray.size_append, hz]
    have hU := uq_quoted (b := bytesOf (strOfNums (word_Quote.to (bytesOf a) ++ [39]) ++ b)) (bytesOf b) (bytesOf a) 1 [] (bytesOf_bytes a) (by rw [hb2]; unfold word_Quote.to; simp) (by simp; omega)
    rw [List.nil_append] at hU
    have hA : UqAll (bytesOf (strOfNums (word_Quote.to (bytesOf a) ++ [39]) ++ b)) (bytesOf a) (((1 : Nat) : Int) + ((bytesOf a).flatMap word_Quote.sign).length + 1) 0 := .inr ⟨by rw [hb2]; simp; omega, by rw [hb2]; rfl, hU⟩
    have hto : (word_Quote.to (bytesOf a)).length = ((bytesOf a).flatMap word_Quote.sign).length + 1 := by unfold word_Quote.to; simp
    rw [if_pos trivial, if_pos (by omega), word_unquote hA (by omega) _ (by omega)]
    simp only [Option.bind_some]
    rw [if_pos trivial, if_pos (by rw [strOfNums_bytesOf]), if_pos (by omega), q_awake]
    rfl
end Go.Proofs.Ytefljkgfkkdaiaa.Pure
