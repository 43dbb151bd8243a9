/- WordFolds: what is folded is folded already and as long as it was; a text of A to Z is a name then, and was none; a name is folded as it is. No condition. -/
import Derived.Test.YtefljkgfkkdaiaaPAllx2
import Derived.Test.YtefljkgfkkdaiaaWord
set_option linter.unusedVariables false
set_option linter.unusedSimpArgs false
namespace Go.Proofs.Ytefljkgfkkdaiaa.Pure
open Go.RowKit Go.Proofs.Ytefljkgfkkdaiaa.PAll Go.Proofs.YtefljkgfkkdaiaaW.PrintWords Go.Proofs.YtefljkgfkkdaiaaW.PrintLast Go.Proofs.YtefljkgfkkdaiaaW.HandWords

theorem WordFolds : haruspexlaw05_WordFolds.Pure := by
  intro s hs
  have hl := bytesOf_length s
  obtain ⟨l, hL⟩ : ∃ l, bytesOf s = l := ⟨_, rfl⟩
  have hb : isBytes l := by rw [← hL]; exact bytesOf_bytes s
  have hfb := folded_bytes hb
  have hsz : (strOfNums (l.map fold1)).size = s.size := by rw [strOfNums_size, List.length_map, ← hL, hl]
  have hff : (l.map fold1).map fold1 = l.map fold1 := by
    rw [List.map_map]; exact List.map_congr_left fun x _ => fold1_twice x
  rw [hL] at hl
  unfold haruspexlaw05_WordFolds.f
  rw [fold_f hs, hL, Option.bind_some, fold_f (by omega), bytesOf_strOfNums hfb, hff, Option.bind_some, if_pos rfl, if_pos (by omega), upper_f hs, hL, Option.bind_some, name_f hs, hL, name_f (by omega), bytesOf_strOfNums hfb, awake_f]
  simp only [Option.bind_some]
  have hname : word_Name.is l = true → (strOfNums (l.map fold1)).toList = s.toList := by
    intro h
    unfold word_Name.is at h
    simp only [Bool.and_eq_true] at h
    have hall := List.all_eq_true.1 h.1.1.1
    have : l.map fold1 = l := by
      conv => rhs; rw [← List.map_id l]
      exact List.map_congr_left fun x hx => fold1_sign (hall x hx)
    rw [this, ← hL, strOfNums_bytesOf]
  by_cases hu : word_Upper.is l = true
  · have hu' := hu
    unfold word_Upper.is at hu'
    simp only [Bool.and_eq_true, decide_eq_true_eq] at hu'
    have hall := List.all_eq_true.1 hu'.1.1
    obtain ⟨c, t, rfl⟩ : ∃ c t, l = c :: t := by
      cases l with
      | nil => simp at hu'
      | cons c t => exact ⟨c, t, rfl⟩
    have hc := fold1_up (hall c List.mem_cons_self)
    have h1 : word_Name.is ((c :: t).map fold1) = true := by
      unfold word_Name.is
      simp only [Bool.and_eq_true, decide_eq_true_eq]
      refine ⟨⟨⟨?_, ?_⟩, by simp⟩, by simpa using hu'.2⟩
      · rw [List.all_eq_true]
        intro x hx
        obtain ⟨y, hy, rfl⟩ := List.mem_map.1 hx
        exact (fold1_up (hall y hy)).2.1
      · exact hc.1
    have h2 : word_Name.is (c :: t) = false := word_Name.no_first (l := c :: t) hc.2.2
    rw [if_pos hu, h1, if_pos rfl, h2, if_neg (by simp), if_neg (by simp)]
  · rw [if_neg hu]
    by_cases hn : word_Name.is l = true
    · rw [if_pos hn, if_pos (hname hn)]
    · rw [if_neg hn]
end Go.Proofs.Ytefljkgfkkdaiaa.Pure
