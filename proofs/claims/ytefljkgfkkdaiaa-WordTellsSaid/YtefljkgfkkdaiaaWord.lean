/- Plain laws of names and folded texts. -/
import Derived.Test.YtefljkgfkkdaiaaPAllx2
import Derived.Test.YtefljkgfkkdaiaaStr
set_option linter.unusedVariables false
set_option linter.unusedSimpArgs false
namespace Go.Proofs.Ytefljkgfkkdaiaa.Pure
open Go.RowKit Go.Proofs.Ytefljkgfkkdaiaa.PAll Go.Proofs.YtefljkgfkkdaiaaW.PrintWords Go.Proofs.YtefljkgfkkdaiaaW.PrintLast Go.Proofs.YtefljkgfkkdaiaaW.PrintMore Go.Proofs.YtefljkgfkkdaiaaW.HandWords

theorem wrap64_in {n : Int} (h0 : -9223372036854775808 ≤ n) (h1 : n ≤ 9223372036854775807) : wrap64 n = n := by unfold wrap64; omega
theorem name_f {s : ByteArray} (h : s.size ≤ 140737488351232) : word_Name.f s = some (word_Name.is (bytesOf s)) := by
  unfold word_Name.f; rw [if_pos h]
theorem upper_f {s : ByteArray} (h : s.size ≤ 140737488351232) : word_Upper.f s = some (word_Upper.is (bytesOf s)) := by
  unfold word_Upper.f; rw [if_pos h]
theorem fold_f {s : ByteArray} (h : s.size ≤ 140737488351232) : word_Fold.f s = some (strOfNums ((bytesOf s).map fold1)) := by
  unfold word_Fold.f; rw [if_pos h]
theorem awake_f : haruspexlaw05_awake.f = some true := by
  unfold haruspexlaw05_awake.f
  rw [name_f (by decide)]
  have : word_Name.is (bytesOf (⟨#[97, 49, 95]⟩ : ByteArray)) = true := by decide
  rw [this]; rfl
theorem fold1_byte {c : Int} (h : 0 ≤ c ∧ c < 256) : 0 ≤ fold1 c ∧ fold1 c < 256 := by
  unfold fold1; split <;> omega
theorem fold1_twice (c : Int) : fold1 (fold1 c) = fold1 c := by
  unfold fold1; split <;> (try split) <;> omega
theorem folded_bytes {l : List Int} (h : isBytes l) : isBytes (l.map fold1) := by
  intro x hx
  obtain ⟨y, hy, rfl⟩ := List.mem_map.1 hx
  exact fold1_byte (h y hy)
theorem fold1_sign {c : Int} (h : word_Name.sign c = true) : fold1 c = c := by
  unfold word_Name.sign word_Name.low at h
  simp at h
  unfold fold1; rw [if_neg (by omega)]
theorem fold1_up {c : Int} (h : word_Upper.up c = true) : word_Name.low (fold1 c) = true ∧ word_Name.sign (fold1 c) = true ∧ word_Name.low c = false := by
  unfold word_Upper.up at h
  simp at h
  have e : fold1 c = c + 32 := by unfold fold1; rw [if_pos h]
  rw [e]
  unfold word_Name.sign word_Name.low
  refine ⟨?_, ?_, ?_⟩ <;> simp <;> omega
end Go.Proofs.Ytefljkgfkkdaiaa.Pure
