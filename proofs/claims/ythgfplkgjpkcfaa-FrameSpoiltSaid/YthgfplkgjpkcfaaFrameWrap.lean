/- Plain laws of frames: what a frame of bytes is. -/
import Derived.Test.YthgfplkgjpkcfaaFrame
set_option linter.unusedVariables false
set_option linter.unusedSimpArgs false
namespace Go.Proofs.Ythgfplkgjpkcfaa.Pure
open Go.RowKit Go.Proofs.Ythgfplkgjpkcfaa.PAll Go.Proofs.YthgfplkgjpkcfaaW.PrintWords Go.Proofs.YthgfplkgjpkcfaaW.PrintLast Go.Proofs.YthgfplkgjpkcfaaW.PrintMore

def four (s : Int) : List Int := [s % 256, (s / 256) % 256, (s / 65536) % 256, (s / 16777216) % 256]
/-- a frame's bytes ahead of the sum -/
def body (l : List Int) : List Int := vb 9 (l.length : Int) ++ l
def sumOf (l : List Int) : Int := flip (crc (flip 0) l)
theorem body_bytes {l : List Int} (h : bytes8 l) (hl : l.length ≤ 65536) : bytes8 (body l) := by
  intro x hx
  rcases List.mem_append.1 hx with hx | hx
  · exact vb_bytes 9 _ (by omega) (by omega) x hx
  · exact h x hx
theorem body_len (l : List Int) : l.length + 1 ≤ (body l).length ∧ (body l).length ≤ l.length + 10 := by
  have := vb_len 9 (l.length : Int)
  unfold body
  rw [List.length_append]
  omega
theorem wrap_l0 (K : Nat) (x : List Int) (s : Int) (hK : 5 ≤ K) (hx : x.length + 10 < 140737488355328) : frame_Wrap.l0 K x s 0 = some (x ++ four s, 0) := by
  obtain ⟨K, rfl⟩ : ∃ n, K = n + 5 := ⟨K - 5, by omega⟩
  have e0 : shr .u32 s (wrap64 (8 * 0)) = s := by
    rw [wrap64_in (by omega) (by omega), show (8 : Int) * 0 = ((0 : Nat) : Int) from rfl, shr_u32 s 0 (by omega)]; simp
  have e1 : shr .u32 s (wrap64 (8 * 1)) = s / 256 := by
    rw [wrap64_in (by omega) (by omega), show (8 : Int) * 1 = ((8 : Nat) : Int) from rfl, shr_u32 s 8 (by omega)]; rfl
  have e2 : shr .u32 s (wrap64 (8 * 2)) = s / 65536 := by
    rw [wrap64_in (by omega) (by omega), show (8 : Int) * 2 = ((16 : Nat) : Int) from rfl, shr_u32 s 16 (by omega)]; rfl
  have e3 : shr .u32 s (wrap64 (8 * 3)) = s / 16777216 := by
    rw [wrap64_in (by omega) (by omega), show (8 : Int) * 3 = ((24 : Nat) : Int) from rfl, shr_u32 s 24 (by omega)]; rfl
  rw [frame_Wrap.l0, if_pos (by omega), if_pos (by rw [wrap64_in (by omega) (by omega)]; omega), if_pos (by omega), e0, wrap64_in (n := 0 + 1) (by omega) (by omega), show (0 : Int) + 1 = 1 from rfl,
    frame_Wrap.l0, if_pos (by omega), if_pos (by rw [wrap64_in (by omega) (by omega)]; omega), if_pos (by simp; omega), e1, wrap64_in (n := 1 + 1) (by omega) (by omega), show (1 : Int) + 1 = 2 from rfl,
    frame_Wrap.l0, if_pos (by omega), if_pos (by rw [wrap64_in (by omega) (by omega)]; omega), if_pos (by simp; omega), e2, wrap64_in (n := 2 + 1) (by omega) (by omega), show (2 : Int) + 1 = 3 from rfl,
    frame_Wrap.l0, if_pos (by omega), if_pos (by rw [wrap64_in (by omega) (by omega)]; omega), if_pos (by simp; omega), e3, wrap64_in (n := 3 + 1) (by omega) (by omega), show (3 : Int) + 1 = 4 from rfl,
    frame_Wrap.l0, if_neg (by omega)]
  simp [four]
theorem wrap_f {l : List Int} (h : bytes8 l) (hl : l.length ≤ 65536) (K : Nat) (hK : 20 ≤ K) : frame_Wrap.f K l = some (body l ++ four (sumOf (body l)), 0) := by
  have hbl := body_len l
  unfold frame_Wrap.f
  rw [if_neg (by omega), show IntKind.u64.wrap (l.length : Int) = l.length from by rw [wrap_u64]; omega, put_f K [] (l.length : Int) (by omega) (by omega) (by omega) (by simp), Option.bind_some, List.nil_append,
    if_pos (by have := vb_len 9 (l.length : Int); omega), Option.bind_some]
  show ((frame_Sum.f (body l)).bind fun t122 => (frame_Wrap.l0 K (body l) t122 0)) = _
  rw [sum_f (body_bytes h hl), Option.bind_some, wrap_l0 K _ _ (by omega) (by omega)]
  rfl
theorem wrap_long {l : List Int} (hl : ¬ l.length ≤ 65536) (K : Nat) : frame_Wrap.f K l = some ([], 2) := by
  unfold frame_Wrap.f
  rw [if_pos (by omega)]
theorem ref_wrap_f {l : List Int} (h : bytes8 l) (hl : l.length ≤ 65536) (K : Nat) (hK : 8 * l.length + 200 ≤ K) : haruspexref03_Wrap.f K l = some (body l ++ four (sumOf (body l)), 0) := by
  have hbl := body_len l
  unfold haruspexref03_Wrap.f
  rw [if_neg (by omega), show IntKind.u64.wrap (l.length : Int) = l.length from by rw [wrap_u64]; omega, ref_put_f K [] (l.length : Int) (by omega) (by omega) (by omega) (by simp), Option.bind_some, List.nil_append,
    if_pos (by have := vb_len 9 (l.length : Int); omega), Option.bind_some]
  show ((haruspexref03_Sum.f K (body l)).bind fun t146 => ((some (([(t146) % 256, (t146 / 256) % 256, (t146 / 65536) % 256, (t146 / 16777216) % 256] : List Int) : List Int)).bind fun y147 => (if (body l).length + y147.length < 140737488355328 then (some ((body l ++ y147), 0)) else (none)))) = _
  rw [ref_sum_f (body_bytes h hl) (by omega) K (by omega), Option.bind_some, Option.bind_some, if_pos (by simp; omega)]
  rfl
theorem ref_wrap_long {l : List Int} (hl : ¬ l.length ≤ 65536) (K : Nat) : haruspexref03_Wrap.f K l = some ([], 2) := by
  unfold haruspexref03_Wrap.f
  rw [if_pos (by omega)]
end Go.Proofs.Ythgfplkgjpkcfaa.Pure
