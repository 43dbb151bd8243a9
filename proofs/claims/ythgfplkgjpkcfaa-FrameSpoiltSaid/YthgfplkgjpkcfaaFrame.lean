/- Plain laws of the sum of bytes: over the bits, the program's and the document's answer. -/
import Derived.Test.YthgfplkgjpkcfaaVintPut
set_option linter.unusedVariables false
set_option linter.unusedSimpArgs false
namespace Go.Proofs.Ythgfplkgjpkcfaa.Pure
open Go.RowKit Go.Proofs.Ythgfplkgjpkcfaa.PAll Go.Proofs.YthgfplkgjpkcfaaW.PrintWords Go.Proofs.YthgfplkgjpkcfaaW.PrintLast Go.Proofs.YthgfplkgjpkcfaaW.PrintMore

theorem rd_bytes {l : List Int} (h : bytes8 l) : ∀ k : Nat, k < l.length → 0 ≤ rd l (k : Int) ∧ rd l (k : Int) < 256 := by
  intro k hk
  unfold rd
  rw [Int.toNat_natCast, List.getD_eq_getElem?_getD, List.getElem?_eq_getElem hk]
  exact h _ (List.getElem_mem hk)
/-- the sum so far, without the last turn -/
def crc (s : Int) (l : List Int) : Int := frame_More.run s (frame_More.bits l)
def flip (s : Int) : Int := Go.bits .xor .u32 s 4294967295
theorem more_f (s : Int) {l : List Int} (h : bytes8 l) : frame_More.f s l = some (flip (crc (flip s) l)) := by
  unfold frame_More.f
  rw [if_pos (rd_bytes h)]; rfl
theorem sum_f {l : List Int} (h : bytes8 l) : frame_Sum.f l = some (flip (crc (flip 0) l)) := by
  unfold frame_Sum.f
  rw [more_f 0 h]; rfl
theorem awake_f : haruspexlaw03_awake.f = some true := by
  unfold haruspexlaw03_awake.f
  rw [sum_f (by intro x hx; simp [haruspexlaw03_awake.nine] at hx; omega)]
  decide +kernel
theorem bits_app (a b : List Int) : frame_More.bits (a ++ b) = frame_More.bits a ++ frame_More.bits b := by
  unfold frame_More.bits; rw [List.flatMap_append]
theorem crc_app (s : Int) (a b : List Int) : crc s (a ++ b) = crc (crc s a) b := by
  unfold crc frame_More.run
  rw [bits_app, List.foldl_append]
theorem bits_get (l : List Int) : ∀ i : Nat, i < 8 * l.length → (frame_More.bits l)[i]? = some (frame_More.bit (rd l ((i / 8 : Nat) : Int)) (i % 8)) := by
  induction l with
  | nil => intro i h; simp at h
  | cons c t ih =>
    intro i h
    have hb : frame_More.bits (c :: t) = frame_More.some_ c 8 ++ frame_More.bits t := rfl
    have hl := frame_More.some_len c 8
    rw [hb]
    rcases Nat.lt_or_ge i 8 with h8 | h8
    · rw [List.getElem?_append_left (by omega), Nat.div_eq_of_lt h8, Nat.mod_eq_of_lt h8]
      unfold frame_More.some_
      rw [List.getElem?_map, List.getElem?_range h8]
      rfl
    · rw [List.getElem?_append_right (by omega), hl, ih (i - 8) (by simp at h; omega), show (i - 8) % 8 = i % 8 from by omega]
      congr 2
      have : i / 8 = (i - 8) / 8 + 1 := by omega
      rw [this]
      unfold rd
      rw [Int.toNat_natCast, Int.toNat_natCast]
      rfl
theorem shr_u8 (c : Int) (n : Nat) (h : n < 8) : shr .u8 c (n : Int) = c / 2 ^ n := by
  unfold shr
  have hb : IntKind.u8.bits = 8 := by decide
  rw [hb, Int.toNat_natCast, Nat.min_eq_left (by omega)]
theorem shr_u32 (c : Int) (n : Nat) (h : n < 32) : shr .u32 c (n : Int) = c / 2 ^ n := by
  unfold shr
  have hb : IntKind.u32.bits = 32 := by decide
  rw [hb, Int.toNat_natCast, Nat.min_eq_left (by omega)]
theorem ref_more_l0 (l : List Int) (h : bytes8 l) (hl : l.length ≤ 140737488355328) (d : List Int) : ∀ (i K : Nat) (s : Int), (frame_More.bits l).drop i = d → i ≤ 8 * l.length → d.length < K →
    haruspexref03_More.l0 K l s (i : Int) = some (flip (frame_More.run s d)) := by
  have hbl := frame_More.bits_len l
  induction d with
  | nil =>
    intro i K s hd hi hK
    obtain ⟨K, rfl⟩ : ∃ n, K = n + 1 := ⟨K - 1, by omega⟩
    have := List.drop_eq_nil_iff.1 hd
    rw [haruspexref03_More.l0, wrap64_in (by omega) (by omega), if_neg (by omega)]
    rfl
  | cons b t ih =>
    intro i K s hd hi hK
    obtain ⟨K, rfl⟩ : ∃ n, K = n + 1 := ⟨K - 1, by omega⟩
    have hil : i < (frame_More.bits l).length := by
      rcases Nat.lt_or_ge i (frame_More.bits l).length with h1 | h1
      · exact h1
      · rw [List.drop_eq_nil_of_le h1] at hd; cases hd
    have hg := bits_get l i (by omega)
    rw [List.getElem?_eq_getElem hil] at hg
    rw [List.drop_eq_getElem_cons hil] at hd
    injection hd with h1 h2
    have hb : b = frame_More.bit (rd l ((i / 8 : Nat) : Int)) (i % 8) := by rw [← h1]; exact Option.some.inj hg
    have hc := rd_bytes h (i / 8) (by omega)
    have hq : (0 : Int) ≤ rd l ((i / 8 : Nat) : Int) / 2 ^ (i % 8) ∧ rd l ((i / 8 : Nat) : Int) / 2 ^ (i % 8) < 256 := by
      have hp : (0 : Int) < 2 ^ (i % 8) := Int.pow_pos (by omega)
      refine ⟨Int.ediv_nonneg hc.1 (by omega), ?_⟩
      have := Int.ediv_le_self (b := 2 ^ (i % 8)) hc.1
      omega
    rw [haruspexref03_More.l0, wrap64_in (n := 8 * (l.length : Int)) (by omega) (by omega), if_pos (by omega), Int.tdiv_eq_ediv_of_nonneg (by omega), Int.tmod_eq_emod_of_nonneg (by omega),
      wrap64_in (n := (i : Int) / 8) (by omega) (by omega), if_pos (by omega), if_pos (by omega), if_pos (by omega), show (i : Int) / 8 = ((i / 8 : Nat) : Int) from by omega, show (i : Int) % 8 = ((i % 8 : Nat) : Int) from by omega,
      shr_u8 _ _ (by omega), show rd l ((i / 8 : Nat) : Int) / 2 ^ (i % 8) % 4294967296 = rd l ((i / 8 : Nat) : Int) / 2 ^ (i % 8) from by omega, wrap64_in (n := (i : Int) + 1) (by omega) (by omega), show (i : Int) + 1 = ((i + 1 : Nat) : Int) from by omega]
    have hbb : Go.bits .and .u32 (rd l ((i / 8 : Nat) : Int) / 2 ^ (i % 8)) 1 = b := hb.symm
    rw [hbb]
    have hrun : frame_More.run s (b :: t) = frame_More.run (frame_More.step s b) t := rfl
    rw [hrun]
    unfold frame_More.step
    by_cases hs : Go.bits .xor .u32 (Go.bits .and .u32 s 1) b = 1
    · rw [if_pos hs, if_pos hs, ih (i + 1) K _ h2 (by omega) (by simp at hK; omega)]
    · rw [if_neg hs, if_neg hs, ih (i + 1) K _ h2 (by omega) (by simp at hK; omega)]
theorem ref_more_f (s : Int) {l : List Int} (h : bytes8 l) (hl : l.length ≤ 140737488355328) (K : Nat) (hK : 8 * l.length + 1 ≤ K) : haruspexref03_More.f K s l = some (flip (crc (flip s) l)) := by
  unfold haruspexref03_More.f
  have := ref_more_l0 l h hl (frame_More.bits l) 0 K (flip s) rfl (by omega) (by rw [frame_More.bits_len]; omega)
  exact this
theorem ref_sum_f {l : List Int} (h : bytes8 l) (hl : l.length ≤ 140737488355328) (K : Nat) (hK : 8 * l.length + 1 ≤ K) : haruspexref03_Sum.f K l = some (flip (crc (flip 0) l)) := by
  unfold haruspexref03_Sum.f
  rw [ref_more_f 0 h hl K hK]; rfl
end Go.Proofs.Ythgfplkgjpkcfaa.Pure
