/- One register for all frames that open; a burst by its places. -/
import Derived.Test.YthgfplkgjpkcfaaFrameOpen
set_option linter.unusedVariables false
namespace Go.Proofs.Ythgfplkgjpkcfaa.Burst
open Go.RowKit Go.Proofs.Ythgfplkgjpkcfaa.PAll Go.Proofs.YthgfplkgjpkcfaaW.PrintWords Go.Proofs.Ythgfplkgjpkcfaa.Pure

def all : Nat := 4294967295
theorem flip_nat (s : Nat) (h : s < 2 ^ 32) : flip (s : Int) = ((s ^^^ all : Nat) : Int) := bx s all h (by decide)
theorem init_ : flip 0 = ((all : Nat) : Int) := by
  have := flip_nat 0 (by decide)
  rw [Nat.zero_xor] at this
  exact this
theorem sum_nat {l : List Int} (h : bytes8 l) : sumOf l = ((run all (natBits l) ^^^ all : Nat) : Int) := by
  unfold sumOf
  rw [init_, crc_nat h all (by decide), flip_nat _ (run_lt _ _ (by decide) (natBits_bits l))]
/-- what opens leaves this register -/
theorem residue {b t : List Int} (hb : bytes8 b) (v : Nat) (hv : v < 2 ^ 32) (ht : natBits t = bitsOf 32 v) (hs : sumOf b = (v : Int)) : run all (natBits (b ++ t)) = run all (List.replicate 32 0) := by
  rw [natBits_app, run_app, ht, own_bits 32 _ v hv]
  have h1 : (run all (natBits b) ^^^ all) = v := by
    have := sum_nat hb
    rw [hs] at this
    omega
  rw [← h1, xss]
theorem all_zeros {l : List Nat} (h : ∀ j : Nat, j < l.length → l.getD j 0 = 0) : l = List.replicate l.length 0 := by
  refine List.eq_replicate_iff.2 ⟨rfl, fun b hb => ?_⟩
  obtain ⟨j, hj, rfl⟩ := List.getElem_of_mem hb
  have := h j hj
  rwa [List.getD_eq_getElem?_getD, List.getElem?_eq_getElem hj] at this
theorem burst_at (e : List Nat) (he : isBits e) (p : Nat) (hp : p < e.length) (h1 : e.getD p 0 = 1) (h0 : ∀ j : Nat, j < p → e.getD j 0 = 0) (h2 : ∀ j : Nat, p + 32 ≤ j → e.getD j 0 = 0) : run 0 e ≠ 0 := by
  have ea : e.take p = List.replicate p 0 := by
    have := all_zeros (l := e.take p) (fun j hj => by
      rw [List.length_take] at hj
      rw [List.getD_eq_getElem?_getD, List.getElem?_take_of_lt (by omega), ← List.getD_eq_getElem?_getD]
      exact h0 j (by omega))
    rw [this, List.length_take]
    congr 1; omega
  have eb : e.drop p = 1 :: e.drop (p + 1) := by
    rw [List.drop_eq_getElem_cons hp]
    congr 1
    rwa [List.getD_eq_getElem?_getD, List.getElem?_eq_getElem hp] at h1
  have ec : (e.drop (p + 1)).drop 31 = List.replicate ((e.drop (p + 1)).drop 31).length 0 := all_zeros (fun j hj => by
    rw [List.getD_eq_getElem?_getD, List.getElem?_drop, List.getElem?_drop, ← List.getD_eq_getElem?_getD]
    exact h2 _ (by omega))
  have hsplit : e = List.replicate p 0 ++ (1 :: (e.drop (p + 1)).take 31) ++ List.replicate ((e.drop (p + 1)).drop 31).length 0 := by
    conv => lhs; rw [← List.take_append_drop p e, ea, eb, ← List.take_append_drop 31 (e.drop (p + 1)), ec]
    simp
  rw [hsplit]
  refine burst p _ _ (fun x hx => he x (List.mem_of_mem_drop (List.mem_of_mem_take hx))) ?_
  rw [List.length_take]; omega
end Go.Proofs.Ythgfplkgjpkcfaa.Burst
