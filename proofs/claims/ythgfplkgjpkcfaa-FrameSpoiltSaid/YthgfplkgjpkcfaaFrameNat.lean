/- The bits of bytes as plain numbers; the sum of bytes over them; the four bytes of a sum. -/
import Derived.Test.YthgfplkgjpkcfaaFrameBits
set_option linter.unusedVariables false
namespace Go.Proofs.Ythgfplkgjpkcfaa.Burst
open Go.RowKit Go.Proofs.Ythgfplkgjpkcfaa.PAll Go.Proofs.YthgfplkgjpkcfaaW.PrintWords Go.Proofs.Ythgfplkgjpkcfaa.Pure

theorem bitsOf_range (m : Nat) : ∀ v : Nat, bitsOf m v = (List.range m).map (fun k => v / 2 ^ k % 2) := by
  induction m with
  | zero => intro v; rfl
  | succ m ih =>
    intro v
    rw [List.range_succ_eq_map, List.map_cons, List.map_map]
    show (v % 2) :: bitsOf m (v / 2) = _
    rw [ih, Nat.pow_zero, Nat.div_one]
    congr 1
    refine List.map_congr_left fun k _ => ?_
    show v / 2 / 2 ^ k % 2 = v / 2 ^ (k + 1) % 2
    rw [Nat.div_div_eq_div_mul, Nat.pow_succ, Nat.mul_comm 2]
def natBits (l : List Int) : List Nat := l.flatMap (fun c => bitsOf 8 c.toNat)
theorem natBits_app (a b : List Int) : natBits (a ++ b) = natBits a ++ natBits b := by unfold natBits; rw [List.flatMap_append]
theorem natBits_bits (l : List Int) : isBits (natBits l) := by
  intro x hx
  obtain ⟨c, _, h⟩ := List.mem_flatMap.1 hx
  exact bitsOf_bits _ _ x h
theorem bitsOf_len (m : Nat) : ∀ v, (bitsOf m v).length = m := by
  intro v; rw [bitsOf_range]; simp
theorem byte_bits (c : Nat) (h : c < 256) : frame_More.some_ (c : Int) 8 = (bitsOf 8 c).map (fun b : Nat => (b : Int)) := by
  unfold frame_More.some_
  rw [bitsOf_range, List.map_map]
  refine List.map_congr_left fun k hk => ?_
  show Go.bits .and .u32 ((c : Int) / 2 ^ k) 1 = ((c / 2 ^ k % 2 : Nat) : Int)
  have hd : c / 2 ^ k ≤ c := Nat.div_le_self _ _
  rw [show ((c : Int) / 2 ^ k) = ((c / 2 ^ k : Nat) : Int) from by rw [Int.natCast_ediv]; norm_cast, band1 _ (by omega)]
theorem bits_nat {l : List Int} (h : bytes8 l) : frame_More.bits l = (natBits l).map (fun b : Nat => (b : Int)) := by
  induction l with
  | nil => rfl
  | cons c t ih =>
    have hc := h c (by simp)
    have h1 : frame_More.bits (c :: t) = frame_More.some_ c 8 ++ frame_More.bits t := rfl
    have h2 : natBits (c :: t) = bitsOf 8 c.toNat ++ natBits t := rfl
    have h3 := byte_bits c.toNat (by omega)
    rw [show ((c.toNat : Nat) : Int) = c from by omega] at h3
    rw [h1, h2, List.map_append, h3, ih (fun x hx => h x (by simp [hx]))]
theorem crc_nat {l : List Int} (h : bytes8 l) (s : Nat) (hs : s < 2 ^ 32) : crc (s : Int) l = ((run s (natBits l) : Nat) : Int) := by
  unfold crc
  rw [bits_nat h, run_nat _ s hs (natBits_bits l)]
theorem bitsOf_split (a b : Nat) : ∀ v, bitsOf (a + b) v = bitsOf a v ++ bitsOf b (v / 2 ^ a) := by
  induction a with
  | zero => intro v; simp [bitsOf]
  | succ a ih =>
    intro v
    rw [show a + 1 + b = (a + b) + 1 from by omega]
    show (v % 2) :: bitsOf (a + b) (v / 2) = (v % 2) :: (bitsOf a (v / 2) ++ bitsOf b (v / 2 ^ (a + 1)))
    rw [ih, Nat.div_div_eq_div_mul, Nat.pow_succ, Nat.mul_comm 2]
theorem bitsOf_mod (m : Nat) (v : Nat) : bitsOf m (v % 2 ^ m) = bitsOf m v := by
  rw [bitsOf_range, bitsOf_range]
  refine List.map_congr_left fun k hk => ?_
  have hk := List.mem_range.1 hk
  have h1 : (v % 2 ^ m).testBit k = v.testBit k := by rw [Nat.testBit_mod_two_pow]; simp [hk]
  have h2 : ∀ x : Nat, x.testBit k = decide (x / 2 ^ k % 2 = 1) := fun x => Nat.testBit_eq_decide_div_mod_eq
  rw [h2, h2] at h1
  have := decide_eq_decide.1 h1
  omega
/-- the bits of a sum's four bytes -/
theorem four_bits (v : Nat) : natBits (four (v : Int)) = bitsOf 32 v := by
  have e0 : ((v : Int) % 256).toNat = v % 2 ^ 8 := by omega
  have e1 : ((v : Int) / 256 % 256).toNat = v / 2 ^ 8 % 2 ^ 8 := by omega
  have e2 : ((v : Int) / 65536 % 256).toNat = v / 2 ^ 16 % 2 ^ 8 := by omega
  have e3 : ((v : Int) / 16777216 % 256).toNat = v / 2 ^ 24 % 2 ^ 8 := by omega
  unfold natBits four
  simp only [List.flatMap_cons, List.flatMap_nil, List.append_nil]
  rw [e0, e1, e2, e3, bitsOf_mod, bitsOf_mod, bitsOf_mod, bitsOf_mod]
  have h := bitsOf_split 8 24 v
  have h2 := bitsOf_split 8 16 (v / 2 ^ 8)
  have h3 := bitsOf_split 8 8 (v / 2 ^ 8 / 2 ^ 8)
  rw [h2, h3, Nat.div_div_eq_div_mul, Nat.div_div_eq_div_mul] at h
  exact h.symm
end Go.Proofs.Ythgfplkgjpkcfaa.Burst
