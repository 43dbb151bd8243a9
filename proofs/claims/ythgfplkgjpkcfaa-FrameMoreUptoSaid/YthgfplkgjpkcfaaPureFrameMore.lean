/- FrameMore, where the input is of bounded size: the sum of bytes, and more behind, is that of all. Condition: each of the two is at most 1048576 bytes. -/
import Derived.Test.YthgfplkgjpkcfaaFrame
set_option linter.unusedVariables false
namespace Go.Proofs.Ythgfplkgjpkcfaa.Pure
open Go.RowKit Go.Proofs.Ythgfplkgjpkcfaa.PAll Go.Proofs.YthgfplkgjpkcfaaW.PrintWords Go.Proofs.YthgfplkgjpkcfaaW.PrintLast Go.Proofs.YthgfplkgjpkcfaaW.PrintMore

theorem wrap_u32 (n : Int) : IntKind.u32.wrap n = n % 4294967296 := by simp [IntKind.wrap, IntKind.bits, IntKind.signed]
theorem xor_range (x y : Int) : 0 ≤ Go.bits .xor .u32 x y ∧ Go.bits .xor .u32 x y < 4294967296 := by
  have : ∀ n : Int, 0 ≤ IntKind.u32.wrap n ∧ IntKind.u32.wrap n < 4294967296 := fun n => by rw [wrap_u32]; omega
  simp only [Go.bits]
  exact this _
theorem flip_eq {x : Int} (h0 : 0 ≤ x) (h1 : x < 4294967296) : flip x = 4294967295 - x := by
  obtain ⟨n, rfl⟩ := Int.eq_ofNat_of_zero_le h0
  have hn : n < 2 ^ 32 := by omega
  unfold flip
  simp only [Go.bits]
  show IntKind.u32.wrap (((BitVec.ofInt 32 (n : Int)) ^^^ (BitVec.ofInt 32 4294967295)).toNat : Int) = _
  rw [show BitVec.ofInt 32 4294967295 = BitVec.allOnes 32 from by decide, BitVec.xor_allOnes, BitVec.toNat_not, BitVec.ofInt_natCast, BitVec.toNat_ofNat, Nat.mod_eq_of_lt hn, wrap_u32]
  omega
theorem flip_range (s : Int) : 0 ≤ flip s ∧ flip s < 4294967296 := xor_range _ _
theorem flip_flip {s : Int} (h0 : 0 ≤ s) (h1 : s < 4294967296) : flip (flip s) = s := by
  rw [flip_eq h0 h1, flip_eq (by omega) (by omega)]; omega
theorem step_range {s : Int} (b : Int) (h : 0 ≤ s ∧ s < 4294967296) : 0 ≤ frame_More.step s b ∧ frame_More.step s b < 4294967296 := by
  unfold frame_More.step
  split
  · exact xor_range _ _
  · omega
theorem run_range (l : List Int) : ∀ s : Int, 0 ≤ s ∧ s < 4294967296 → 0 ≤ frame_More.run s l ∧ frame_More.run s l < 4294967296 := by
  induction l with
  | nil => intro s h; exact h
  | cons b t ih => intro s h; exact ih _ (step_range b h)
theorem FrameMore (l b : List Int) (_ : l.length ≤ maxLen) (hl : l.length * 1 ≤ 1048576) (hw : ∀ x ∈ l, (Lit.int .u8 x).wf = true) (_ : b.length ≤ maxLen) (hb : b.length * 1 ≤ 1048576) (hwb : ∀ x ∈ b, (Lit.int .u8 x).wf = true) :
    haruspexlaw03_FrameMore.f l b = some true := by
  have h1 : bytes8 l := fun x hx => u8_bd (hw x hx)
  have h2 : bytes8 b := fun x hx => u8_bd (hwb x hx)
  have h3 : bytes8 (l ++ b) := fun x hx => (List.mem_append.1 hx).elim (h1 x) (h2 x)
  unfold haruspexlaw03_FrameMore.f
  rw [sum_f h1, Option.bind_some, more_f _ h2, Option.bind_some, Option.bind_some, if_pos (by simp; omega), Option.bind_some, List.nil_append, if_pos (by omega), sum_f h3, Option.bind_some, crc_app]
  have hr : 0 ≤ crc (flip 0) l ∧ crc (flip 0) l < 4294967296 := run_range _ _ (flip_range 0)
  rw [flip_flip hr.1 hr.2, if_pos rfl, sum_f (l := []) (fun x hx => absurd hx (by simp)), Option.bind_some, if_pos (by decide), awake_f]
  rfl
end Go.Proofs.Ythgfplkgjpkcfaa.Pure
