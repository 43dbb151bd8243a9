/- A frame that opens: the sum that four bytes tell; one register for all frames that open. -/
import Derived.Test.YthgfplkgjpkcfaaFrameNat
import Derived.Test.YthgfplkgjpkcfaaPAllx3
set_option linter.unusedVariables false
namespace Go.Proofs.Ythgfplkgjpkcfaa.Burst
open Go.RowKit Go.Proofs.Ythgfplkgjpkcfaa.PAll Go.Proofs.YthgfplkgjpkcfaaW.PrintWords Go.Proofs.Ythgfplkgjpkcfaa.Pure

theorem or_byte {x b : Int} (h0 : 0 ≤ x) (h1 : x < 16777216) (h2 : 0 ≤ b) (h3 : b < 256) : Go.bits .or .u32 (x * 256 % 4294967296) (b % 4294967296) = x * 256 + b := by
  rw [show x * 256 % 4294967296 = x * 256 from by omega, show b % 4294967296 = b from by omega, bits_join .u32 32 (by decide) wraps32 8 (x * 256) b (by omega) (by omega) (by omega) h2 (by omega) (by omega)]
theorem told_f (t : List Int) (ht : bytes8 t) (h4 : 4 ≤ t.length) (K : Nat) (hK : 5 ≤ K) :
    frame_told.f K t = some (rd t 0 + 256 * rd t 1 + 65536 * rd t 2 + 16777216 * rd t 3) := by
  obtain ⟨K, rfl⟩ : ∃ n, K = n + 5 := ⟨K - 5, by omega⟩
  have h0 := rd_bytes ht 0 (by omega)
  have h1 := rd_bytes ht 1 (by omega)
  have h2 := rd_bytes ht 2 (by omega)
  have h3 := rd_bytes ht 3 (by omega)
  rw [show ((0 : Nat) : Int) = 0 from rfl] at h0
  rw [show ((1 : Nat) : Int) = 1 from rfl] at h1
  rw [show ((2 : Nat) : Int) = 2 from rfl] at h2
  rw [show ((3 : Nat) : Int) = 3 from rfl] at h3
  unfold frame_told.f
  rw [frame_told.l0, if_pos (by omega), if_pos (by omega), if_pos (by omega), or_byte (x := 0) (by omega) (by omega) h3.1 h3.2, wrap64_in (n := 3 - 1) (by omega) (by omega), show (3 : Int) - 1 = 2 from rfl,
    frame_told.l0, if_pos (by omega), if_pos (by omega), if_pos (by omega), or_byte (by omega) (by omega) h2.1 h2.2, wrap64_in (n := 2 - 1) (by omega) (by omega), show (2 : Int) - 1 = 1 from rfl,
    frame_told.l0, if_pos (by omega), if_pos (by omega), if_pos (by omega), or_byte (by omega) (by omega) h1.1 h1.2, wrap64_in (n := 1 - 1) (by omega) (by omega), show (1 : Int) - 1 = 0 from rfl,
    frame_told.l0, if_pos (by omega), if_pos (by omega), if_pos (by omega), or_byte (by omega) (by omega) h0.1 h0.2, wrap64_in (n := 0 - 1) (by omega) (by omega),
    frame_told.l0, if_neg (by omega)]
  congr 1; omega
end Go.Proofs.Ythgfplkgjpkcfaa.Burst
