/- What opening a row of bytes at its beginning comes to. -/
import Derived.Test.YthgfplkgjpkcfaaFrameRest
import Derived.Test.YthgfplkgjpkcfaaVintGet
set_option linter.unusedVariables false
namespace Go.Proofs.Ythgfplkgjpkcfaa.Burst
open Go.RowKit Go.Proofs.Ythgfplkgjpkcfaa.PAll Go.Proofs.YthgfplkgjpkcfaaW.PrintWords Go.Proofs.Ythgfplkgjpkcfaa.Pure

def tells (t : List Int) : Int := rd t 0 + 256 * rd t 1 + 65536 * rd t 2 + 16777216 * rd t 3
theorem opens (y : List Int) (hy : bytes8 y) (hl : y.length ≤ 100000) (K : Nat) (hK : 300000 ≤ K) (n p : Int) (e : Int) (hg : got y 0 = (n, p, e)) (hp0 : 0 ≤ p) (hp1 : p ≤ y.length) :
    frame_Open.f K y 0 = if e = 0 then (if n > 65536 then some ([], 0, 4) else if n + 4 > y.length - p then some ([], (y.length : Int), 3) else
      if sumOf (y.take (p + n).toNat) = tells (y.drop (p + n).toNat) then some ((y.take (p + n).toNat).drop p.toNat, p + n + 4, 0) else some ([], 0, 8)) else some ([], p, e) := by
  have hbd := got_bd hy 0
  rw [hg] at hbd
  unfold frame_Open.f
  rw [get_f y 0 K (by omega) hy (by omega), hg, Option.bind_some]
  dsimp only
  by_cases he : e = 0
  · rw [if_pos he, if_pos he]
    by_cases hn : n > 65536
    · rw [if_pos hn, if_pos hn]
    · rw [if_neg hn, if_neg hn, wrap64_in (n := n) (by omega) (by omega), wrap64_in (n := n + 4) (by omega) (by omega), wrap64_in (n := (y.length : Int) - p) (by omega) (by omega), wrap64_in (n := p + n) (by omega) (by omega), wrap64_in (n := p + n + 4) (by omega) (by omega)]
      by_cases hs : n + 4 > (y.length : Int) - p
      · rw [if_pos hs, if_pos hs]
      · rw [if_neg hs, if_neg hs, if_pos (by omega), if_pos (by omega), if_pos (by omega), show (0 : Int).toNat = 0 from rfl, List.drop_zero, sum_f (fun x hx => hy x (List.mem_of_mem_take hx)), Option.bind_some, if_pos (by omega), told_f _ (bytes8_drop hy _) (by rw [List.length_drop]; omega) K (by omega), Option.bind_some]
        show (if sumOf (y.take (p + n).toNat) = tells (y.drop (p + n).toNat) then _ else _) = _
        by_cases ht : sumOf (y.take (p + n).toNat) = tells (y.drop (p + n).toNat)
        · rw [if_pos ht, if_pos ht, if_pos (by omega), if_pos (by omega), if_pos (by rw [List.length_nil, List.length_drop, List.length_take]; omega), List.nil_append]
        · rw [if_neg ht, if_neg ht]
  · rw [if_neg he, if_neg he]
end Go.Proofs.Ythgfplkgjpkcfaa.Burst
