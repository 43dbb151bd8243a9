/- VintLess: for any two numbers of 64 bits, the size of the lesser one is at least 1 and at most the size of the greater one, which is at most 10. No condition. -/
import Derived.Test.YtlpfbeapaboleaaPVintLessx1
namespace Go.Proofs.Ytlpfbeapaboleaa.Pure
open Go.RowKit Go.Proofs.Ytlpfbeapaboleaa.PVintLess Go.Proofs.YtlpfbeapaboleaaW.PrintWords Go.Proofs.YtlpfbeapaboleaaW.PrintLast

/-- how many more groups of seven bits a number has, counted to a depth -/
def cnt : Nat → Int → Int
  | 0, _ => 0
  | d + 1, n => if n = 0 then 0 else 1 + cnt d (n / 128)

theorem cnt_bd (d : Nat) : ∀ n : Int, 0 ≤ cnt d n ∧ cnt d n ≤ d := by
  induction d with
  | zero => intro n; simp [cnt]
  | succ d ih =>
    intro n
    have := ih (n / 128)
    unfold cnt
    split <;> omega

theorem cnt_mono (d : Nat) : ∀ m n : Int, 0 ≤ m → m ≤ n → cnt d m ≤ cnt d n := by
  induction d with
  | zero => intro m n _ _; simp [cnt]
  | succ d ih =>
    intro m n h0 h
    have h1 := ih (m / 128) (n / 128) (by omega) (by omega)
    have h2 := cnt_bd d (n / 128)
    unfold cnt
    split
    · split <;> omega
    · rw [if_neg (by omega)]; omega

theorem l0_cnt (d : Nat) : ∀ (n c : Int), 0 ≤ n → n < 128 ^ d → 0 ≤ c → c + d ≤ 1000 → vint_groups_uint64.l0 (d + 1) n c = some (c + cnt d n) := by
  induction d with
  | zero =>
    intro n c h0 h1 _ _
    have : n = 0 := by simp at h1; omega
    subst this
    simp [vint_groups_uint64.l0, cnt]
  | succ d ih =>
    intro n c h0 h1 hc hd
    rw [vint_groups_uint64.l0, cnt]
    by_cases h : n = 0
    · rw [if_pos h, if_pos h]; simp
    · rw [if_neg h, if_neg h]
      have hw : wrap64 (c + 1) = c + 1 := by unfold wrap64; omega
      rw [hw, ih (n / 128) (c + 1) (by omega) (by rw [Int.pow_succ] at h1; omega) (by omega) (by omega)]
      congr 1; omega

theorem size_cnt (n : Int) (h0 : 0 ≤ n) (h1 : n < 18446744073709551616) : vint_Size.f 10 n = some (1 + cnt 9 (n / 128)) := by
  unfold vint_Size.f vint_groups_uint64.f
  rw [l0_cnt 9 (n / 128) 1 (by omega) (by omega) (by omega) (by omega)]
  rfl

theorem u64_bd {a : Int} (h : (Lit.int .u64 a).wf = true) : 0 ≤ a ∧ a < 18446744073709551616 := by
  have h0 : IntKind.u64.min = 0 := by decide
  have h1 : IntKind.u64.max = 18446744073709551615 := by decide
  simp [Lit.wf] at h
  omega

theorem VintLess : haruspexlaw01_VintLess.Pure := by
  intro a b wa wb
  have ha := u64_bd wa
  have hb := u64_bd wb
  refine ⟨10, ?_⟩
  have hx := size_cnt (mn a b) (by unfold mn; split <;> omega) (by unfold mn; split <;> omega)
  have hy := size_cnt (mx a b) (by unfold mx; split <;> omega) (by unfold mx; split <;> omega)
  have hm := cnt_mono 9 (mn a b / 128) (mx a b / 128) (by unfold mn; split <;> omega) (by unfold mn mx; split <;> split <;> omega)
  have h1 := cnt_bd 9 (mn a b / 128)
  have h2 := cnt_bd 9 (mx a b / 128)
  have haw : haruspexlaw01_awake.f 10 = some true := by decide +kernel
  unfold haruspexlaw01_VintLess.f
  rw [hx, hy]
  simp only [Option.bind_some]
  rw [if_pos (by omega), if_pos (by omega), if_pos (by omega), haw]
  rfl

end Go.Proofs.Ytlpfbeapaboleaa.Pure
