/- VintBack, where the input is of bounded size: what is put is got, whatever stands ahead and behind, and the place behind it. Condition: the bytes ahead and behind are at most 1048576 each. -/
import Derived.Test.YtlpfbeapaboleaaPAllx4
import Derived.Test.YtlpfbeapaboleaaVintDec
namespace Go.Proofs.Ytlpfbeapaboleaa.Pure
open Go.RowKit Go.Proofs.Ytlpfbeapaboleaa.PAll Go.Proofs.YtlpfbeapaboleaaW.PrintWords Go.Proofs.YtlpfbeapaboleaaW.PrintLast

theorem vb_bytes (d : Nat) : ∀ n : Int, 0 ≤ n → n < 128 ^ (d + 1) → bytes8 (vb d n) := by
  induction d with
  | zero => intro n h0 h1 x hx; simp [vb] at hx; subst hx; omega
  | succ d ih =>
    intro n h0 h1 x hx
    unfold vb at hx
    split at hx
    · rcases List.mem_cons.1 hx with rfl | hx
      · omega
      · exact ih (n / 128) (by omega) (by rw [Int.pow_succ] at h1; omega) x hx
    · simp at hx; omega
theorem got_put (a t : List Int) (n : Int) (h0 : 0 ≤ n) (h1 : n < 18446744073709551616) : got (a ++ (vb 9 n ++ t)) (a.length : Int) = (n, (a.length : Int) + (vb 9 n).length, 0) := by
  unfold got
  rw [if_neg (by simp; omega), Int.toNat_natCast, List.drop_left, dec_vb 9 0 0 n t rfl h0 (by simpa using h1) (fun h => absurd h (by decide))]
  simp
theorem VintBack (l : List Int) (n i : Int) (b : List Int) (_ : l.length ≤ maxLen) (hl : l.length * 1 ≤ 1048576) (hw : ∀ x ∈ l, (Lit.int .u8 x).wf = true) (wn : (Lit.int .u64 n).wf = true) (wi : (Lit.int .i64 i).wf = true) (_ : b.length ≤ maxLen) (hb : b.length * 1 ≤ 1048576) (hwb : ∀ x ∈ b, (Lit.int .u8 x).wf = true) :
    ∃ k, haruspexlaw01_VintBack.f k l n i b = some true := by
  have hn := u64_bd wn
  have hi := i64_bd wi
  have ht := turn_bd hi.1 hi.2
  have v1 := vb_len 9 n
  have v2 := vb_len 9 (turn i)
  have e1 : bytes8 l := fun x hx => u8_bd (hw x hx)
  have e2 : bytes8 b := fun x hx => u8_bd (hwb x hx)
  have e3 : bytes8 (vb 9 n) := vb_bytes 9 n hn.1 (by omega)
  have e4 : bytes8 (vb 9 (turn i)) := vb_bytes 9 _ ht.1 (by omega)
  have hbx : bytes8 (l ++ vb 9 n ++ vb 9 (turn i) ++ b) := by
    intro x hx
    rcases List.mem_append.1 hx with hx | hx
    · rcases List.mem_append.1 hx with hx | hx
      · rcases List.mem_append.1 hx with hx | hx
        · exact e1 x hx
        · exact e3 x hx
      · exact e4 x hx
    · exact e2 x hx
  have hlen : (l ++ vb 9 n ++ vb 9 (turn i) ++ b).length = l.length + (vb 9 n).length + (vb 9 (turn i)).length + b.length := by simp; omega
  refine ⟨5000000, ?_⟩
  unfold haruspexlaw01_VintBack.f
  rw [put_f _ l n hn.1 hn.2 (by omega) (by omega), Option.bind_some, putint_f _ _ i hi.1 hi.2 (by omega) (by simp; omega), Option.bind_some, if_pos (by simp; omega), Option.bind_some,
    get_f _ _ _ (by omega) hbx (by omega), Option.bind_some]
  have g1 := got_put l (vb 9 (turn i) ++ b) n hn.1 hn.2
  have g2 := got_put (l ++ vb 9 n) b (turn i) ht.1 ht.2
  rw [show l ++ (vb 9 n ++ (vb 9 (turn i) ++ b)) = l ++ vb 9 n ++ vb 9 (turn i) ++ b from by simp] at g1
  rw [show l ++ vb 9 n ++ (vb 9 (turn i) ++ b) = l ++ vb 9 n ++ vb 9 (turn i) ++ b from by simp, show ((l ++ vb 9 n).length : Int) = (l.length : Int) + (vb 9 n).length from by simp] at g2
  rw [g1]
  dsimp only
  rw [getint_f _ _ _ (by omega) hbx (by omega), Option.bind_some]
  have hg : gotInt (l ++ vb 9 n ++ vb 9 (turn i) ++ b) ((l.length : Int) + (vb 9 n).length) = (i, (l.length : Int) + (vb 9 n).length + (vb 9 (turn i)).length, 0) := by
    unfold gotInt
    rw [g2]
    dsimp only
    rw [if_pos rfl, back_turn]
  rw [hg]
  dsimp only
  have hc := vb_cnt 9 n hn.1
  have hsz := size_f 5000000 n hn.1 hn.2 (by omega)
  rw [← hc] at hsz
  rw [if_pos rfl, if_pos rfl, if_pos rfl, if_pos rfl, hsz, Option.bind_some, wrap64_in (by omega) (by omega), if_pos rfl, hlen, wrap64_in (by omega) (by omega), if_pos (by omega), turn_f hi.1 hi.2, Option.bind_some, back_f ht.1 ht.2, Option.bind_some, back_turn, if_pos rfl, awake_f _ (by omega)]
  rfl
end Go.Proofs.Ytlpfbeapaboleaa.Pure
