/- VintOne: whatever bytes are read as a number at a place are just those that are put of it; what is refused answers 0 and a place of the bytes. No condition. -/
import Derived.Test.YtlpfbeapaboleaaPAllx4
import Derived.Test.YtlpfbeapaboleaaVintDec
namespace Go.Proofs.Ytlpfbeapaboleaa.Pure
open Go.RowKit Go.Proofs.Ytlpfbeapaboleaa.PAll Go.Proofs.YtlpfbeapaboleaaW.PrintWords Go.Proofs.YtlpfbeapaboleaaW.PrintLast

theorem VintOne : haruspexlaw01_VintOne.Pure := by
  intro l a _ hl hw _
  have hb : bytes8 l := fun x hx => u8_bd (hw x hx)
  refine ⟨2 * l.length + 11, ?_⟩
  unfold haruspexlaw01_VintOne.f
  rw [get_f l a _ (by omega) hb (by omega), Option.bind_some, awake_f _ (by omega)]
  have hbd := got_bd hb a
  rw [put_f _ [] _ hbd.1 hbd.2 (by omega) (by simp)]
  unfold got
  by_cases h : a < 0 ∨ (l.length : Int) < a
  · rw [if_pos h]
    simp
  · rw [if_neg h]
    have he := dec_err (l.drop a.toNat) 0 0
    have hlen : (l.drop a.toNat).length = l.length - a.toNat := List.length_drop
    by_cases h0 : (dec 0 0 (l.drop a.toNat)).2.2 = 0
    · obtain ⟨m, hm0, _, hm1, hm2⟩ := vb_dec (l.drop a.toNat) 0 9 0 rfl (bytes8_drop hb _) h0
      have hp := he.2.2.1 h0
      simp only [h0]
      rw [if_pos trivial, if_pos (by omega), if_pos (by omega), if_pos (by omega), if_pos (by omega), Option.bind_some]
      have hmm : (dec 0 0 (l.drop a.toNat)).1 = m := by rw [hm1]; simp
      rw [if_pos]
      · rfl
      · rw [hmm, List.nil_append, ← hm2, show (a + ((dec 0 0 (l.drop a.toNat)).2.1 : Int)).toNat = a.toNat + (dec 0 0 (l.drop a.toNat)).2.1 from by omega, List.drop_take]
        rw [show a.toNat + (dec 0 0 (l.drop a.toNat)).2.1 - a.toNat = (dec 0 0 (l.drop a.toNat)).2.1 from by omega]
    · dsimp only
      rw [if_neg h0, if_pos (he.2.1 h0), if_pos (by omega), if_pos (by omega)]
      rfl
end Go.Proofs.Ytlpfbeapaboleaa.Pure
