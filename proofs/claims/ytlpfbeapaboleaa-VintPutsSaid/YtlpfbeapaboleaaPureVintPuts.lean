/- VintPuts: for any bytes (as many as may come in), any number of 64 bits and any int64, the program's bytes, sizes and turned numbers are those of the document's answer. No condition. -/
import Derived.Test.YtlpfbeapaboleaaPAllx2
import Derived.Test.YtlpfbeapaboleaaVint
namespace Go.Proofs.Ytlpfbeapaboleaa.Pure
open Go.RowKit Go.Proofs.Ytlpfbeapaboleaa.PAll Go.Proofs.YtlpfbeapaboleaaW.PrintWords Go.Proofs.YtlpfbeapaboleaaW.PrintLast

theorem VintPuts : haruspexlaw01_VintPuts.Pure := by
  intro l n a _ hl _ wn wa
  have hn := u64_bd wn
  have ha := i64_bd wa
  refine ⟨10, ?_⟩
  unfold haruspexlaw01_VintPuts.f
  rw [put_f 10 l n hn.1 hn.2 (by omega) (by omega), ref_put_f 10 l n hn.1 hn.2 (by omega) (by omega)]
  simp only [Option.bind_some, if_true]
  rw [putint_f 10 l a ha.1 ha.2 (by omega) (by omega), ref_putint_f 10 l a ha.1 ha.2 (by omega) (by omega)]
  simp only [Option.bind_some, if_true]
  rw [size_f 10 n hn.1 hn.2 (by omega), ref_size_f 10 n hn.1 hn.2 (by omega), turn_f ha.1 ha.2, ref_turn_f ha.1 ha.2, back_f hn.1 hn.2, ref_back_f hn.1 hn.2, awake_f 10 (by omega)]
  simp
end Go.Proofs.Ytlpfbeapaboleaa.Pure
