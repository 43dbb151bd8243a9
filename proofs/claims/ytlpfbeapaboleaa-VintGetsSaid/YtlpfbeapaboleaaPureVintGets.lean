/- VintGets: at any place of any bytes, the number, the place and the error that the program reads are those of the document's answer, for numbers and for turned numbers. No condition. -/
import Derived.Test.YtlpfbeapaboleaaPAllx4
import Derived.Test.YtlpfbeapaboleaaVintDec
namespace Go.Proofs.Ytlpfbeapaboleaa.Pure
open Go.RowKit Go.Proofs.Ytlpfbeapaboleaa.PAll Go.Proofs.YtlpfbeapaboleaaW.PrintWords Go.Proofs.YtlpfbeapaboleaaW.PrintLast

theorem VintGets : haruspexlaw01_VintGets.Pure := by
  intro l a _ hl hw _
  have hb : bytes8 l := fun x hx => u8_bd (hw x hx)
  refine ⟨2 * l.length + 11, ?_⟩
  unfold haruspexlaw01_VintGets.f
  rw [get_f l a _ (by omega) hb (by omega), ref_get_f l a _ (by omega) hb (by omega), getint_f l a _ (by omega) hb (by omega), ref_getint_f l a _ (by omega) hb (by omega), awake_f _ (by omega)]
  simp
end Go.Proofs.Ytlpfbeapaboleaa.Pure
