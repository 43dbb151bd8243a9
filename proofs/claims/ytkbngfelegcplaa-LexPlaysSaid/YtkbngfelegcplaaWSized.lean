/- Words for the walks: what this claim needs of the words that the kit's print laid for it. No condition. -/
import Derived.SizedLaws
import Derived.ChangeSlices
namespace Go.Proofs.YtkbngfelegcplaaW.PrintWords
open Go.ChangeShapes Go.WideShapes
end Go.Proofs.YtkbngfelegcplaaW.PrintWords
