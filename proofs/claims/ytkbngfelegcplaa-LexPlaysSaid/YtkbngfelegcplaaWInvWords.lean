/- Words for the walks: what this claim needs of the words that the kit's print laid for it. No condition. -/
import Derived.Test.YtkbngfelegcplaaWInv
import Derived.Test.YtkbngfelegcplaaWFootNe
namespace Go.Proofs.YtkbngfelegcplaaW.PrintWords
open Go.RowKit
end Go.Proofs.YtkbngfelegcplaaW.PrintWords
namespace Go.Proofs.YtkbngfelegcplaaW.PrintLast
section
variable {ops : Array Oper} {a : Act} {o og : Oper} {g : Nat} {t : Tmp} {u : Bool}
end
end Go.Proofs.YtkbngfelegcplaaW.PrintLast
