/- Words for the walks: what this claim needs of the words that the kit's print laid for it. No condition. -/
import Derived.Test.YtkbngfelegcplaaWTab
/-! ### 56. Four, five, six operations that may come up next, in any order -/
namespace Go.Proofs.YtkbngfelegcplaaW.PrintLast
section
variable {P : Program} {ops : Array Oper} {Q : Exit → Act → World → Prop} {md : Region.Mode} {S : World → Prop} {ds : List Nat} {T : Bool × List (List Nat × List Nat)}
end
end Go.Proofs.YtkbngfelegcplaaW.PrintLast
