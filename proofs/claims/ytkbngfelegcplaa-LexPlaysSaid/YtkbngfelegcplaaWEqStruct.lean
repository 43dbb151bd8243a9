/- Words for the walks: what this claim needs of the words that the kit's print laid for it. No condition. -/
import Derived.Test.YtkbngfelegcplaaWWords
import Derived.Laws.StructEq
/-! ### 53. '==' of structs as_ one Bool -/
namespace Go.Proofs.YtkbngfelegcplaaW.PrintWords
open Go.RowKit
section
variable {P : Program} {d : Nat} {xs ys : Array Value} {f : Field} {fs : List Field} {a b : Value} {r s : Bool} {w : World}
end
end Go.Proofs.YtkbngfelegcplaaW.PrintWords
