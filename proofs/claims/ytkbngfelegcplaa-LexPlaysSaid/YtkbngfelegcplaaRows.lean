/-
  No cell of these rows narrows 'for every input' (looked for: loops, veiled, ifaces, maps, wideKeys, modest, calm, conditions, laid).
  DERIVED. THE GIVEN ROWS OF THIS SEAT. 5 by the template 'for every input the law returns true; each argument reads behind the call as it read before'; 0 by the template 'total and deterministic' (their statements: YtkbngfelegcplaaTotals.lean).
  GIVEN WITH THE SEED: the statements are not yours to turn. If you find one false, say at which input.
  Laid BY PROGRAM, IN A SANDBOX (cutbox-rows.mjs): the forced cells as the released guide's own fill.sh prints them over the translation 04474a3bc61596be… (all of the seat's roots in one cut). By AI agents, Wed Nov 11 2026. No macro, syntax, notation, axiom, sorry.
-/
import Derived.Test.YtkbngfelegcplaaChecked
import GoSem.Claim
import GoSem.ClaimJoined
import GoSem.ClaimMapViews
import Derived.JoinedTies
import Derived.KernelRfl
namespace Go.Proofs.Ytkbngfelegcplaa
/- THE CELL 'sum', in the pinned program and in every row, IS THE sha256 OF THE DUMP (.gsa) THAT YtkbngfelegcplaaProg.lean LOADS. Nothing in Lean hashes anything: it is a label: what it is worth is what the hold of that sum in a sandbox is worth. -/
noncomputable def Try.pinned : Pinned := { name := "ytkbngfelegcplaa", sum := "04474a3bc61596be7a01151c78faf8ccb2982a19a278222aba69962095cb3d92", checked := Try.checked }
namespace Rows
def none {H : Type} : Left H := { results := [], args := [] }

/-- 'haruspexlaw17.LexZero': WHATEVER THE INPUT: true; the input reads as it did. -/
def lexZeroSpec : ChangeSpec := { name := "lexZero", fn := fun _ => fun
  | [d1, d2] => { results := [.lit (.bool true)], args := [d1, d2] }
  | _ => none }
def lexZeroRow : OpenClaim := { program := "ytkbngfelegcplaa", sum := "04474a3bc61596be7a01151c78faf8ccb2982a19a278222aba69962095cb3d92", func := "haruspex/haruspexlaw17.LexZero", spec := "lexZero", apart := false }
def LexZeroSaid : Prop := lexZeroRow.holds Try.pinned (OpenSpec.ofChange lexZeroSpec)

/-- ITS FALSE NEIGHBOUR: 'it returns false'. Refute it at one input. -/
def lexZeroWrong : ChangeSpec := { name := "lexZero", fn := fun _ => fun
  | [d1, d2] => { results := [.lit (.bool false)], args := [d1, d2] }
  | _ => none }
def LexZeroWrongFalsely : Prop := lexZeroRow.holds Try.pinned (OpenSpec.ofChange lexZeroWrong)

/-- 'haruspexlaw17.LexAll': WHATEVER THE INPUT: true; the input reads as it did. -/
def lexAllSpec : ChangeSpec := { name := "lexAll", fn := fun _ => fun
  | [d] => { results := [.lit (.bool true)], args := [d] }
  | _ => none }
def lexAllRow : OpenClaim := { program := "ytkbngfelegcplaa", sum := "04474a3bc61596be7a01151c78faf8ccb2982a19a278222aba69962095cb3d92", func := "haruspex/haruspexlaw17.LexAll", spec := "lexAll", unfollowed := true, recurses := true, apart := false }
def LexAllSaid : Prop := lexAllRow.holds Try.pinned (OpenSpec.ofChange lexAllSpec)

/-- ITS FALSE NEIGHBOUR: 'it returns false'. Refute it at one input. -/
def lexAllWrong : ChangeSpec := { name := "lexAll", fn := fun _ => fun
  | [d] => { results := [.lit (.bool false)], args := [d] }
  | _ => none }
def LexAllWrongFalsely : Prop := lexAllRow.holds Try.pinned (OpenSpec.ofChange lexAllWrong)

/-- 'haruspexlaw17.LexBlanks': WHATEVER THE INPUT: true; the input reads as it did. -/
def lexBlanksSpec : ChangeSpec := { name := "lexBlanks", fn := fun _ => fun
  | [d1, d2] => { results := [.lit (.bool true)], args := [d1, d2] }
  | _ => none }
def lexBlanksRow : OpenClaim := { program := "ytkbngfelegcplaa", sum := "04474a3bc61596be7a01151c78faf8ccb2982a19a278222aba69962095cb3d92", func := "haruspex/haruspexlaw17.LexBlanks", spec := "lexBlanks", unfollowed := true, recurses := true, apart := false }
def LexBlanksSaid : Prop := lexBlanksRow.holds Try.pinned (OpenSpec.ofChange lexBlanksSpec)

/-- ITS FALSE NEIGHBOUR: 'it returns false'. Refute it at one input. -/
def lexBlanksWrong : ChangeSpec := { name := "lexBlanks", fn := fun _ => fun
  | [d1, d2] => { results := [.lit (.bool false)], args := [d1, d2] }
  | _ => none }
def LexBlanksWrongFalsely : Prop := lexBlanksRow.holds Try.pinned (OpenSpec.ofChange lexBlanksWrong)

/-- 'haruspexlaw17.LexPlaces': WHATEVER THE INPUT: true; the input reads as it did. -/
def lexPlacesSpec : ChangeSpec := { name := "lexPlaces", fn := fun _ => fun
  | [d] => { results := [.lit (.bool true)], args := [d] }
  | _ => none }
def lexPlacesRow : OpenClaim := { program := "ytkbngfelegcplaa", sum := "04474a3bc61596be7a01151c78faf8ccb2982a19a278222aba69962095cb3d92", func := "haruspex/haruspexlaw17.LexPlaces", spec := "lexPlaces", unfollowed := true, recurses := true, apart := false }
def LexPlacesSaid : Prop := lexPlacesRow.holds Try.pinned (OpenSpec.ofChange lexPlacesSpec)

/-- ITS FALSE NEIGHBOUR: 'it returns false'. Refute it at one input. -/
def lexPlacesWrong : ChangeSpec := { name := "lexPlaces", fn := fun _ => fun
  | [d] => { results := [.lit (.bool false)], args := [d] }
  | _ => none }
def LexPlacesWrongFalsely : Prop := lexPlacesRow.holds Try.pinned (OpenSpec.ofChange lexPlacesWrong)

/-- 'haruspexlaw17.LexPlays': WHATEVER THE INPUT: true; the input reads as it did. -/
def lexPlaysSpec : ChangeSpec := { name := "lexPlays", fn := fun _ => fun
  | [d1, d2, d3, d4] => { results := [.lit (.bool true)], args := [d1, d2, d3, d4] }
  | _ => none }
def lexPlaysRow : OpenClaim := { program := "ytkbngfelegcplaa", sum := "04474a3bc61596be7a01151c78faf8ccb2982a19a278222aba69962095cb3d92", func := "haruspex/haruspexlaw17.LexPlays", spec := "lexPlays", unfollowed := true, recurses := true, apart := false }
def LexPlaysSaid : Prop := lexPlaysRow.holds Try.pinned (OpenSpec.ofChange lexPlaysSpec)

/-- ITS FALSE NEIGHBOUR: 'it returns false'. Refute it at one input. -/
def lexPlaysWrong : ChangeSpec := { name := "lexPlays", fn := fun _ => fun
  | [d1, d2, d3, d4] => { results := [.lit (.bool false)], args := [d1, d2, d3, d4] }
  | _ => none }
def LexPlaysWrongFalsely : Prop := lexPlaysRow.holds Try.pinned (OpenSpec.ofChange lexPlaysWrong)

/- THE SECOND FORM. 'bulk': how many values and letters a reading holds, each counted each time it is reached (what is shared counts as often as it is met; a slice's spare places count too). A statement '..UptoSaid' is the law's where the arguments, and the package variables that the reading takes, are together of bulk at most 1048576: NARROWER than '..Said'. Prove '..Said' where nothing that the law and all that it calls make is longer than what came in: it says more and counts as full. Else prove '..UptoSaid'. A law counts once. -/
mutual
def uptoBulk {H : Type} : DataW H → Nat
  | .lit (.string bytes) => bytes.length + 1
  | .lit _ => 1
  | .nil => 1
  | .ptr d => uptoBulk d + 1
  | .slice elems spare => uptoBulkAll elems + uptoBulkAll spare + 1
  | .agg parts => uptoBulkAll parts + 1
  | .iface _ d => uptoBulk d + 1
  | .map entries => uptoBulkEntries entries + 1
  | .held _ => 1
def uptoBulkAll {H : Type} : List (DataW H) → Nat
  | [] => 0
  | d :: r => uptoBulk d + uptoBulkAll r
def uptoBulkEntries {H : Type} : List (Lit × DataW H) → Nat
  | [] => 0
  | x :: r => uptoBulkEntry x + uptoBulkEntries r
def uptoBulkEntry {H : Type} : Lit × DataW H → Nat
  | (.string bytes, d) => bytes.length + uptoBulk d + 1
  | (_, d) => uptoBulk d + 1
 end
def uptoSmall : (H : Type) → List (DataW H) → Bool := fun _ ds => decide (uptoBulkAll ds ≤ 1048576)
def OpenSpec.upto (s : _root_.Go.ChangeSpec) : _root_.Go.OpenSpec := { _root_.Go.OpenSpec.ofChange s with cond := some uptoSmall }

/-- 'haruspexlaw17.LexZero', WHERE WHAT IT READS IS OF BULK AT MOST 1048576: true; the input reads as it did. -/
def lexZeroUptoRow : OpenClaim := { program := "ytkbngfelegcplaa", sum := "04474a3bc61596be7a01151c78faf8ccb2982a19a278222aba69962095cb3d92", func := "haruspex/haruspexlaw17.LexZero", spec := "lexZero", apart := false, narrowed := true }
def LexZeroUptoSaid : Prop := lexZeroUptoRow.holds Try.pinned (OpenSpec.upto lexZeroSpec)

/-- 'haruspexlaw17.LexAll', WHERE WHAT IT READS IS OF BULK AT MOST 1048576: true; the input reads as it did. -/
def lexAllUptoRow : OpenClaim := { program := "ytkbngfelegcplaa", sum := "04474a3bc61596be7a01151c78faf8ccb2982a19a278222aba69962095cb3d92", func := "haruspex/haruspexlaw17.LexAll", spec := "lexAll", unfollowed := true, recurses := true, apart := false, narrowed := true }
def LexAllUptoSaid : Prop := lexAllUptoRow.holds Try.pinned (OpenSpec.upto lexAllSpec)

/-- 'haruspexlaw17.LexBlanks', WHERE WHAT IT READS IS OF BULK AT MOST 1048576: true; the input reads as it did. -/
def lexBlanksUptoRow : OpenClaim := { program := "ytkbngfelegcplaa", sum := "04474a3bc61596be7a01151c78faf8ccb2982a19a278222aba69962095cb3d92", func := "haruspex/haruspexlaw17.LexBlanks", spec := "lexBlanks", unfollowed := true, recurses := true, apart := false, narrowed := true }
def LexBlanksUptoSaid : Prop := lexBlanksUptoRow.holds Try.pinned (OpenSpec.upto lexBlanksSpec)

/-- 'haruspexlaw17.LexPlaces', WHERE WHAT IT READS IS OF BULK AT MOST 1048576: true; the input reads as it did. -/
def lexPlacesUptoRow : OpenClaim := { program := "ytkbngfelegcplaa", sum := "04474a3bc61596be7a01151c78faf8ccb2982a19a278222aba69962095cb3d92", func := "haruspex/haruspexlaw17.LexPlaces", spec := "lexPlaces", unfollowed := true, recurses := true, apart := false, narrowed := true }
def LexPlacesUptoSaid : Prop := lexPlacesUptoRow.holds Try.pinned (OpenSpec.upto lexPlacesSpec)

/-- 'haruspexlaw17.LexPlays', WHERE WHAT IT READS IS OF BULK AT MOST 1048576: true; the input reads as it did. -/
def lexPlaysUptoRow : OpenClaim := { program := "ytkbngfelegcplaa", sum := "04474a3bc61596be7a01151c78faf8ccb2982a19a278222aba69962095cb3d92", func := "haruspex/haruspexlaw17.LexPlays", spec := "lexPlays", unfollowed := true, recurses := true, apart := false, narrowed := true }
def LexPlaysUptoSaid : Prop := lexPlaysUptoRow.holds Try.pinned (OpenSpec.upto lexPlaysSpec)

end Rows
end Go.Proofs.Ytkbngfelegcplaa
