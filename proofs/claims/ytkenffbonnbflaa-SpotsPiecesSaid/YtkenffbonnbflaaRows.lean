/-
  No cell of these rows narrows 'for every input' (looked for: loops, veiled, ifaces, maps, wideKeys, modest, calm, conditions, laid).
  DERIVED. THE GIVEN ROWS OF THIS SEAT. 5 by the template 'for every input the law returns true; each argument reads behind the call as it read before'; 0 by the template 'total and deterministic' (their statements: YtkenffbonnbflaaTotals.lean).
  GIVEN WITH THE SEED: the statements are not yours to turn. If you find one false, say at which input.
  Laid BY PROGRAM, IN A SANDBOX (cutbox-rows.mjs): the forced cells as the released guide's own fill.sh prints them over the translation 66f87225b0eb55f4… (all of the seat's roots in one cut). By AI agents, Wed Nov 11 2026. No macro, syntax, notation, axiom, sorry.
-/
import Derived.Test.YtkenffbonnbflaaChecked
import GoSem.Claim
import GoSem.ClaimJoined
import GoSem.ClaimMapViews
import Derived.JoinedTies
import Derived.KernelRfl
namespace Go.Proofs.Ytkenffbonnbflaa
/- THE CELL 'sum', in the pinned program and in every row, IS THE sha256 OF THE DUMP (.gsa) THAT YtkenffbonnbflaaProg.lean LOADS. Nothing in Lean hashes anything: it is a label: what it is worth is what the hold of that sum in a sandbox is worth. -/
noncomputable def Try.pinned : Pinned := { name := "ytkenffbonnbflaa", sum := "66f87225b0eb55f49b6a1178cd0415fbfc106bb01b4792eded1bab71a073df7e", checked := Try.checked }
namespace Rows
def none {H : Type} : Left H := { results := [], args := [] }

/-- 'guiselaw2.SpotsLong': WHATEVER THE INPUT: true; the input reads as it did. -/
def spotsLongSpec : ChangeSpec := { name := "spotsLong", fn := fun _ => fun
  | [d1, d2] => { results := [.lit (.bool true)], args := [d1, d2] }
  | _ => none }
def spotsLongRow : OpenClaim := { program := "ytkenffbonnbflaa", sum := "66f87225b0eb55f49b6a1178cd0415fbfc106bb01b4792eded1bab71a073df7e", func := "guise/guiselaw2.SpotsLong", spec := "spotsLong", apart := false }
def SpotsLongSaid : Prop := spotsLongRow.holds Try.pinned (OpenSpec.ofChange spotsLongSpec)

/-- ITS FALSE NEIGHBOUR: 'it returns false'. Refute it at one input. -/
def spotsLongWrong : ChangeSpec := { name := "spotsLong", fn := fun _ => fun
  | [d1, d2] => { results := [.lit (.bool false)], args := [d1, d2] }
  | _ => none }
def SpotsLongWrongFalsely : Prop := spotsLongRow.holds Try.pinned (OpenSpec.ofChange spotsLongWrong)

/-- 'guiselaw2.SpotsPieces': WHATEVER THE INPUT: true; the input reads as it did. -/
def spotsPiecesSpec : ChangeSpec := { name := "spotsPieces", fn := fun _ => fun
  | [d1, d2, d3, d4] => { results := [.lit (.bool true)], args := [d1, d2, d3, d4] }
  | _ => none }
def spotsPiecesRow : OpenClaim := { program := "ytkenffbonnbflaa", sum := "66f87225b0eb55f49b6a1178cd0415fbfc106bb01b4792eded1bab71a073df7e", func := "guise/guiselaw2.SpotsPieces", spec := "spotsPieces", unfollowed := true, recurses := true, apart := false }
def SpotsPiecesSaid : Prop := spotsPiecesRow.holds Try.pinned (OpenSpec.ofChange spotsPiecesSpec)

/-- ITS FALSE NEIGHBOUR: 'it returns false'. Refute it at one input. -/
def spotsPiecesWrong : ChangeSpec := { name := "spotsPieces", fn := fun _ => fun
  | [d1, d2, d3, d4] => { results := [.lit (.bool false)], args := [d1, d2, d3, d4] }
  | _ => none }
def SpotsPiecesWrongFalsely : Prop := spotsPiecesRow.holds Try.pinned (OpenSpec.ofChange spotsPiecesWrong)

/-- 'guiselaw2.SpotsWhole': WHATEVER THE INPUT: true; the input reads as it did. -/
def spotsWholeSpec : ChangeSpec := { name := "spotsWhole", fn := fun _ => fun
  | [d] => { results := [.lit (.bool true)], args := [d] }
  | _ => none }
def spotsWholeRow : OpenClaim := { program := "ytkenffbonnbflaa", sum := "66f87225b0eb55f49b6a1178cd0415fbfc106bb01b4792eded1bab71a073df7e", func := "guise/guiselaw2.SpotsWhole", spec := "spotsWhole", apart := false }
def SpotsWholeSaid : Prop := spotsWholeRow.holds Try.pinned (OpenSpec.ofChange spotsWholeSpec)

/-- ITS FALSE NEIGHBOUR: 'it returns false'. Refute it at one input. -/
def spotsWholeWrong : ChangeSpec := { name := "spotsWhole", fn := fun _ => fun
  | [d] => { results := [.lit (.bool false)], args := [d] }
  | _ => none }
def SpotsWholeWrongFalsely : Prop := spotsWholeRow.holds Try.pinned (OpenSpec.ofChange spotsWholeWrong)

/-- 'guiselaw2.SpotsParts': WHATEVER THE INPUT: true; the input reads as it did. -/
def spotsPartsSpec : ChangeSpec := { name := "spotsParts", fn := fun _ => fun
  | [d1, d2] => { results := [.lit (.bool true)], args := [d1, d2] }
  | _ => none }
def spotsPartsRow : OpenClaim := { program := "ytkenffbonnbflaa", sum := "66f87225b0eb55f49b6a1178cd0415fbfc106bb01b4792eded1bab71a073df7e", func := "guise/guiselaw2.SpotsParts", spec := "spotsParts", apart := false }
def SpotsPartsSaid : Prop := spotsPartsRow.holds Try.pinned (OpenSpec.ofChange spotsPartsSpec)

/-- ITS FALSE NEIGHBOUR: 'it returns false'. Refute it at one input. -/
def spotsPartsWrong : ChangeSpec := { name := "spotsParts", fn := fun _ => fun
  | [d1, d2] => { results := [.lit (.bool false)], args := [d1, d2] }
  | _ => none }
def SpotsPartsWrongFalsely : Prop := spotsPartsRow.holds Try.pinned (OpenSpec.ofChange spotsPartsWrong)

/-- 'guiselaw2.SpotsLines': WHATEVER THE INPUT: true; the input reads as it did. -/
def spotsLinesSpec : ChangeSpec := { name := "spotsLines", fn := fun _ => fun
  | [d1, d2, d3, d4] => { results := [.lit (.bool true)], args := [d1, d2, d3, d4] }
  | _ => none }
def spotsLinesRow : OpenClaim := { program := "ytkenffbonnbflaa", sum := "66f87225b0eb55f49b6a1178cd0415fbfc106bb01b4792eded1bab71a073df7e", func := "guise/guiselaw2.SpotsLines", spec := "spotsLines", apart := false }
def SpotsLinesSaid : Prop := spotsLinesRow.holds Try.pinned (OpenSpec.ofChange spotsLinesSpec)

/-- ITS FALSE NEIGHBOUR: 'it returns false'. Refute it at one input. -/
def spotsLinesWrong : ChangeSpec := { name := "spotsLines", fn := fun _ => fun
  | [d1, d2, d3, d4] => { results := [.lit (.bool false)], args := [d1, d2, d3, d4] }
  | _ => none }
def SpotsLinesWrongFalsely : Prop := spotsLinesRow.holds Try.pinned (OpenSpec.ofChange spotsLinesWrong)

/- THE SECOND FORM. 'bulk': how many values and letters a reading holds, each counted each time it is reached (what is shared counts as often as it is met; a slice's spare places count too). A statement '..UptoSaid' is the law's where the arguments, and the package variables that the reading takes, are together of bulk at most 1048576: NARROWER than '..Said'. Prove '..Said' where nothing that the law and all that it calls make is longer than what came in: it says more and counts as full. Else prove '..UptoSaid'. A law counts once. -/
mutual
def uptoBulk {H : Type} : DataW H → Nat
  | .lit (.string bytes) => bytes.length + 1
  | .lit _ => 1
  | .nil => 1
  | .ptr d => uptoBulk d + 1
  | .slice elems spare => uptoBulkAll elems + uptoBulkAll spare + 1
  | .agg parts => uptoBulkAll parts + 1
  | .iface _ d => uptoBulk d + 1
  | .map entries => uptoBulkEntries entries + 1
  | .held _ => 1
def uptoBulkAll {H : Type} : List (DataW H) → Nat
  | [] => 0
  | d :: r => uptoBulk d + uptoBulkAll r
def uptoBulkEntries {H : Type} : List (Lit × DataW H) → Nat
  | [] => 0
  | x :: r => uptoBulkEntry x + uptoBulkEntries r
def uptoBulkEntry {H : Type} : Lit × DataW H → Nat
  | (.string bytes, d) => bytes.length + uptoBulk d + 1
  | (_, d) => uptoBulk d + 1
 end
def uptoSmall : (H : Type) → List (DataW H) → Bool := fun _ ds => decide (uptoBulkAll ds ≤ 1048576)
def OpenSpec.upto (s : _root_.Go.ChangeSpec) : _root_.Go.OpenSpec := { _root_.Go.OpenSpec.ofChange s with cond := some uptoSmall }

/-- 'guiselaw2.SpotsLong', WHERE WHAT IT READS IS OF BULK AT MOST 1048576: true; the input reads as it did. -/
def spotsLongUptoRow : OpenClaim := { program := "ytkenffbonnbflaa", sum := "66f87225b0eb55f49b6a1178cd0415fbfc106bb01b4792eded1bab71a073df7e", func := "guise/guiselaw2.SpotsLong", spec := "spotsLong", apart := false, narrowed := true }
def SpotsLongUptoSaid : Prop := spotsLongUptoRow.holds Try.pinned (OpenSpec.upto spotsLongSpec)

/-- 'guiselaw2.SpotsPieces', WHERE WHAT IT READS IS OF BULK AT MOST 1048576: true; the input reads as it did. -/
def spotsPiecesUptoRow : OpenClaim := { program := "ytkenffbonnbflaa", sum := "66f87225b0eb55f49b6a1178cd0415fbfc106bb01b4792eded1bab71a073df7e", func := "guise/guiselaw2.SpotsPieces", spec := "spotsPieces", unfollowed := true, recurses := true, apart := false, narrowed := true }
def SpotsPiecesUptoSaid : Prop := spotsPiecesUptoRow.holds Try.pinned (OpenSpec.upto spotsPiecesSpec)

/-- 'guiselaw2.SpotsWhole', WHERE WHAT IT READS IS OF BULK AT MOST 1048576: true; the input reads as it did. -/
def spotsWholeUptoRow : OpenClaim := { program := "ytkenffbonnbflaa", sum := "66f87225b0eb55f49b6a1178cd0415fbfc106bb01b4792eded1bab71a073df7e", func := "guise/guiselaw2.SpotsWhole", spec := "spotsWhole", apart := false, narrowed := true }
def SpotsWholeUptoSaid : Prop := spotsWholeUptoRow.holds Try.pinned (OpenSpec.upto spotsWholeSpec)

/-- 'guiselaw2.SpotsParts', WHERE WHAT IT READS IS OF BULK AT MOST 1048576: true; the input reads as it did. -/
def spotsPartsUptoRow : OpenClaim := { program := "ytkenffbonnbflaa", sum := "66f87225b0eb55f49b6a1178cd0415fbfc106bb01b4792eded1bab71a073df7e", func := "guise/guiselaw2.SpotsParts", spec := "spotsParts", apart := false, narrowed := true }
def SpotsPartsUptoSaid : Prop := spotsPartsUptoRow.holds Try.pinned (OpenSpec.upto spotsPartsSpec)

/-- 'guiselaw2.SpotsLines', WHERE WHAT IT READS IS OF BULK AT MOST 1048576: true; the input reads as it did. -/
def spotsLinesUptoRow : OpenClaim := { program := "ytkenffbonnbflaa", sum := "66f87225b0eb55f49b6a1178cd0415fbfc106bb01b4792eded1bab71a073df7e", func := "guise/guiselaw2.SpotsLines", spec := "spotsLines", apart := false, narrowed := true }
def SpotsLinesUptoSaid : Prop := spotsLinesUptoRow.holds Try.pinned (OpenSpec.upto spotsLinesSpec)

end Rows
end Go.Proofs.Ytkenffbonnbflaa
