/-
  NARROWER THAN 'FOR EVERY INPUT', by the rows' own cells (each row's printed sentence says how): UtfEnds: laid · UtfRunes: laid · UtfBounds: laid · UtfText: laid · UtfJoins: laid · UtfParts: laid · UtfAppend: laid · UtfRange: laid · SpotsPlaces: laid · UtfValid: laid · UtfSpots: laid · UtfThere: laid · UtfClean: laid · UtfNear: laid · SpotsRound: laid · SpotsAll: laid · UtfNames: laid · SpotsNames: laid.
  DERIVED. THE GIVEN ROWS OF THIS SEAT. 18 by the template 'for every input the law returns true; each argument reads behind the call as it read before'; 0 by the template 'total and deterministic' (their statements: YtkenffbonnbflaaDoorTotals.lean).
  GIVEN WITH THE SEED: the statements are not yours to turn. If you find one false, say at which input.
  Laid BY PROGRAM, IN A SANDBOX (cutbox-rows.mjs): the forced cells as the released guide's own fill.sh prints them over the translation 9ec14b6c14905f66… (all of the seat's roots in one cut). By AI agents, Wed Nov 11 2026. No macro, syntax, notation, axiom, sorry.
-/
import Derived.Test.YtkenffbonnbflaaDoorChecked
import GoSem.PinnedTables
import GoSem.Claim
import GoSem.ClaimJoined
import GoSem.ClaimMapViews
import Derived.JoinedTies
import Derived.KernelRfl
namespace Go.Proofs.YtkenffbonnbflaaDoor
/- THE CELL 'sum', in the pinned program and in every row, IS THE sha256 OF THE DUMP (.gsa) THAT YtkenffbonnbflaaDoorProg.lean LOADS. Nothing in Lean hashes anything: it is a label: what it is worth is what the hold of that sum in a sandbox is worth. -/
noncomputable def Tryd.pinned : Pinned := { name := "ytkenffbonnbflaadoor", sum := "9ec14b6c14905f66a689f4eaf37b4c966a9aa5cf550ebf75fb1dfadfd87e989a", checked := Tryd.checked }
namespace Rows
def none {H : Type} : Left H := { results := [], args := [] }

/- WHAT THE LISTED PACKAGE-LEVEL VARIABLES READ AS WHEN THE CALL BEGINS. Each datum BY PROGRAM (the guide's laid-datum.mjs) off the statement by which the dump's own 'gosem.cut.vars' lays the variable. In a bare row this is a premise. The card (YtkenffbonnbflaaDoorCards.lean) ties it to the program's text. -/
def laid_unicode_utf8_acceptRanges {H : Type} : DataW H := .agg [.agg [.lit (.int .u8 128), .lit (.int .u8 191)], .agg [.lit (.int .u8 160), .lit (.int .u8 191)], .agg [.lit (.int .u8 128), .lit (.int .u8 159)], .agg [.lit (.int .u8 144), .lit (.int .u8 191)], .agg [.lit (.int .u8 128), .lit (.int .u8 143)], .agg [.lit (.int .u8 0), .lit (.int .u8 0)], .agg [.lit (.int .u8 0), .lit (.int .u8 0)], .agg [.lit (.int .u8 0), .lit (.int .u8 0)], .agg [.lit (.int .u8 0), .lit (.int .u8 0)], .agg [.lit (.int .u8 0), .lit (.int .u8 0)], .agg [.lit (.int .u8 0), .lit (.int .u8 0)], .agg [.lit (.int .u8 0), .lit (.int .u8 0)], .agg [.lit (.int .u8 0), .lit (.int .u8 0)], .agg [.lit (.int .u8 0), .lit (.int .u8 0)], .agg [.lit (.int .u8 0), .lit (.int .u8 0)], .agg [.lit (.int .u8 0), .lit (.int .u8 0)]]
/-- One of Go's own tables, pinned by name: the form's constant. -/
def laid_unicode_utf8_first : DataW Unit := Go.Pinned.utf8First

/-- 'guiselaw1.UtfEnds': WHATEVER THE INPUT: true; the input reads as it did. -/
def utfEndsSpec : ChangeSpec := { name := "utfEnds", fn := fun _ => fun
  | [d] => { results := [.lit (.bool true)], args := [d] }
  | _ => none }
def utfEndsRow : OpenClaim := { program := "ytkenffbonnbflaadoor", sum := "9ec14b6c14905f66a689f4eaf37b4c966a9aa5cf550ebf75fb1dfadfd87e989a", func := "guise/guiselaw1.UtfEnds", spec := "utfEnds", named := ["unicode/utf8.first", "unicode/utf8.acceptRanges"], apart := false, laid := [("unicode/utf8.acceptRanges", laid_unicode_utf8_acceptRanges), ("unicode/utf8.first", laid_unicode_utf8_first)] }
def UtfEndsSaid : Prop := utfEndsRow.holds Tryd.pinned (OpenSpec.ofChange utfEndsSpec)

/-- ITS FALSE NEIGHBOUR: 'it returns false'. Refute it at one input. -/
def utfEndsWrong : ChangeSpec := { name := "utfEnds", fn := fun _ => fun
  | [d] => { results := [.lit (.bool false)], args := [d] }
  | _ => none }
def UtfEndsWrongFalsely : Prop := utfEndsRow.holds Tryd.pinned (OpenSpec.ofChange utfEndsWrong)

/-- 'guiselaw1.UtfRunes': WHATEVER THE INPUT: true; the input reads as it did. -/
def utfRunesSpec : ChangeSpec := { name := "utfRunes", fn := fun _ => fun
  | [d] => { results := [.lit (.bool true)], args := [d] }
  | _ => none }
def utfRunesRow : OpenClaim := { program := "ytkenffbonnbflaadoor", sum := "9ec14b6c14905f66a689f4eaf37b4c966a9aa5cf550ebf75fb1dfadfd87e989a", func := "guise/guiselaw1.UtfRunes", spec := "utfRunes", unfollowed := true, recurses := true, named := ["unicode/utf8.first", "unicode/utf8.acceptRanges"], apart := false, laid := [("unicode/utf8.acceptRanges", laid_unicode_utf8_acceptRanges), ("unicode/utf8.first", laid_unicode_utf8_first)] }
def UtfRunesSaid : Prop := utfRunesRow.holds Tryd.pinned (OpenSpec.ofChange utfRunesSpec)

/-- ITS FALSE NEIGHBOUR: 'it returns false'. Refute it at one input. -/
def utfRunesWrong : ChangeSpec := { name := "utfRunes", fn := fun _ => fun
  | [d] => { results := [.lit (.bool false)], args := [d] }
  | _ => none }
def UtfRunesWrongFalsely : Prop := utfRunesRow.holds Tryd.pinned (OpenSpec.ofChange utfRunesWrong)

/-- 'guiselaw1.UtfBounds': WHATEVER THE INPUT: true; the input reads as it did. -/
def utfBoundsSpec : ChangeSpec := { name := "utfBounds", fn := fun _ => fun
  | [d1, d2] => { results := [.lit (.bool true)], args := [d1, d2] }
  | _ => none }
def utfBoundsRow : OpenClaim := { program := "ytkenffbonnbflaadoor", sum := "9ec14b6c14905f66a689f4eaf37b4c966a9aa5cf550ebf75fb1dfadfd87e989a", func := "guise/guiselaw1.UtfBounds", spec := "utfBounds", named := ["unicode/utf8.first", "unicode/utf8.acceptRanges"], apart := false, laid := [("unicode/utf8.acceptRanges", laid_unicode_utf8_acceptRanges), ("unicode/utf8.first", laid_unicode_utf8_first)] }
def UtfBoundsSaid : Prop := utfBoundsRow.holds Tryd.pinned (OpenSpec.ofChange utfBoundsSpec)

/-- ITS FALSE NEIGHBOUR: 'it returns false'. Refute it at one input. -/
def utfBoundsWrong : ChangeSpec := { name := "utfBounds", fn := fun _ => fun
  | [d1, d2] => { results := [.lit (.bool false)], args := [d1, d2] }
  | _ => none }
def UtfBoundsWrongFalsely : Prop := utfBoundsRow.holds Tryd.pinned (OpenSpec.ofChange utfBoundsWrong)

/-- 'guiselaw1.UtfText': WHATEVER THE INPUT: true; the input reads as it did. -/
def utfTextSpec : ChangeSpec := { name := "utfText", fn := fun _ => fun
  | [d] => { results := [.lit (.bool true)], args := [d] }
  | _ => none }
def utfTextRow : OpenClaim := { program := "ytkenffbonnbflaadoor", sum := "9ec14b6c14905f66a689f4eaf37b4c966a9aa5cf550ebf75fb1dfadfd87e989a", func := "guise/guiselaw1.UtfText", spec := "utfText", named := ["unicode/utf8.first", "unicode/utf8.acceptRanges"], apart := false, laid := [("unicode/utf8.acceptRanges", laid_unicode_utf8_acceptRanges), ("unicode/utf8.first", laid_unicode_utf8_first)] }
def UtfTextSaid : Prop := utfTextRow.holds Tryd.pinned (OpenSpec.ofChange utfTextSpec)

/-- ITS FALSE NEIGHBOUR: 'it returns false'. Refute it at one input. -/
def utfTextWrong : ChangeSpec := { name := "utfText", fn := fun _ => fun
  | [d] => { results := [.lit (.bool false)], args := [d] }
  | _ => none }
def UtfTextWrongFalsely : Prop := utfTextRow.holds Tryd.pinned (OpenSpec.ofChange utfTextWrong)

/-- 'guiselaw1.UtfJoins': WHATEVER THE INPUT: true; the input reads as it did. -/
def utfJoinsSpec : ChangeSpec := { name := "utfJoins", fn := fun _ => fun
  | [d1, d2] => { results := [.lit (.bool true)], args := [d1, d2] }
  | _ => none }
def utfJoinsRow : OpenClaim := { program := "ytkenffbonnbflaadoor", sum := "9ec14b6c14905f66a689f4eaf37b4c966a9aa5cf550ebf75fb1dfadfd87e989a", func := "guise/guiselaw1.UtfJoins", spec := "utfJoins", named := ["unicode/utf8.first", "unicode/utf8.acceptRanges"], apart := false, laid := [("unicode/utf8.acceptRanges", laid_unicode_utf8_acceptRanges), ("unicode/utf8.first", laid_unicode_utf8_first)] }
def UtfJoinsSaid : Prop := utfJoinsRow.holds Tryd.pinned (OpenSpec.ofChange utfJoinsSpec)

/-- ITS FALSE NEIGHBOUR: 'it returns false'. Refute it at one input. -/
def utfJoinsWrong : ChangeSpec := { name := "utfJoins", fn := fun _ => fun
  | [d1, d2] => { results := [.lit (.bool false)], args := [d1, d2] }
  | _ => none }
def UtfJoinsWrongFalsely : Prop := utfJoinsRow.holds Tryd.pinned (OpenSpec.ofChange utfJoinsWrong)

/-- 'guiselaw1.UtfParts': WHATEVER THE INPUT: true; the input reads as it did. -/
def utfPartsSpec : ChangeSpec := { name := "utfParts", fn := fun _ => fun
  | [d1, d2] => { results := [.lit (.bool true)], args := [d1, d2] }
  | _ => none }
def utfPartsRow : OpenClaim := { program := "ytkenffbonnbflaadoor", sum := "9ec14b6c14905f66a689f4eaf37b4c966a9aa5cf550ebf75fb1dfadfd87e989a", func := "guise/guiselaw1.UtfParts", spec := "utfParts", named := ["unicode/utf8.first", "unicode/utf8.acceptRanges"], apart := false, laid := [("unicode/utf8.acceptRanges", laid_unicode_utf8_acceptRanges), ("unicode/utf8.first", laid_unicode_utf8_first)] }
def UtfPartsSaid : Prop := utfPartsRow.holds Tryd.pinned (OpenSpec.ofChange utfPartsSpec)

/-- ITS FALSE NEIGHBOUR: 'it returns false'. Refute it at one input. -/
def utfPartsWrong : ChangeSpec := { name := "utfParts", fn := fun _ => fun
  | [d1, d2] => { results := [.lit (.bool false)], args := [d1, d2] }
  | _ => none }
def UtfPartsWrongFalsely : Prop := utfPartsRow.holds Tryd.pinned (OpenSpec.ofChange utfPartsWrong)

/-- 'guiselaw1.UtfAppend': WHATEVER THE INPUT: true; the input reads as it did. -/
def utfAppendSpec : ChangeSpec := { name := "utfAppend", fn := fun _ => fun
  | [d1, d2] => { results := [.lit (.bool true)], args := [d1, d2] }
  | _ => none }
def utfAppendRow : OpenClaim := { program := "ytkenffbonnbflaadoor", sum := "9ec14b6c14905f66a689f4eaf37b4c966a9aa5cf550ebf75fb1dfadfd87e989a", func := "guise/guiselaw1.UtfAppend", spec := "utfAppend", unfollowed := true, recurses := true, named := ["unicode/utf8.first", "unicode/utf8.acceptRanges"], apart := false, laid := [("unicode/utf8.acceptRanges", laid_unicode_utf8_acceptRanges), ("unicode/utf8.first", laid_unicode_utf8_first)] }
def UtfAppendSaid : Prop := utfAppendRow.holds Tryd.pinned (OpenSpec.ofChange utfAppendSpec)

/-- ITS FALSE NEIGHBOUR: 'it returns false'. Refute it at one input. -/
def utfAppendWrong : ChangeSpec := { name := "utfAppend", fn := fun _ => fun
  | [d1, d2] => { results := [.lit (.bool false)], args := [d1, d2] }
  | _ => none }
def UtfAppendWrongFalsely : Prop := utfAppendRow.holds Tryd.pinned (OpenSpec.ofChange utfAppendWrong)

/-- 'guiselaw1.UtfRange': WHATEVER THE INPUT: true; the input reads as it did. -/
def utfRangeSpec : ChangeSpec := { name := "utfRange", fn := fun _ => fun
  | [d] => { results := [.lit (.bool true)], args := [d] }
  | _ => none }
def utfRangeRow : OpenClaim := { program := "ytkenffbonnbflaadoor", sum := "9ec14b6c14905f66a689f4eaf37b4c966a9aa5cf550ebf75fb1dfadfd87e989a", func := "guise/guiselaw1.UtfRange", spec := "utfRange", unfollowed := true, recurses := true, named := ["unicode/utf8.first", "unicode/utf8.acceptRanges"], apart := false, laid := [("unicode/utf8.acceptRanges", laid_unicode_utf8_acceptRanges), ("unicode/utf8.first", laid_unicode_utf8_first)] }
def UtfRangeSaid : Prop := utfRangeRow.holds Tryd.pinned (OpenSpec.ofChange utfRangeSpec)

/-- ITS FALSE NEIGHBOUR: 'it returns false'. Refute it at one input. -/
def utfRangeWrong : ChangeSpec := { name := "utfRange", fn := fun _ => fun
  | [d] => { results := [.lit (.bool false)], args := [d] }
  | _ => none }
def UtfRangeWrongFalsely : Prop := utfRangeRow.holds Tryd.pinned (OpenSpec.ofChange utfRangeWrong)

/-- 'guiselaw2.SpotsPlaces': WHATEVER THE INPUT: true; the input reads as it did. -/
def spotsPlacesSpec : ChangeSpec := { name := "spotsPlaces", fn := fun _ => fun
  | [d1, d2, d3] => { results := [.lit (.bool true)], args := [d1, d2, d3] }
  | _ => none }
def spotsPlacesRow : OpenClaim := { program := "ytkenffbonnbflaadoor", sum := "9ec14b6c14905f66a689f4eaf37b4c966a9aa5cf550ebf75fb1dfadfd87e989a", func := "guise/guiselaw2.SpotsPlaces", spec := "spotsPlaces", named := ["unicode/utf8.first", "unicode/utf8.acceptRanges"], apart := false, laid := [("unicode/utf8.acceptRanges", laid_unicode_utf8_acceptRanges), ("unicode/utf8.first", laid_unicode_utf8_first)] }
def SpotsPlacesSaid : Prop := spotsPlacesRow.holds Tryd.pinned (OpenSpec.ofChange spotsPlacesSpec)

/-- ITS FALSE NEIGHBOUR: 'it returns false'. Refute it at one input. -/
def spotsPlacesWrong : ChangeSpec := { name := "spotsPlaces", fn := fun _ => fun
  | [d1, d2, d3] => { results := [.lit (.bool false)], args := [d1, d2, d3] }
  | _ => none }
def SpotsPlacesWrongFalsely : Prop := spotsPlacesRow.holds Tryd.pinned (OpenSpec.ofChange spotsPlacesWrong)

/-- 'guiselaw1.UtfValid': WHATEVER THE INPUT: true; the input reads as it did. -/
def utfValidSpec : ChangeSpec := { name := "utfValid", fn := fun _ => fun
  | [d] => { results := [.lit (.bool true)], args := [d] }
  | _ => none }
def utfValidRow : OpenClaim := { program := "ytkenffbonnbflaadoor", sum := "9ec14b6c14905f66a689f4eaf37b4c966a9aa5cf550ebf75fb1dfadfd87e989a", func := "guise/guiselaw1.UtfValid", spec := "utfValid", unfollowed := true, recurses := true, named := ["unicode/utf8.first", "unicode/utf8.acceptRanges"], apart := false, laid := [("unicode/utf8.acceptRanges", laid_unicode_utf8_acceptRanges), ("unicode/utf8.first", laid_unicode_utf8_first)] }
def UtfValidSaid : Prop := utfValidRow.holds Tryd.pinned (OpenSpec.ofChange utfValidSpec)

/-- ITS FALSE NEIGHBOUR: 'it returns false'. Refute it at one input. -/
def utfValidWrong : ChangeSpec := { name := "utfValid", fn := fun _ => fun
  | [d] => { results := [.lit (.bool false)], args := [d] }
  | _ => none }
def UtfValidWrongFalsely : Prop := utfValidRow.holds Tryd.pinned (OpenSpec.ofChange utfValidWrong)

/-- 'guiselaw1.UtfSpots': WHATEVER THE INPUT: true; the input reads as it did. -/
def utfSpotsSpec : ChangeSpec := { name := "utfSpots", fn := fun _ => fun
  | [d1, d2] => { results := [.lit (.bool true)], args := [d1, d2] }
  | _ => none }
def utfSpotsRow : OpenClaim := { program := "ytkenffbonnbflaadoor", sum := "9ec14b6c14905f66a689f4eaf37b4c966a9aa5cf550ebf75fb1dfadfd87e989a", func := "guise/guiselaw1.UtfSpots", spec := "utfSpots", unfollowed := true, recurses := true, named := ["unicode/utf8.first", "unicode/utf8.acceptRanges"], apart := false, laid := [("unicode/utf8.acceptRanges", laid_unicode_utf8_acceptRanges), ("unicode/utf8.first", laid_unicode_utf8_first)] }
def UtfSpotsSaid : Prop := utfSpotsRow.holds Tryd.pinned (OpenSpec.ofChange utfSpotsSpec)

/-- ITS FALSE NEIGHBOUR: 'it returns false'. Refute it at one input. -/
def utfSpotsWrong : ChangeSpec := { name := "utfSpots", fn := fun _ => fun
  | [d1, d2] => { results := [.lit (.bool false)], args := [d1, d2] }
  | _ => none }
def UtfSpotsWrongFalsely : Prop := utfSpotsRow.holds Tryd.pinned (OpenSpec.ofChange utfSpotsWrong)

/-- 'guiselaw1.UtfThere': WHATEVER THE INPUT: true; the input reads as it did. -/
def utfThereSpec : ChangeSpec := { name := "utfThere", fn := fun _ => fun
  | [d] => { results := [.lit (.bool true)], args := [d] }
  | _ => none }
def utfThereRow : OpenClaim := { program := "ytkenffbonnbflaadoor", sum := "9ec14b6c14905f66a689f4eaf37b4c966a9aa5cf550ebf75fb1dfadfd87e989a", func := "guise/guiselaw1.UtfThere", spec := "utfThere", unfollowed := true, recurses := true, named := ["unicode/utf8.first", "unicode/utf8.acceptRanges"], apart := false, laid := [("unicode/utf8.acceptRanges", laid_unicode_utf8_acceptRanges), ("unicode/utf8.first", laid_unicode_utf8_first)] }
def UtfThereSaid : Prop := utfThereRow.holds Tryd.pinned (OpenSpec.ofChange utfThereSpec)

/-- ITS FALSE NEIGHBOUR: 'it returns false'. Refute it at one input. -/
def utfThereWrong : ChangeSpec := { name := "utfThere", fn := fun _ => fun
  | [d] => { results := [.lit (.bool false)], args := [d] }
  | _ => none }
def UtfThereWrongFalsely : Prop := utfThereRow.holds Tryd.pinned (OpenSpec.ofChange utfThereWrong)

/-- 'guiselaw1.UtfClean': WHATEVER THE INPUT: true; the input reads as it did. -/
def utfCleanSpec : ChangeSpec := { name := "utfClean", fn := fun _ => fun
  | [d] => { results := [.lit (.bool true)], args := [d] }
  | _ => none }
def utfCleanRow : OpenClaim := { program := "ytkenffbonnbflaadoor", sum := "9ec14b6c14905f66a689f4eaf37b4c966a9aa5cf550ebf75fb1dfadfd87e989a", func := "guise/guiselaw1.UtfClean", spec := "utfClean", unfollowed := true, recurses := true, named := ["unicode/utf8.first", "unicode/utf8.acceptRanges"], apart := false, laid := [("unicode/utf8.acceptRanges", laid_unicode_utf8_acceptRanges), ("unicode/utf8.first", laid_unicode_utf8_first)] }
def UtfCleanSaid : Prop := utfCleanRow.holds Tryd.pinned (OpenSpec.ofChange utfCleanSpec)

/-- ITS FALSE NEIGHBOUR: 'it returns false'. Refute it at one input. -/
def utfCleanWrong : ChangeSpec := { name := "utfClean", fn := fun _ => fun
  | [d] => { results := [.lit (.bool false)], args := [d] }
  | _ => none }
def UtfCleanWrongFalsely : Prop := utfCleanRow.holds Tryd.pinned (OpenSpec.ofChange utfCleanWrong)

/-- 'guiselaw1.UtfNear': WHATEVER THE INPUT: true; the input reads as it did. -/
def utfNearSpec : ChangeSpec := { name := "utfNear", fn := fun _ => fun
  | [d1, d2] => { results := [.lit (.bool true)], args := [d1, d2] }
  | _ => none }
def utfNearRow : OpenClaim := { program := "ytkenffbonnbflaadoor", sum := "9ec14b6c14905f66a689f4eaf37b4c966a9aa5cf550ebf75fb1dfadfd87e989a", func := "guise/guiselaw1.UtfNear", spec := "utfNear", unfollowed := true, recurses := true, named := ["unicode/utf8.first", "unicode/utf8.acceptRanges"], apart := false, laid := [("unicode/utf8.acceptRanges", laid_unicode_utf8_acceptRanges), ("unicode/utf8.first", laid_unicode_utf8_first)] }
def UtfNearSaid : Prop := utfNearRow.holds Tryd.pinned (OpenSpec.ofChange utfNearSpec)

/-- ITS FALSE NEIGHBOUR: 'it returns false'. Refute it at one input. -/
def utfNearWrong : ChangeSpec := { name := "utfNear", fn := fun _ => fun
  | [d1, d2] => { results := [.lit (.bool false)], args := [d1, d2] }
  | _ => none }
def UtfNearWrongFalsely : Prop := utfNearRow.holds Tryd.pinned (OpenSpec.ofChange utfNearWrong)

/-- 'guiselaw2.SpotsRound': WHATEVER THE INPUT: true; the input reads as it did. -/
def spotsRoundSpec : ChangeSpec := { name := "spotsRound", fn := fun _ => fun
  | [d1, d2] => { results := [.lit (.bool true)], args := [d1, d2] }
  | _ => none }
def spotsRoundRow : OpenClaim := { program := "ytkenffbonnbflaadoor", sum := "9ec14b6c14905f66a689f4eaf37b4c966a9aa5cf550ebf75fb1dfadfd87e989a", func := "guise/guiselaw2.SpotsRound", spec := "spotsRound", named := ["unicode/utf8.first", "unicode/utf8.acceptRanges"], apart := false, laid := [("unicode/utf8.acceptRanges", laid_unicode_utf8_acceptRanges), ("unicode/utf8.first", laid_unicode_utf8_first)] }
def SpotsRoundSaid : Prop := spotsRoundRow.holds Tryd.pinned (OpenSpec.ofChange spotsRoundSpec)

/-- ITS FALSE NEIGHBOUR: 'it returns false'. Refute it at one input. -/
def spotsRoundWrong : ChangeSpec := { name := "spotsRound", fn := fun _ => fun
  | [d1, d2] => { results := [.lit (.bool false)], args := [d1, d2] }
  | _ => none }
def SpotsRoundWrongFalsely : Prop := spotsRoundRow.holds Tryd.pinned (OpenSpec.ofChange spotsRoundWrong)

/-- 'guiselaw2.SpotsAll': WHATEVER THE INPUT: true; the input reads as it did. -/
def spotsAllSpec : ChangeSpec := { name := "spotsAll", fn := fun _ => fun
  | [d1, d2] => { results := [.lit (.bool true)], args := [d1, d2] }
  | _ => none }
def spotsAllRow : OpenClaim := { program := "ytkenffbonnbflaadoor", sum := "9ec14b6c14905f66a689f4eaf37b4c966a9aa5cf550ebf75fb1dfadfd87e989a", func := "guise/guiselaw2.SpotsAll", spec := "spotsAll", unfollowed := true, recurses := true, named := ["unicode/utf8.first", "unicode/utf8.acceptRanges"], apart := false, laid := [("unicode/utf8.acceptRanges", laid_unicode_utf8_acceptRanges), ("unicode/utf8.first", laid_unicode_utf8_first)] }
def SpotsAllSaid : Prop := spotsAllRow.holds Tryd.pinned (OpenSpec.ofChange spotsAllSpec)

/-- ITS FALSE NEIGHBOUR: 'it returns false'. Refute it at one input. -/
def spotsAllWrong : ChangeSpec := { name := "spotsAll", fn := fun _ => fun
  | [d1, d2] => { results := [.lit (.bool false)], args := [d1, d2] }
  | _ => none }
def SpotsAllWrongFalsely : Prop := spotsAllRow.holds Tryd.pinned (OpenSpec.ofChange spotsAllWrong)

/-- 'guiselaw1.UtfNames': WHATEVER THE INPUT: true; the input reads as it did. -/
def utfNamesSpec : ChangeSpec := { name := "utfNames", fn := fun _ => fun
  | [] => { results := [.lit (.bool true)], args := [] }
  | _ => none }
def utfNamesRow : OpenClaim := { program := "ytkenffbonnbflaadoor", sum := "9ec14b6c14905f66a689f4eaf37b4c966a9aa5cf550ebf75fb1dfadfd87e989a", func := "guise/guiselaw1.UtfNames", spec := "utfNames", unfollowed := true, recurses := true, named := ["unicode/utf8.first", "unicode/utf8.acceptRanges"], apart := false, laid := [("unicode/utf8.acceptRanges", laid_unicode_utf8_acceptRanges), ("unicode/utf8.first", laid_unicode_utf8_first)] }
def UtfNamesSaid : Prop := utfNamesRow.holds Tryd.pinned (OpenSpec.ofChange utfNamesSpec)

/-- ITS FALSE NEIGHBOUR: 'it returns false'. Refute it at one input. -/
def utfNamesWrong : ChangeSpec := { name := "utfNames", fn := fun _ => fun
  | [] => { results := [.lit (.bool false)], args := [] }
  | _ => none }
def UtfNamesWrongFalsely : Prop := utfNamesRow.holds Tryd.pinned (OpenSpec.ofChange utfNamesWrong)

/-- 'guiselaw2.SpotsNames': WHATEVER THE INPUT: true; the input reads as it did. -/
def spotsNamesSpec : ChangeSpec := { name := "spotsNames", fn := fun _ => fun
  | [] => { results := [.lit (.bool true)], args := [] }
  | _ => none }
def spotsNamesRow : OpenClaim := { program := "ytkenffbonnbflaadoor", sum := "9ec14b6c14905f66a689f4eaf37b4c966a9aa5cf550ebf75fb1dfadfd87e989a", func := "guise/guiselaw2.SpotsNames", spec := "spotsNames", unfollowed := true, recurses := true, named := ["unicode/utf8.first", "unicode/utf8.acceptRanges"], apart := false, laid := [("unicode/utf8.acceptRanges", laid_unicode_utf8_acceptRanges), ("unicode/utf8.first", laid_unicode_utf8_first)] }
def SpotsNamesSaid : Prop := spotsNamesRow.holds Tryd.pinned (OpenSpec.ofChange spotsNamesSpec)

/-- ITS FALSE NEIGHBOUR: 'it returns false'. Refute it at one input. -/
def spotsNamesWrong : ChangeSpec := { name := "spotsNames", fn := fun _ => fun
  | [] => { results := [.lit (.bool false)], args := [] }
  | _ => none }
def SpotsNamesWrongFalsely : Prop := spotsNamesRow.holds Tryd.pinned (OpenSpec.ofChange spotsNamesWrong)

/- THE SECOND FORM. 'bulk': how many values and letters a reading holds, each counted each time it is reached (what is shared counts as often as it is met; a slice's spare places count too). A statement '..UptoSaid' is the law's where the arguments, and the package variables that the reading takes, are together of bulk at most 1048576: NARROWER than '..Said'. Prove '..Said' where nothing that the law and all that it calls make is longer than what came in: it says more and counts as full. Else prove '..UptoSaid'. A law counts once. -/
mutual
def uptoBulk {H : Type} : DataW H → Nat
  | .lit (.string bytes) => bytes.length + 1
  | .lit _ => 1
  | .nil => 1
  | .ptr d => uptoBulk d + 1
  | .slice elems spare => uptoBulkAll elems + uptoBulkAll spare + 1
  | .agg parts => uptoBulkAll parts + 1
  | .iface _ d => uptoBulk d + 1
  | .map entries => uptoBulkEntries entries + 1
  | .held _ => 1
def uptoBulkAll {H : Type} : List (DataW H) → Nat
  | [] => 0
  | d :: r => uptoBulk d + uptoBulkAll r
def uptoBulkEntries {H : Type} : List (Lit × DataW H) → Nat
  | [] => 0
  | x :: r => uptoBulkEntry x + uptoBulkEntries r
def uptoBulkEntry {H : Type} : Lit × DataW H → Nat
  | (.string bytes, d) => bytes.length + uptoBulk d + 1
  | (_, d) => uptoBulk d + 1
 end
def uptoSmall : (H : Type) → List (DataW H) → Bool := fun _ ds => decide (uptoBulkAll ds ≤ 1048576)
def OpenSpec.upto (s : _root_.Go.ChangeSpec) : _root_.Go.OpenSpec := { _root_.Go.OpenSpec.ofChange s with cond := some uptoSmall }

/-- 'guiselaw1.UtfEnds', WHERE WHAT IT READS IS OF BULK AT MOST 1048576: true; the input reads as it did. -/
def utfEndsUptoRow : OpenClaim := { program := "ytkenffbonnbflaadoor", sum := "9ec14b6c14905f66a689f4eaf37b4c966a9aa5cf550ebf75fb1dfadfd87e989a", func := "guise/guiselaw1.UtfEnds", spec := "utfEnds", named := ["unicode/utf8.first", "unicode/utf8.acceptRanges"], apart := false, laid := [("unicode/utf8.acceptRanges", laid_unicode_utf8_acceptRanges), ("unicode/utf8.first", laid_unicode_utf8_first)], narrowed := true }
def UtfEndsUptoSaid : Prop := utfEndsUptoRow.holds Tryd.pinned (OpenSpec.upto utfEndsSpec)

/-- 'guiselaw1.UtfRunes', WHERE WHAT IT READS IS OF BULK AT MOST 1048576: true; the input reads as it did. -/
def utfRunesUptoRow : OpenClaim := { program := "ytkenffbonnbflaadoor", sum := "9ec14b6c14905f66a689f4eaf37b4c966a9aa5cf550ebf75fb1dfadfd87e989a", func := "guise/guiselaw1.UtfRunes", spec := "utfRunes", unfollowed := true, recurses := true, named := ["unicode/utf8.first", "unicode/utf8.acceptRanges"], apart := false, laid := [("unicode/utf8.acceptRanges", laid_unicode_utf8_acceptRanges), ("unicode/utf8.first", laid_unicode_utf8_first)], narrowed := true }
def UtfRunesUptoSaid : Prop := utfRunesUptoRow.holds Tryd.pinned (OpenSpec.upto utfRunesSpec)

/-- 'guiselaw1.UtfBounds', WHERE WHAT IT READS IS OF BULK AT MOST 1048576: true; the input reads as it did. -/
def utfBoundsUptoRow : OpenClaim := { program := "ytkenffbonnbflaadoor", sum := "9ec14b6c14905f66a689f4eaf37b4c966a9aa5cf550ebf75fb1dfadfd87e989a", func := "guise/guiselaw1.UtfBounds", spec := "utfBounds", named := ["unicode/utf8.first", "unicode/utf8.acceptRanges"], apart := false, laid := [("unicode/utf8.acceptRanges", laid_unicode_utf8_acceptRanges), ("unicode/utf8.first", laid_unicode_utf8_first)], narrowed := true }
def UtfBoundsUptoSaid : Prop := utfBoundsUptoRow.holds Tryd.pinned (OpenSpec.upto utfBoundsSpec)

/-- 'guiselaw1.UtfText', WHERE WHAT IT READS IS OF BULK AT MOST 1048576: true; the input reads as it did. -/
def utfTextUptoRow : OpenClaim := { program := "ytkenffbonnbflaadoor", sum := "9ec14b6c14905f66a689f4eaf37b4c966a9aa5cf550ebf75fb1dfadfd87e989a", func := "guise/guiselaw1.UtfText", spec := "utfText", named := ["unicode/utf8.first", "unicode/utf8.acceptRanges"], apart := false, laid := [("unicode/utf8.acceptRanges", laid_unicode_utf8_acceptRanges), ("unicode/utf8.first", laid_unicode_utf8_first)], narrowed := true }
def UtfTextUptoSaid : Prop := utfTextUptoRow.holds Tryd.pinned (OpenSpec.upto utfTextSpec)

/-- 'guiselaw1.UtfJoins', WHERE WHAT IT READS IS OF BULK AT MOST 1048576: true; the input reads as it did. -/
def utfJoinsUptoRow : OpenClaim := { program := "ytkenffbonnbflaadoor", sum := "9ec14b6c14905f66a689f4eaf37b4c966a9aa5cf550ebf75fb1dfadfd87e989a", func := "guise/guiselaw1.UtfJoins", spec := "utfJoins", named := ["unicode/utf8.first", "unicode/utf8.acceptRanges"], apart := false, laid := [("unicode/utf8.acceptRanges", laid_unicode_utf8_acceptRanges), ("unicode/utf8.first", laid_unicode_utf8_first)], narrowed := true }
def UtfJoinsUptoSaid : Prop := utfJoinsUptoRow.holds Tryd.pinned (OpenSpec.upto utfJoinsSpec)

/-- 'guiselaw1.UtfParts', WHERE WHAT IT READS IS OF BULK AT MOST 1048576: true; the input reads as it did. -/
def utfPartsUptoRow : OpenClaim := { program := "ytkenffbonnbflaadoor", sum := "9ec14b6c14905f66a689f4eaf37b4c966a9aa5cf550ebf75fb1dfadfd87e989a", func := "guise/guiselaw1.UtfParts", spec := "utfParts", named := ["unicode/utf8.first", "unicode/utf8.acceptRanges"], apart := false, laid := [("unicode/utf8.acceptRanges", laid_unicode_utf8_acceptRanges), ("unicode/utf8.first", laid_unicode_utf8_first)], narrowed := true }
def UtfPartsUptoSaid : Prop := utfPartsUptoRow.holds Tryd.pinned (OpenSpec.upto utfPartsSpec)

/-- 'guiselaw1.UtfAppend', WHERE WHAT IT READS IS OF BULK AT MOST 1048576: true; the input reads as it did. -/
def utfAppendUptoRow : OpenClaim := { program := "ytkenffbonnbflaadoor", sum := "9ec14b6c14905f66a689f4eaf37b4c966a9aa5cf550ebf75fb1dfadfd87e989a", func := "guise/guiselaw1.UtfAppend", spec := "utfAppend", unfollowed := true, recurses := true, named := ["unicode/utf8.first", "unicode/utf8.acceptRanges"], apart := false, laid := [("unicode/utf8.acceptRanges", laid_unicode_utf8_acceptRanges), ("unicode/utf8.first", laid_unicode_utf8_first)], narrowed := true }
def UtfAppendUptoSaid : Prop := utfAppendUptoRow.holds Tryd.pinned (OpenSpec.upto utfAppendSpec)

/-- 'guiselaw1.UtfRange', WHERE WHAT IT READS IS OF BULK AT MOST 1048576: true; the input reads as it did. -/
def utfRangeUptoRow : OpenClaim := { program := "ytkenffbonnbflaadoor", sum := "9ec14b6c14905f66a689f4eaf37b4c966a9aa5cf550ebf75fb1dfadfd87e989a", func := "guise/guiselaw1.UtfRange", spec := "utfRange", unfollowed := true, recurses := true, named := ["unicode/utf8.first", "unicode/utf8.acceptRanges"], apart := false, laid := [("unicode/utf8.acceptRanges", laid_unicode_utf8_acceptRanges), ("unicode/utf8.first", laid_unicode_utf8_first)], narrowed := true }
def UtfRangeUptoSaid : Prop := utfRangeUptoRow.holds Tryd.pinned (OpenSpec.upto utfRangeSpec)

/-- 'guiselaw2.SpotsPlaces', WHERE WHAT IT READS IS OF BULK AT MOST 1048576: true; the input reads as it did. -/
def spotsPlacesUptoRow : OpenClaim := { program := "ytkenffbonnbflaadoor", sum := "9ec14b6c14905f66a689f4eaf37b4c966a9aa5cf550ebf75fb1dfadfd87e989a", func := "guise/guiselaw2.SpotsPlaces", spec := "spotsPlaces", named := ["unicode/utf8.first", "unicode/utf8.acceptRanges"], apart := false, laid := [("unicode/utf8.acceptRanges", laid_unicode_utf8_acceptRanges), ("unicode/utf8.first", laid_unicode_utf8_first)], narrowed := true }
def SpotsPlacesUptoSaid : Prop := spotsPlacesUptoRow.holds Tryd.pinned (OpenSpec.upto spotsPlacesSpec)

/-- 'guiselaw1.UtfValid', WHERE WHAT IT READS IS OF BULK AT MOST 1048576: true; the input reads as it did. -/
def utfValidUptoRow : OpenClaim := { program := "ytkenffbonnbflaadoor", sum := "9ec14b6c14905f66a689f4eaf37b4c966a9aa5cf550ebf75fb1dfadfd87e989a", func := "guise/guiselaw1.UtfValid", spec := "utfValid", unfollowed := true, recurses := true, named := ["unicode/utf8.first", "unicode/utf8.acceptRanges"], apart := false, laid := [("unicode/utf8.acceptRanges", laid_unicode_utf8_acceptRanges), ("unicode/utf8.first", laid_unicode_utf8_first)], narrowed := true }
def UtfValidUptoSaid : Prop := utfValidUptoRow.holds Tryd.pinned (OpenSpec.upto utfValidSpec)

/-- 'guiselaw1.UtfSpots', WHERE WHAT IT READS IS OF BULK AT MOST 1048576: true; the input reads as it did. -/
def utfSpotsUptoRow : OpenClaim := { program := "ytkenffbonnbflaadoor", sum := "9ec14b6c14905f66a689f4eaf37b4c966a9aa5cf550ebf75fb1dfadfd87e989a", func := "guise/guiselaw1.UtfSpots", spec := "utfSpots", unfollowed := true, recurses := true, named := ["unicode/utf8.first", "unicode/utf8.acceptRanges"], apart := false, laid := [("unicode/utf8.acceptRanges", laid_unicode_utf8_acceptRanges), ("unicode/utf8.first", laid_unicode_utf8_first)], narrowed := true }
def UtfSpotsUptoSaid : Prop := utfSpotsUptoRow.holds Tryd.pinned (OpenSpec.upto utfSpotsSpec)

/-- 'guiselaw1.UtfThere', WHERE WHAT IT READS IS OF BULK AT MOST 1048576: true; the input reads as it did. -/
def utfThereUptoRow : OpenClaim := { program := "ytkenffbonnbflaadoor", sum := "9ec14b6c14905f66a689f4eaf37b4c966a9aa5cf550ebf75fb1dfadfd87e989a", func := "guise/guiselaw1.UtfThere", spec := "utfThere", unfollowed := true, recurses := true, named := ["unicode/utf8.first", "unicode/utf8.acceptRanges"], apart := false, laid := [("unicode/utf8.acceptRanges", laid_unicode_utf8_acceptRanges), ("unicode/utf8.first", laid_unicode_utf8_first)], narrowed := true }
def UtfThereUptoSaid : Prop := utfThereUptoRow.holds Tryd.pinned (OpenSpec.upto utfThereSpec)

/-- 'guiselaw1.UtfClean', WHERE WHAT IT READS IS OF BULK AT MOST 1048576: true; the input reads as it did. -/
def utfCleanUptoRow : OpenClaim := { program := "ytkenffbonnbflaadoor", sum := "9ec14b6c14905f66a689f4eaf37b4c966a9aa5cf550ebf75fb1dfadfd87e989a", func := "guise/guiselaw1.UtfClean", spec := "utfClean", unfollowed := true, recurses := true, named := ["unicode/utf8.first", "unicode/utf8.acceptRanges"], apart := false, laid := [("unicode/utf8.acceptRanges", laid_unicode_utf8_acceptRanges), ("unicode/utf8.first", laid_unicode_utf8_first)], narrowed := true }
def UtfCleanUptoSaid : Prop := utfCleanUptoRow.holds Tryd.pinned (OpenSpec.upto utfCleanSpec)

/-- 'guiselaw1.UtfNear', WHERE WHAT IT READS IS OF BULK AT MOST 1048576: true; the input reads as it did. -/
def utfNearUptoRow : OpenClaim := { program := "ytkenffbonnbflaadoor", sum := "9ec14b6c14905f66a689f4eaf37b4c966a9aa5cf550ebf75fb1dfadfd87e989a", func := "guise/guiselaw1.UtfNear", spec := "utfNear", unfollowed := true, recurses := true, named := ["unicode/utf8.first", "unicode/utf8.acceptRanges"], apart := false, laid := [("unicode/utf8.acceptRanges", laid_unicode_utf8_acceptRanges), ("unicode/utf8.first", laid_unicode_utf8_first)], narrowed := true }
def UtfNearUptoSaid : Prop := utfNearUptoRow.holds Tryd.pinned (OpenSpec.upto utfNearSpec)

/-- 'guiselaw2.SpotsRound', WHERE WHAT IT READS IS OF BULK AT MOST 1048576: true; the input reads as it did. -/
def spotsRoundUptoRow : OpenClaim := { program := "ytkenffbonnbflaadoor", sum := "9ec14b6c14905f66a689f4eaf37b4c966a9aa5cf550ebf75fb1dfadfd87e989a", func := "guise/guiselaw2.SpotsRound", spec := "spotsRound", named := ["unicode/utf8.first", "unicode/utf8.acceptRanges"], apart := false, laid := [("unicode/utf8.acceptRanges", laid_unicode_utf8_acceptRanges), ("unicode/utf8.first", laid_unicode_utf8_first)], narrowed := true }
def SpotsRoundUptoSaid : Prop := spotsRoundUptoRow.holds Tryd.pinned (OpenSpec.upto spotsRoundSpec)

/-- 'guiselaw2.SpotsAll', WHERE WHAT IT READS IS OF BULK AT MOST 1048576: true; the input reads as it did. -/
def spotsAllUptoRow : OpenClaim := { program := "ytkenffbonnbflaadoor", sum := "9ec14b6c14905f66a689f4eaf37b4c966a9aa5cf550ebf75fb1dfadfd87e989a", func := "guise/guiselaw2.SpotsAll", spec := "spotsAll", unfollowed := true, recurses := true, named := ["unicode/utf8.first", "unicode/utf8.acceptRanges"], apart := false, laid := [("unicode/utf8.acceptRanges", laid_unicode_utf8_acceptRanges), ("unicode/utf8.first", laid_unicode_utf8_first)], narrowed := true }
def SpotsAllUptoSaid : Prop := spotsAllUptoRow.holds Tryd.pinned (OpenSpec.upto spotsAllSpec)

/-- 'guiselaw1.UtfNames', WHERE WHAT IT READS IS OF BULK AT MOST 1048576: true; the input reads as it did. -/
def utfNamesUptoRow : OpenClaim := { program := "ytkenffbonnbflaadoor", sum := "9ec14b6c14905f66a689f4eaf37b4c966a9aa5cf550ebf75fb1dfadfd87e989a", func := "guise/guiselaw1.UtfNames", spec := "utfNames", unfollowed := true, recurses := true, named := ["unicode/utf8.first", "unicode/utf8.acceptRanges"], apart := false, laid := [("unicode/utf8.acceptRanges", laid_unicode_utf8_acceptRanges), ("unicode/utf8.first", laid_unicode_utf8_first)], narrowed := true }
def UtfNamesUptoSaid : Prop := utfNamesUptoRow.holds Tryd.pinned (OpenSpec.upto utfNamesSpec)

/-- 'guiselaw2.SpotsNames', WHERE WHAT IT READS IS OF BULK AT MOST 1048576: true; the input reads as it did. -/
def spotsNamesUptoRow : OpenClaim := { program := "ytkenffbonnbflaadoor", sum := "9ec14b6c14905f66a689f4eaf37b4c966a9aa5cf550ebf75fb1dfadfd87e989a", func := "guise/guiselaw2.SpotsNames", spec := "spotsNames", unfollowed := true, recurses := true, named := ["unicode/utf8.first", "unicode/utf8.acceptRanges"], apart := false, laid := [("unicode/utf8.acceptRanges", laid_unicode_utf8_acceptRanges), ("unicode/utf8.first", laid_unicode_utf8_first)], narrowed := true }
def SpotsNamesUptoSaid : Prop := spotsNamesUptoRow.holds Tryd.pinned (OpenSpec.upto spotsNamesSpec)

end Rows
end Go.Proofs.YtkenffbonnbflaaDoor
