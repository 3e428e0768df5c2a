/-
  DERIVED. GIVEN WITH THE SEED: THE CARDS: each row of YtkenffbonnbflaaDoorRows.lean that lists a variable, with what it lists TIED to the program's text (the seventh form; the later family's looks); each row that meets fmt, with fmt's text TOLD by the authors' own Lean function (tested against real Go, not proved from fmt's source: count such statements apart). THE CARD IS WHAT COUNTS. Prove the row's statement (the work); the ties are given (YtkenffbonnbflaaDoorTie.lean); close each card by the builder's one call (the guide's Derived/Test/ToyasCard.lean, 'card_holds'). Laid BY PROGRAM, IN A SANDBOX (cutbox-door.mjs). By AI agents, Wed Nov 11 2026. No macro, syntax, notation, axiom, sorry.
-/
import Derived.Test.YtkenffbonnbflaaDoorRows
import GoSem.ClaimSeven
namespace Go.Proofs.YtkenffbonnbflaaDoor
namespace Rows

/-- THE TIED CARD OF 'guiselaw1.UtfEnds'. -/
def utfEndsCard : Claim7 := { stood := { row := utfEndsRow, standIns := [], harness := (true, "ad79809ac5f5d81c8538f632745ef214cb7c8623f94b78e8599d8ea9ac00448a"), looks := false }, kinds := [], alts := [], laidByText := true, laidKinds := [.data, .pinned], laidTests := true, laidLooks := .later }
def UtfEndsCardSaid : Prop := Claim7.holds Tryd.pinned (.plain (OpenSpec.ofChange utfEndsSpec)) utfEndsCard

/-- THE TIED CARD OF 'guiselaw1.UtfRunes'. -/
def utfRunesCard : Claim7 := { stood := { row := utfRunesRow, standIns := [], harness := (true, "ad79809ac5f5d81c8538f632745ef214cb7c8623f94b78e8599d8ea9ac00448a"), looks := false }, kinds := [], alts := [], laidByText := true, laidKinds := [.data, .pinned], laidTests := true, laidLooks := .later }
def UtfRunesCardSaid : Prop := Claim7.holds Tryd.pinned (.plain (OpenSpec.ofChange utfRunesSpec)) utfRunesCard

/-- THE TIED CARD OF 'guiselaw1.UtfBounds'. -/
def utfBoundsCard : Claim7 := { stood := { row := utfBoundsRow, standIns := [], harness := (true, "ad79809ac5f5d81c8538f632745ef214cb7c8623f94b78e8599d8ea9ac00448a"), looks := false }, kinds := [], alts := [], laidByText := true, laidKinds := [.data, .pinned], laidTests := true, laidLooks := .later }
def UtfBoundsCardSaid : Prop := Claim7.holds Tryd.pinned (.plain (OpenSpec.ofChange utfBoundsSpec)) utfBoundsCard

/-- THE TIED CARD OF 'guiselaw1.UtfText'. -/
def utfTextCard : Claim7 := { stood := { row := utfTextRow, standIns := [], harness := (true, "ad79809ac5f5d81c8538f632745ef214cb7c8623f94b78e8599d8ea9ac00448a"), looks := false }, kinds := [], alts := [], laidByText := true, laidKinds := [.data, .pinned], laidTests := true, laidLooks := .later }
def UtfTextCardSaid : Prop := Claim7.holds Tryd.pinned (.plain (OpenSpec.ofChange utfTextSpec)) utfTextCard

/-- THE TIED CARD OF 'guiselaw1.UtfJoins'. -/
def utfJoinsCard : Claim7 := { stood := { row := utfJoinsRow, standIns := [], harness := (true, "ad79809ac5f5d81c8538f632745ef214cb7c8623f94b78e8599d8ea9ac00448a"), looks := false }, kinds := [], alts := [], laidByText := true, laidKinds := [.data, .pinned], laidTests := true, laidLooks := .later }
def UtfJoinsCardSaid : Prop := Claim7.holds Tryd.pinned (.plain (OpenSpec.ofChange utfJoinsSpec)) utfJoinsCard

/-- THE TIED CARD OF 'guiselaw1.UtfParts'. -/
def utfPartsCard : Claim7 := { stood := { row := utfPartsRow, standIns := [], harness := (true, "ad79809ac5f5d81c8538f632745ef214cb7c8623f94b78e8599d8ea9ac00448a"), looks := false }, kinds := [], alts := [], laidByText := true, laidKinds := [.data, .pinned], laidTests := true, laidLooks := .later }
def UtfPartsCardSaid : Prop := Claim7.holds Tryd.pinned (.plain (OpenSpec.ofChange utfPartsSpec)) utfPartsCard

/-- THE TIED CARD OF 'guiselaw1.UtfAppend'. -/
def utfAppendCard : Claim7 := { stood := { row := utfAppendRow, standIns := [], harness := (true, "ad79809ac5f5d81c8538f632745ef214cb7c8623f94b78e8599d8ea9ac00448a"), looks := false }, kinds := [], alts := [], laidByText := true, laidKinds := [.data, .pinned], laidTests := true, laidLooks := .later }
def UtfAppendCardSaid : Prop := Claim7.holds Tryd.pinned (.plain (OpenSpec.ofChange utfAppendSpec)) utfAppendCard

/-- THE TIED CARD OF 'guiselaw1.UtfRange'. -/
def utfRangeCard : Claim7 := { stood := { row := utfRangeRow, standIns := [], harness := (true, "ad79809ac5f5d81c8538f632745ef214cb7c8623f94b78e8599d8ea9ac00448a"), looks := false }, kinds := [], alts := [], laidByText := true, laidKinds := [.data, .pinned], laidTests := true, laidLooks := .later }
def UtfRangeCardSaid : Prop := Claim7.holds Tryd.pinned (.plain (OpenSpec.ofChange utfRangeSpec)) utfRangeCard

/-- THE TIED CARD OF 'guiselaw2.SpotsPlaces'. -/
def spotsPlacesCard : Claim7 := { stood := { row := spotsPlacesRow, standIns := [], harness := (true, "ad79809ac5f5d81c8538f632745ef214cb7c8623f94b78e8599d8ea9ac00448a"), looks := false }, kinds := [], alts := [], laidByText := true, laidKinds := [.data, .pinned], laidTests := true, laidLooks := .later }
def SpotsPlacesCardSaid : Prop := Claim7.holds Tryd.pinned (.plain (OpenSpec.ofChange spotsPlacesSpec)) spotsPlacesCard

/-- THE TIED CARD OF 'guiselaw1.UtfValid'. -/
def utfValidCard : Claim7 := { stood := { row := utfValidRow, standIns := [], harness := (true, "ad79809ac5f5d81c8538f632745ef214cb7c8623f94b78e8599d8ea9ac00448a"), looks := false }, kinds := [], alts := [], laidByText := true, laidKinds := [.data, .pinned], laidTests := true, laidLooks := .later }
def UtfValidCardSaid : Prop := Claim7.holds Tryd.pinned (.plain (OpenSpec.ofChange utfValidSpec)) utfValidCard

/-- THE TIED CARD OF 'guiselaw1.UtfSpots'. -/
def utfSpotsCard : Claim7 := { stood := { row := utfSpotsRow, standIns := [], harness := (true, "ad79809ac5f5d81c8538f632745ef214cb7c8623f94b78e8599d8ea9ac00448a"), looks := false }, kinds := [], alts := [], laidByText := true, laidKinds := [.data, .pinned], laidTests := true, laidLooks := .later }
def UtfSpotsCardSaid : Prop := Claim7.holds Tryd.pinned (.plain (OpenSpec.ofChange utfSpotsSpec)) utfSpotsCard

/-- THE TIED CARD OF 'guiselaw1.UtfThere'. -/
def utfThereCard : Claim7 := { stood := { row := utfThereRow, standIns := [], harness := (true, "ad79809ac5f5d81c8538f632745ef214cb7c8623f94b78e8599d8ea9ac00448a"), looks := false }, kinds := [], alts := [], laidByText := true, laidKinds := [.data, .pinned], laidTests := true, laidLooks := .later }
def UtfThereCardSaid : Prop := Claim7.holds Tryd.pinned (.plain (OpenSpec.ofChange utfThereSpec)) utfThereCard

/-- THE TIED CARD OF 'guiselaw1.UtfClean'. -/
def utfCleanCard : Claim7 := { stood := { row := utfCleanRow, standIns := [], harness := (true, "ad79809ac5f5d81c8538f632745ef214cb7c8623f94b78e8599d8ea9ac00448a"), looks := false }, kinds := [], alts := [], laidByText := true, laidKinds := [.data, .pinned], laidTests := true, laidLooks := .later }
def UtfCleanCardSaid : Prop := Claim7.holds Tryd.pinned (.plain (OpenSpec.ofChange utfCleanSpec)) utfCleanCard

/-- THE TIED CARD OF 'guiselaw1.UtfNear'. -/
def utfNearCard : Claim7 := { stood := { row := utfNearRow, standIns := [], harness := (true, "ad79809ac5f5d81c8538f632745ef214cb7c8623f94b78e8599d8ea9ac00448a"), looks := false }, kinds := [], alts := [], laidByText := true, laidKinds := [.data, .pinned], laidTests := true, laidLooks := .later }
def UtfNearCardSaid : Prop := Claim7.holds Tryd.pinned (.plain (OpenSpec.ofChange utfNearSpec)) utfNearCard

/-- THE TIED CARD OF 'guiselaw2.SpotsRound'. -/
def spotsRoundCard : Claim7 := { stood := { row := spotsRoundRow, standIns := [], harness := (true, "ad79809ac5f5d81c8538f632745ef214cb7c8623f94b78e8599d8ea9ac00448a"), looks := false }, kinds := [], alts := [], laidByText := true, laidKinds := [.data, .pinned], laidTests := true, laidLooks := .later }
def SpotsRoundCardSaid : Prop := Claim7.holds Tryd.pinned (.plain (OpenSpec.ofChange spotsRoundSpec)) spotsRoundCard

/-- THE TIED CARD OF 'guiselaw2.SpotsAll'. -/
def spotsAllCard : Claim7 := { stood := { row := spotsAllRow, standIns := [], harness := (true, "ad79809ac5f5d81c8538f632745ef214cb7c8623f94b78e8599d8ea9ac00448a"), looks := false }, kinds := [], alts := [], laidByText := true, laidKinds := [.data, .pinned], laidTests := true, laidLooks := .later }
def SpotsAllCardSaid : Prop := Claim7.holds Tryd.pinned (.plain (OpenSpec.ofChange spotsAllSpec)) spotsAllCard

/-- THE TIED CARD OF 'guiselaw1.UtfNames'. -/
def utfNamesCard : Claim7 := { stood := { row := utfNamesRow, standIns := [], harness := (true, "ad79809ac5f5d81c8538f632745ef214cb7c8623f94b78e8599d8ea9ac00448a"), looks := false }, kinds := [], alts := [], laidByText := true, laidKinds := [.data, .pinned], laidTests := true, laidLooks := .later }
def UtfNamesCardSaid : Prop := Claim7.holds Tryd.pinned (.plain (OpenSpec.ofChange utfNamesSpec)) utfNamesCard

/-- THE TIED CARD OF 'guiselaw2.SpotsNames'. -/
def spotsNamesCard : Claim7 := { stood := { row := spotsNamesRow, standIns := [], harness := (true, "ad79809ac5f5d81c8538f632745ef214cb7c8623f94b78e8599d8ea9ac00448a"), looks := false }, kinds := [], alts := [], laidByText := true, laidKinds := [.data, .pinned], laidTests := true, laidLooks := .later }
def SpotsNamesCardSaid : Prop := Claim7.holds Tryd.pinned (.plain (OpenSpec.ofChange spotsNamesSpec)) spotsNamesCard

/-- THE SECOND FORM's CARD OF 'guiselaw1.UtfEnds'. -/
def utfEndsUptoCard : Claim7 := { stood := { row := utfEndsUptoRow, standIns := [], harness := (true, "ad79809ac5f5d81c8538f632745ef214cb7c8623f94b78e8599d8ea9ac00448a"), looks := false }, kinds := [], alts := [], laidByText := true, laidKinds := [.data, .pinned], laidTests := true, laidLooks := .later }
def UtfEndsUptoCardSaid : Prop := Claim7.holds Tryd.pinned (.plain (OpenSpec.upto utfEndsSpec)) utfEndsUptoCard

/-- THE SECOND FORM's CARD OF 'guiselaw1.UtfRunes'. -/
def utfRunesUptoCard : Claim7 := { stood := { row := utfRunesUptoRow, standIns := [], harness := (true, "ad79809ac5f5d81c8538f632745ef214cb7c8623f94b78e8599d8ea9ac00448a"), looks := false }, kinds := [], alts := [], laidByText := true, laidKinds := [.data, .pinned], laidTests := true, laidLooks := .later }
def UtfRunesUptoCardSaid : Prop := Claim7.holds Tryd.pinned (.plain (OpenSpec.upto utfRunesSpec)) utfRunesUptoCard

/-- THE SECOND FORM's CARD OF 'guiselaw1.UtfBounds'. -/
def utfBoundsUptoCard : Claim7 := { stood := { row := utfBoundsUptoRow, standIns := [], harness := (true, "ad79809ac5f5d81c8538f632745ef214cb7c8623f94b78e8599d8ea9ac00448a"), looks := false }, kinds := [], alts := [], laidByText := true, laidKinds := [.data, .pinned], laidTests := true, laidLooks := .later }
def UtfBoundsUptoCardSaid : Prop := Claim7.holds Tryd.pinned (.plain (OpenSpec.upto utfBoundsSpec)) utfBoundsUptoCard

/-- THE SECOND FORM's CARD OF 'guiselaw1.UtfText'. -/
def utfTextUptoCard : Claim7 := { stood := { row := utfTextUptoRow, standIns := [], harness := (true, "ad79809ac5f5d81c8538f632745ef214cb7c8623f94b78e8599d8ea9ac00448a"), looks := false }, kinds := [], alts := [], laidByText := true, laidKinds := [.data, .pinned], laidTests := true, laidLooks := .later }
def UtfTextUptoCardSaid : Prop := Claim7.holds Tryd.pinned (.plain (OpenSpec.upto utfTextSpec)) utfTextUptoCard

/-- THE SECOND FORM's CARD OF 'guiselaw1.UtfJoins'. -/
def utfJoinsUptoCard : Claim7 := { stood := { row := utfJoinsUptoRow, standIns := [], harness := (true, "ad79809ac5f5d81c8538f632745ef214cb7c8623f94b78e8599d8ea9ac00448a"), looks := false }, kinds := [], alts := [], laidByText := true, laidKinds := [.data, .pinned], laidTests := true, laidLooks := .later }
def UtfJoinsUptoCardSaid : Prop := Claim7.holds Tryd.pinned (.plain (OpenSpec.upto utfJoinsSpec)) utfJoinsUptoCard

/-- THE SECOND FORM's CARD OF 'guiselaw1.UtfParts'. -/
def utfPartsUptoCard : Claim7 := { stood := { row := utfPartsUptoRow, standIns := [], harness := (true, "ad79809ac5f5d81c8538f632745ef214cb7c8623f94b78e8599d8ea9ac00448a"), looks := false }, kinds := [], alts := [], laidByText := true, laidKinds := [.data, .pinned], laidTests := true, laidLooks := .later }
def UtfPartsUptoCardSaid : Prop := Claim7.holds Tryd.pinned (.plain (OpenSpec.upto utfPartsSpec)) utfPartsUptoCard

/-- THE SECOND FORM's CARD OF 'guiselaw1.UtfAppend'. -/
def utfAppendUptoCard : Claim7 := { stood := { row := utfAppendUptoRow, standIns := [], harness := (true, "ad79809ac5f5d81c8538f632745ef214cb7c8623f94b78e8599d8ea9ac00448a"), looks := false }, kinds := [], alts := [], laidByText := true, laidKinds := [.data, .pinned], laidTests := true, laidLooks := .later }
def UtfAppendUptoCardSaid : Prop := Claim7.holds Tryd.pinned (.plain (OpenSpec.upto utfAppendSpec)) utfAppendUptoCard

/-- THE SECOND FORM's CARD OF 'guiselaw1.UtfRange'. -/
def utfRangeUptoCard : Claim7 := { stood := { row := utfRangeUptoRow, standIns := [], harness := (true, "ad79809ac5f5d81c8538f632745ef214cb7c8623f94b78e8599d8ea9ac00448a"), looks := false }, kinds := [], alts := [], laidByText := true, laidKinds := [.data, .pinned], laidTests := true, laidLooks := .later }
def UtfRangeUptoCardSaid : Prop := Claim7.holds Tryd.pinned (.plain (OpenSpec.upto utfRangeSpec)) utfRangeUptoCard

/-- THE SECOND FORM's CARD OF 'guiselaw2.SpotsPlaces'. -/
def spotsPlacesUptoCard : Claim7 := { stood := { row := spotsPlacesUptoRow, standIns := [], harness := (true, "ad79809ac5f5d81c8538f632745ef214cb7c8623f94b78e8599d8ea9ac00448a"), looks := false }, kinds := [], alts := [], laidByText := true, laidKinds := [.data, .pinned], laidTests := true, laidLooks := .later }
def SpotsPlacesUptoCardSaid : Prop := Claim7.holds Tryd.pinned (.plain (OpenSpec.upto spotsPlacesSpec)) spotsPlacesUptoCard

/-- THE SECOND FORM's CARD OF 'guiselaw1.UtfValid'. -/
def utfValidUptoCard : Claim7 := { stood := { row := utfValidUptoRow, standIns := [], harness := (true, "ad79809ac5f5d81c8538f632745ef214cb7c8623f94b78e8599d8ea9ac00448a"), looks := false }, kinds := [], alts := [], laidByText := true, laidKinds := [.data, .pinned], laidTests := true, laidLooks := .later }
def UtfValidUptoCardSaid : Prop := Claim7.holds Tryd.pinned (.plain (OpenSpec.upto utfValidSpec)) utfValidUptoCard

/-- THE SECOND FORM's CARD OF 'guiselaw1.UtfSpots'. -/
def utfSpotsUptoCard : Claim7 := { stood := { row := utfSpotsUptoRow, standIns := [], harness := (true, "ad79809ac5f5d81c8538f632745ef214cb7c8623f94b78e8599d8ea9ac00448a"), looks := false }, kinds := [], alts := [], laidByText := true, laidKinds := [.data, .pinned], laidTests := true, laidLooks := .later }
def UtfSpotsUptoCardSaid : Prop := Claim7.holds Tryd.pinned (.plain (OpenSpec.upto utfSpotsSpec)) utfSpotsUptoCard

/-- THE SECOND FORM's CARD OF 'guiselaw1.UtfThere'. -/
def utfThereUptoCard : Claim7 := { stood := { row := utfThereUptoRow, standIns := [], harness := (true, "ad79809ac5f5d81c8538f632745ef214cb7c8623f94b78e8599d8ea9ac00448a"), looks := false }, kinds := [], alts := [], laidByText := true, laidKinds := [.data, .pinned], laidTests := true, laidLooks := .later }
def UtfThereUptoCardSaid : Prop := Claim7.holds Tryd.pinned (.plain (OpenSpec.upto utfThereSpec)) utfThereUptoCard

/-- THE SECOND FORM's CARD OF 'guiselaw1.UtfClean'. -/
def utfCleanUptoCard : Claim7 := { stood := { row := utfCleanUptoRow, standIns := [], harness := (true, "ad79809ac5f5d81c8538f632745ef214cb7c8623f94b78e8599d8ea9ac00448a"), looks := false }, kinds := [], alts := [], laidByText := true, laidKinds := [.data, .pinned], laidTests := true, laidLooks := .later }
def UtfCleanUptoCardSaid : Prop := Claim7.holds Tryd.pinned (.plain (OpenSpec.upto utfCleanSpec)) utfCleanUptoCard

/-- THE SECOND FORM's CARD OF 'guiselaw1.UtfNear'. -/
def utfNearUptoCard : Claim7 := { stood := { row := utfNearUptoRow, standIns := [], harness := (true, "ad79809ac5f5d81c8538f632745ef214cb7c8623f94b78e8599d8ea9ac00448a"), looks := false }, kinds := [], alts := [], laidByText := true, laidKinds := [.data, .pinned], laidTests := true, laidLooks := .later }
def UtfNearUptoCardSaid : Prop := Claim7.holds Tryd.pinned (.plain (OpenSpec.upto utfNearSpec)) utfNearUptoCard

/-- THE SECOND FORM's CARD OF 'guiselaw2.SpotsRound'. -/
def spotsRoundUptoCard : Claim7 := { stood := { row := spotsRoundUptoRow, standIns := [], harness := (true, "ad79809ac5f5d81c8538f632745ef214cb7c8623f94b78e8599d8ea9ac00448a"), looks := false }, kinds := [], alts := [], laidByText := true, laidKinds := [.data, .pinned], laidTests := true, laidLooks := .later }
def SpotsRoundUptoCardSaid : Prop := Claim7.holds Tryd.pinned (.plain (OpenSpec.upto spotsRoundSpec)) spotsRoundUptoCard

/-- THE SECOND FORM's CARD OF 'guiselaw2.SpotsAll'. -/
def spotsAllUptoCard : Claim7 := { stood := { row := spotsAllUptoRow, standIns := [], harness := (true, "ad79809ac5f5d81c8538f632745ef214cb7c8623f94b78e8599d8ea9ac00448a"), looks := false }, kinds := [], alts := [], laidByText := true, laidKinds := [.data, .pinned], laidTests := true, laidLooks := .later }
def SpotsAllUptoCardSaid : Prop := Claim7.holds Tryd.pinned (.plain (OpenSpec.upto spotsAllSpec)) spotsAllUptoCard

/-- THE SECOND FORM's CARD OF 'guiselaw1.UtfNames'. -/
def utfNamesUptoCard : Claim7 := { stood := { row := utfNamesUptoRow, standIns := [], harness := (true, "ad79809ac5f5d81c8538f632745ef214cb7c8623f94b78e8599d8ea9ac00448a"), looks := false }, kinds := [], alts := [], laidByText := true, laidKinds := [.data, .pinned], laidTests := true, laidLooks := .later }
def UtfNamesUptoCardSaid : Prop := Claim7.holds Tryd.pinned (.plain (OpenSpec.upto utfNamesSpec)) utfNamesUptoCard

/-- THE SECOND FORM's CARD OF 'guiselaw2.SpotsNames'. -/
def spotsNamesUptoCard : Claim7 := { stood := { row := spotsNamesUptoRow, standIns := [], harness := (true, "ad79809ac5f5d81c8538f632745ef214cb7c8623f94b78e8599d8ea9ac00448a"), looks := false }, kinds := [], alts := [], laidByText := true, laidKinds := [.data, .pinned], laidTests := true, laidLooks := .later }
def SpotsNamesUptoCardSaid : Prop := Claim7.holds Tryd.pinned (.plain (OpenSpec.upto spotsNamesSpec)) spotsNamesUptoCard
end Rows
end Go.Proofs.YtkenffbonnbflaaDoor
