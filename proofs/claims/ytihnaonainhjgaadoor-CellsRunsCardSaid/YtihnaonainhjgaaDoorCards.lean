/-
  DERIVED. GIVEN WITH THE SEED: THE CARDS: each row of YtihnaonainhjgaaDoorRows.lean that lists a variable, with what it lists TIED to the program's text (the seventh form; the later family's looks); each row that meets fmt, with fmt's text TOLD by the authors' own Lean function (tested against real Go, not proved from fmt's source: count such statements apart). THE CARD IS WHAT COUNTS. Prove the row's statement (the work); the ties are given (YtihnaonainhjgaaDoorTie.lean); close each card by the builder's one call (the guide's Derived/Test/ToyasCard.lean, 'card_holds'). Laid BY PROGRAM, IN A SANDBOX (cutbox-door.mjs). By AI agents, Wed Nov 11 2026. No macro, syntax, notation, axiom, sorry.
-/
import Derived.Test.YtihnaonainhjgaaDoorRows
import GoSem.ClaimSeven
namespace Go.Proofs.YtihnaonainhjgaaDoor
namespace Rows

/-- THE TIED CARD OF 'deaddroplaw23.CellsTwo'. -/
def cellsTwoCard : Claim7 := { stood := { row := cellsTwoRow, standIns := [], harness := (true, "757e45434ff538275f37a54391e526f901a229b3e5ab28595a19a871d8e7bca5"), looks := true }, kinds := [], alts := [], laidByText := true, laidKinds := [.handle], laidTests := true, laidLooks := .later }
def CellsTwoCardSaid : Prop := Claim7.holds Tryd.pinned (.plain (OpenSpec.ofChange cellsTwoSpec)) cellsTwoCard

/-- THE TIED CARD OF 'deaddroplaw23.CellsRuns'. -/
def cellsRunsCard : Claim7 := { stood := { row := cellsRunsRow, standIns := [], harness := (true, "757e45434ff538275f37a54391e526f901a229b3e5ab28595a19a871d8e7bca5"), looks := true }, kinds := [], alts := [], laidByText := true, laidKinds := [.handle], laidTests := true, laidLooks := .later }
def CellsRunsCardSaid : Prop := Claim7.holds Tryd.pinned (.plain (OpenSpec.ofChange cellsRunsSpec)) cellsRunsCard

/-- THE TIED CARD OF 'deaddroplaw13.SnapBack'. -/
def snapBackCard : Claim7 := { stood := { row := snapBackRow, standIns := [], harness := (true, "757e45434ff538275f37a54391e526f901a229b3e5ab28595a19a871d8e7bca5"), looks := true }, kinds := [], alts := [], laidByText := true, laidKinds := [.handle], laidTests := true, laidLooks := .later }
def SnapBackCardSaid : Prop := Claim7.holds Tryd.pinned (.plain (OpenSpec.ofChange snapBackSpec)) snapBackCard

/-- THE TIED CARD OF 'deaddroplaw13.SnapSize'. -/
def snapSizeCard : Claim7 := { stood := { row := snapSizeRow, standIns := [], harness := (true, "757e45434ff538275f37a54391e526f901a229b3e5ab28595a19a871d8e7bca5"), looks := true }, kinds := [], alts := [], laidByText := true, laidKinds := [.handle], laidTests := true, laidLooks := .later }
def SnapSizeCardSaid : Prop := Claim7.holds Tryd.pinned (.plain (OpenSpec.ofChange snapSizeSpec)) snapSizeCard

/-- THE TIED CARD OF 'deaddroplaw13.SnapMay'. -/
def snapMayCard : Claim7 := { stood := { row := snapMayRow, standIns := [], harness := (true, "757e45434ff538275f37a54391e526f901a229b3e5ab28595a19a871d8e7bca5"), looks := true }, kinds := [], alts := [], laidByText := true, laidKinds := [.handle], laidTests := true, laidLooks := .later }
def SnapMayCardSaid : Prop := Claim7.holds Tryd.pinned (.plain (OpenSpec.ofChange snapMaySpec)) snapMayCard

/-- THE TIED CARD OF 'deaddroplaw24.SaveFalls'. -/
def saveFallsCard : Claim7 := { stood := { row := saveFallsRow, standIns := [], harness := (true, "757e45434ff538275f37a54391e526f901a229b3e5ab28595a19a871d8e7bca5"), looks := true }, kinds := [], alts := [], laidByText := true, laidKinds := [.handle], laidTests := true, laidLooks := .later }
def SaveFallsCardSaid : Prop := Claim7.holds Tryd.pinned (.plain (OpenSpec.ofChange saveFallsSpec)) saveFallsCard

/-- THE TIED CARD OF 'deaddroplaw15.MemberMany'. -/
def memberManyCard : Claim7 := { stood := { row := memberManyRow, standIns := [], harness := (true, "757e45434ff538275f37a54391e526f901a229b3e5ab28595a19a871d8e7bca5"), looks := true }, kinds := [], alts := [], laidByText := true, laidKinds := [.handle], laidTests := true, laidLooks := .later }
def MemberManyCardSaid : Prop := Claim7.holds Tryd.pinned (.plain (OpenSpec.ofChange memberManySpec)) memberManyCard

/-- THE TIED CARD OF 'deaddroplaw15.MemberBack'. -/
def memberBackCard : Claim7 := { stood := { row := memberBackRow, standIns := [], harness := (true, "757e45434ff538275f37a54391e526f901a229b3e5ab28595a19a871d8e7bca5"), looks := true }, kinds := [], alts := [], laidByText := true, laidKinds := [.handle], laidTests := true, laidLooks := .later }
def MemberBackCardSaid : Prop := Claim7.holds Tryd.pinned (.plain (OpenSpec.ofChange memberBackSpec)) memberBackCard

/-- THE TIED CARD OF 'deaddroplaw15.MemberHead'. -/
def memberHeadCard : Claim7 := { stood := { row := memberHeadRow, standIns := [], harness := (true, "757e45434ff538275f37a54391e526f901a229b3e5ab28595a19a871d8e7bca5"), looks := true }, kinds := [], alts := [], laidByText := true, laidKinds := [.handle], laidTests := true, laidLooks := .later }
def MemberHeadCardSaid : Prop := Claim7.holds Tryd.pinned (.plain (OpenSpec.ofChange memberHeadSpec)) memberHeadCard

/-- THE SECOND FORM's CARD OF 'deaddroplaw23.CellsTwo'. -/
def cellsTwoUptoCard : Claim7 := { stood := { row := cellsTwoUptoRow, standIns := [], harness := (true, "757e45434ff538275f37a54391e526f901a229b3e5ab28595a19a871d8e7bca5"), looks := true }, kinds := [], alts := [], laidByText := true, laidKinds := [.handle], laidTests := true, laidLooks := .later }
def CellsTwoUptoCardSaid : Prop := Claim7.holds Tryd.pinned (.plain (OpenSpec.upto cellsTwoSpec)) cellsTwoUptoCard

/-- THE SECOND FORM's CARD OF 'deaddroplaw23.CellsRuns'. -/
def cellsRunsUptoCard : Claim7 := { stood := { row := cellsRunsUptoRow, standIns := [], harness := (true, "757e45434ff538275f37a54391e526f901a229b3e5ab28595a19a871d8e7bca5"), looks := true }, kinds := [], alts := [], laidByText := true, laidKinds := [.handle], laidTests := true, laidLooks := .later }
def CellsRunsUptoCardSaid : Prop := Claim7.holds Tryd.pinned (.plain (OpenSpec.upto cellsRunsSpec)) cellsRunsUptoCard

/-- THE SECOND FORM's CARD OF 'deaddroplaw13.SnapBack'. -/
def snapBackUptoCard : Claim7 := { stood := { row := snapBackUptoRow, standIns := [], harness := (true, "757e45434ff538275f37a54391e526f901a229b3e5ab28595a19a871d8e7bca5"), looks := true }, kinds := [], alts := [], laidByText := true, laidKinds := [.handle], laidTests := true, laidLooks := .later }
def SnapBackUptoCardSaid : Prop := Claim7.holds Tryd.pinned (.plain (OpenSpec.upto snapBackSpec)) snapBackUptoCard

/-- THE SECOND FORM's CARD OF 'deaddroplaw13.SnapSize'. -/
def snapSizeUptoCard : Claim7 := { stood := { row := snapSizeUptoRow, standIns := [], harness := (true, "757e45434ff538275f37a54391e526f901a229b3e5ab28595a19a871d8e7bca5"), looks := true }, kinds := [], alts := [], laidByText := true, laidKinds := [.handle], laidTests := true, laidLooks := .later }
def SnapSizeUptoCardSaid : Prop := Claim7.holds Tryd.pinned (.plain (OpenSpec.upto snapSizeSpec)) snapSizeUptoCard

/-- THE SECOND FORM's CARD OF 'deaddroplaw13.SnapMay'. -/
def snapMayUptoCard : Claim7 := { stood := { row := snapMayUptoRow, standIns := [], harness := (true, "757e45434ff538275f37a54391e526f901a229b3e5ab28595a19a871d8e7bca5"), looks := true }, kinds := [], alts := [], laidByText := true, laidKinds := [.handle], laidTests := true, laidLooks := .later }
def SnapMayUptoCardSaid : Prop := Claim7.holds Tryd.pinned (.plain (OpenSpec.upto snapMaySpec)) snapMayUptoCard

/-- THE SECOND FORM's CARD OF 'deaddroplaw24.SaveFalls'. -/
def saveFallsUptoCard : Claim7 := { stood := { row := saveFallsUptoRow, standIns := [], harness := (true, "757e45434ff538275f37a54391e526f901a229b3e5ab28595a19a871d8e7bca5"), looks := true }, kinds := [], alts := [], laidByText := true, laidKinds := [.handle], laidTests := true, laidLooks := .later }
def SaveFallsUptoCardSaid : Prop := Claim7.holds Tryd.pinned (.plain (OpenSpec.upto saveFallsSpec)) saveFallsUptoCard

/-- THE SECOND FORM's CARD OF 'deaddroplaw15.MemberMany'. -/
def memberManyUptoCard : Claim7 := { stood := { row := memberManyUptoRow, standIns := [], harness := (true, "757e45434ff538275f37a54391e526f901a229b3e5ab28595a19a871d8e7bca5"), looks := true }, kinds := [], alts := [], laidByText := true, laidKinds := [.handle], laidTests := true, laidLooks := .later }
def MemberManyUptoCardSaid : Prop := Claim7.holds Tryd.pinned (.plain (OpenSpec.upto memberManySpec)) memberManyUptoCard

/-- THE SECOND FORM's CARD OF 'deaddroplaw15.MemberBack'. -/
def memberBackUptoCard : Claim7 := { stood := { row := memberBackUptoRow, standIns := [], harness := (true, "757e45434ff538275f37a54391e526f901a229b3e5ab28595a19a871d8e7bca5"), looks := true }, kinds := [], alts := [], laidByText := true, laidKinds := [.handle], laidTests := true, laidLooks := .later }
def MemberBackUptoCardSaid : Prop := Claim7.holds Tryd.pinned (.plain (OpenSpec.upto memberBackSpec)) memberBackUptoCard

/-- THE SECOND FORM's CARD OF 'deaddroplaw15.MemberHead'. -/
def memberHeadUptoCard : Claim7 := { stood := { row := memberHeadUptoRow, standIns := [], harness := (true, "757e45434ff538275f37a54391e526f901a229b3e5ab28595a19a871d8e7bca5"), looks := true }, kinds := [], alts := [], laidByText := true, laidKinds := [.handle], laidTests := true, laidLooks := .later }
def MemberHeadUptoCardSaid : Prop := Claim7.holds Tryd.pinned (.plain (OpenSpec.upto memberHeadSpec)) memberHeadUptoCard
end Rows
end Go.Proofs.YtihnaonainhjgaaDoor
