/-
  DERIVED. GIVEN WITH THE SEED: THE CARDS: each row of YtgejmmkfaliinaaDoorRows.lean that lists a variable, with what it lists TIED to the program's text (the seventh form; the later family's looks); each row that meets fmt, with fmt's text TOLD by the authors' own Lean function (tested against real Go, not proved from fmt's source: count such statements apart). THE CARD IS WHAT COUNTS. Prove the row's statement (the work); the ties are given (YtgejmmkfaliinaaDoorTie.lean); close each card by the builder's one call (the guide's Derived/Test/ToyasCard.lean, 'card_holds'). Laid BY PROGRAM, IN A SANDBOX (cutbox-door.mjs). By AI agents, Wed Nov 11 2026. No macro, syntax, notation, axiom, sorry.
-/
import Derived.Test.YtgejmmkfaliinaaDoorRows
import GoSem.ClaimSeven
namespace Go.Proofs.YtgejmmkfaliinaaDoor
namespace Rows

/-- THE TIED CARD OF 'frisketlaw03.LinesLines'. -/
def linesLinesCard : Claim7 := { stood := { row := linesLinesRow, standIns := [], harness := (true, "e639f6328e26444154b986524aca4f2f8485486763bbbd991361c0469e87378b"), looks := false }, kinds := [], alts := [], laidByText := true, laidKinds := [.data, .pinned], laidTests := true, laidLooks := .later }
def LinesLinesCardSaid : Prop := Claim7.holds Tryd.pinned (.plain (OpenSpec.ofChange linesLinesSpec)) linesLinesCard

/-- THE TIED CARD OF 'frisketlaw03.LinesNone'. -/
def linesNoneCard : Claim7 := { stood := { row := linesNoneRow, standIns := [], harness := (true, "e639f6328e26444154b986524aca4f2f8485486763bbbd991361c0469e87378b"), looks := false }, kinds := [], alts := [], laidByText := true, laidKinds := [.data, .pinned], laidTests := true, laidLooks := .later }
def LinesNoneCardSaid : Prop := Claim7.holds Tryd.pinned (.plain (OpenSpec.ofChange linesNoneSpec)) linesNoneCard

/-- THE SECOND FORM's CARD OF 'frisketlaw03.LinesLines'. -/
def linesLinesUptoCard : Claim7 := { stood := { row := linesLinesUptoRow, standIns := [], harness := (true, "e639f6328e26444154b986524aca4f2f8485486763bbbd991361c0469e87378b"), looks := false }, kinds := [], alts := [], laidByText := true, laidKinds := [.data, .pinned], laidTests := true, laidLooks := .later }
def LinesLinesUptoCardSaid : Prop := Claim7.holds Tryd.pinned (.plain (OpenSpec.upto linesLinesSpec)) linesLinesUptoCard

/-- THE SECOND FORM's CARD OF 'frisketlaw03.LinesNone'. -/
def linesNoneUptoCard : Claim7 := { stood := { row := linesNoneUptoRow, standIns := [], harness := (true, "e639f6328e26444154b986524aca4f2f8485486763bbbd991361c0469e87378b"), looks := false }, kinds := [], alts := [], laidByText := true, laidKinds := [.data, .pinned], laidTests := true, laidLooks := .later }
def LinesNoneUptoCardSaid : Prop := Claim7.holds Tryd.pinned (.plain (OpenSpec.upto linesNoneSpec)) linesNoneUptoCard
end Rows
end Go.Proofs.YtgejmmkfaliinaaDoor
