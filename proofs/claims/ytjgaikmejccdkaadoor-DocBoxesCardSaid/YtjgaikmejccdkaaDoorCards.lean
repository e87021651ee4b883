/-
  DERIVED. GIVEN WITH THE SEED: THE CARDS: each row of YtjgaikmejccdkaaDoorRows.lean that lists a variable, with what it lists TIED to the program's text (the seventh form; the later family's looks); each row that meets fmt, with fmt's text TOLD by the authors' own Lean function (tested against real Go, not proved from fmt's source: count such statements apart). THE CARD IS WHAT COUNTS. Prove the row's statement (the work); the ties are given (YtjgaikmejccdkaaDoorTie.lean); close each card by the builder's one call (the guide's Derived/Test/ToyasCard.lean, 'card_holds'). Laid BY PROGRAM, IN A SANDBOX (cutbox-door.mjs). By AI agents, Wed Nov 11 2026. No macro, syntax, notation, axiom, sorry.
-/
import Derived.Test.YtjgaikmejccdkaaDoorRows
import GoSem.ClaimSeven
namespace Go.Proofs.YtjgaikmejccdkaaDoor
namespace Rows

/-- THE TIED CARD OF 'frisketlaw24.DocJoins'. -/
def docJoinsCard : Claim7 := { stood := { row := docJoinsRow, standIns := [], harness := (true, "61fa81242cd9a5cb899370e663f7f79e09de6db72f64616e1f24868c121aa594"), looks := false }, kinds := [], alts := [], laidByText := true, laidKinds := [.data, .pinned], laidTests := true, laidLooks := .later }
def DocJoinsCardSaid : Prop := Claim7.holds Tryd.pinned (.plain (OpenSpec.ofChange docJoinsSpec)) docJoinsCard

/-- THE TIED CARD OF 'frisketlaw24.DocNone'. -/
def docNoneCard : Claim7 := { stood := { row := docNoneRow, standIns := [], harness := (true, "61fa81242cd9a5cb899370e663f7f79e09de6db72f64616e1f24868c121aa594"), looks := false }, kinds := [], alts := [], laidByText := true, laidKinds := [.data, .pinned], laidTests := true, laidLooks := .later }
def DocNoneCardSaid : Prop := Claim7.holds Tryd.pinned (.plain (OpenSpec.ofChange docNoneSpec)) docNoneCard

/-- THE TIED CARD OF 'frisketlaw24.DocBoxes'. -/
def docBoxesCard : Claim7 := { stood := { row := docBoxesRow, standIns := [], harness := (true, "61fa81242cd9a5cb899370e663f7f79e09de6db72f64616e1f24868c121aa594"), looks := false }, kinds := [], alts := [], laidByText := true, laidKinds := [.data, .pinned], laidTests := true, laidLooks := .later }
def DocBoxesCardSaid : Prop := Claim7.holds Tryd.pinned (.plain (OpenSpec.ofChange docBoxesSpec)) docBoxesCard

/-- THE TIED CARD OF 'frisketlaw25.LayoutNone'. -/
def layoutNoneCard : Claim7 := { stood := { row := layoutNoneRow, standIns := [], harness := (true, "61fa81242cd9a5cb899370e663f7f79e09de6db72f64616e1f24868c121aa594"), looks := false }, kinds := [], alts := [], laidByText := true, laidKinds := [.data, .pinned], laidTests := true, laidLooks := .later }
def LayoutNoneCardSaid : Prop := Claim7.holds Tryd.pinned (.plain (OpenSpec.ofChange layoutNoneSpec)) layoutNoneCard

/-- THE TIED CARD OF 'frisketlaw25.LayoutLeast'. -/
def layoutLeastCard : Claim7 := { stood := { row := layoutLeastRow, standIns := [], harness := (true, "61fa81242cd9a5cb899370e663f7f79e09de6db72f64616e1f24868c121aa594"), looks := false }, kinds := [], alts := [], laidByText := true, laidKinds := [.data, .pinned], laidTests := true, laidLooks := .later }
def LayoutLeastCardSaid : Prop := Claim7.holds Tryd.pinned (.plain (OpenSpec.ofChange layoutLeastSpec)) layoutLeastCard

/-- THE TIED CARD OF 'frisketlaw25.LayoutKeeps'. -/
def layoutKeepsCard : Claim7 := { stood := { row := layoutKeepsRow, standIns := [], harness := (true, "61fa81242cd9a5cb899370e663f7f79e09de6db72f64616e1f24868c121aa594"), looks := false }, kinds := [], alts := [], laidByText := true, laidKinds := [.data, .pinned], laidTests := true, laidLooks := .later }
def LayoutKeepsCardSaid : Prop := Claim7.holds Tryd.pinned (.plain (OpenSpec.ofChange layoutKeepsSpec)) layoutKeepsCard

/-- THE SECOND FORM's CARD OF 'frisketlaw24.DocJoins'. -/
def docJoinsUptoCard : Claim7 := { stood := { row := docJoinsUptoRow, standIns := [], harness := (true, "61fa81242cd9a5cb899370e663f7f79e09de6db72f64616e1f24868c121aa594"), looks := false }, kinds := [], alts := [], laidByText := true, laidKinds := [.data, .pinned], laidTests := true, laidLooks := .later }
def DocJoinsUptoCardSaid : Prop := Claim7.holds Tryd.pinned (.plain (OpenSpec.upto docJoinsSpec)) docJoinsUptoCard

/-- THE SECOND FORM's CARD OF 'frisketlaw24.DocNone'. -/
def docNoneUptoCard : Claim7 := { stood := { row := docNoneUptoRow, standIns := [], harness := (true, "61fa81242cd9a5cb899370e663f7f79e09de6db72f64616e1f24868c121aa594"), looks := false }, kinds := [], alts := [], laidByText := true, laidKinds := [.data, .pinned], laidTests := true, laidLooks := .later }
def DocNoneUptoCardSaid : Prop := Claim7.holds Tryd.pinned (.plain (OpenSpec.upto docNoneSpec)) docNoneUptoCard

/-- THE SECOND FORM's CARD OF 'frisketlaw24.DocBoxes'. -/
def docBoxesUptoCard : Claim7 := { stood := { row := docBoxesUptoRow, standIns := [], harness := (true, "61fa81242cd9a5cb899370e663f7f79e09de6db72f64616e1f24868c121aa594"), looks := false }, kinds := [], alts := [], laidByText := true, laidKinds := [.data, .pinned], laidTests := true, laidLooks := .later }
def DocBoxesUptoCardSaid : Prop := Claim7.holds Tryd.pinned (.plain (OpenSpec.upto docBoxesSpec)) docBoxesUptoCard

/-- THE SECOND FORM's CARD OF 'frisketlaw25.LayoutNone'. -/
def layoutNoneUptoCard : Claim7 := { stood := { row := layoutNoneUptoRow, standIns := [], harness := (true, "61fa81242cd9a5cb899370e663f7f79e09de6db72f64616e1f24868c121aa594"), looks := false }, kinds := [], alts := [], laidByText := true, laidKinds := [.data, .pinned], laidTests := true, laidLooks := .later }
def LayoutNoneUptoCardSaid : Prop := Claim7.holds Tryd.pinned (.plain (OpenSpec.upto layoutNoneSpec)) layoutNoneUptoCard

/-- THE SECOND FORM's CARD OF 'frisketlaw25.LayoutLeast'. -/
def layoutLeastUptoCard : Claim7 := { stood := { row := layoutLeastUptoRow, standIns := [], harness := (true, "61fa81242cd9a5cb899370e663f7f79e09de6db72f64616e1f24868c121aa594"), looks := false }, kinds := [], alts := [], laidByText := true, laidKinds := [.data, .pinned], laidTests := true, laidLooks := .later }
def LayoutLeastUptoCardSaid : Prop := Claim7.holds Tryd.pinned (.plain (OpenSpec.upto layoutLeastSpec)) layoutLeastUptoCard

/-- THE SECOND FORM's CARD OF 'frisketlaw25.LayoutKeeps'. -/
def layoutKeepsUptoCard : Claim7 := { stood := { row := layoutKeepsUptoRow, standIns := [], harness := (true, "61fa81242cd9a5cb899370e663f7f79e09de6db72f64616e1f24868c121aa594"), looks := false }, kinds := [], alts := [], laidByText := true, laidKinds := [.data, .pinned], laidTests := true, laidLooks := .later }
def LayoutKeepsUptoCardSaid : Prop := Claim7.holds Tryd.pinned (.plain (OpenSpec.upto layoutKeepsSpec)) layoutKeepsUptoCard
end Rows
end Go.Proofs.YtjgaikmejccdkaaDoor
