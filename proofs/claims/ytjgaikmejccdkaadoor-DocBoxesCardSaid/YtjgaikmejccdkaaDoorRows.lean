/-
  NARROWER THAN 'FOR EVERY INPUT', by the rows' own cells (each row's printed sentence says how): DocJoins: laid · DocNone: laid · DocBoxes: laid · LayoutNone: laid · LayoutLeast: laid · LayoutKeeps: laid.
  DERIVED. THE GIVEN ROWS OF THIS SEAT. 6 by the template 'for every input the law returns true; each argument reads behind the call as it read before'; 0 by the template 'total and deterministic' (their statements: YtjgaikmejccdkaaDoorTotals.lean).
  GIVEN WITH THE SEED: the statements are not yours to turn. If you find one false, say at which input.
  Laid BY PROGRAM, IN A SANDBOX (cutbox-rows.mjs): the forced cells as the released guide's own fill.sh prints them over the translation c0637c4813b9e7f7… (all of the seat's roots in one cut). By AI agents, Wed Nov 11 2026. No macro, syntax, notation, axiom, sorry.
-/
import Derived.Test.YtjgaikmejccdkaaDoorChecked
import GoSem.PinnedTables
import GoSem.Claim
import GoSem.ClaimJoined
import GoSem.ClaimMapViews
import Derived.JoinedTies
import Derived.KernelRfl
namespace Go.Proofs.YtjgaikmejccdkaaDoor
/- THE CELL 'sum', in the pinned program and in every row, IS THE sha256 OF THE DUMP (.gsa) THAT YtjgaikmejccdkaaDoorProg.lean LOADS. Nothing in Lean hashes anything: it is a label: what it is worth is what the hold of that sum in a sandbox is worth. -/
noncomputable def Tryd.pinned : Pinned := { name := "ytjgaikmejccdkaadoor", sum := "c0637c4813b9e7f7d537aeb2e74395d0df7e85cf810fca905f10ebef26cfbba2", checked := Tryd.checked }
namespace Rows
def none {H : Type} : Left H := { results := [], args := [] }

/- WHAT THE LISTED PACKAGE-LEVEL VARIABLES READ AS WHEN THE CALL BEGINS. Each datum BY PROGRAM (the guide's laid-datum.mjs) off the statement by which the dump's own 'gosem.cut.vars' lays the variable. In a bare row this is a premise. The card (YtjgaikmejccdkaaDoorCards.lean) ties it to the program's text. -/
def laid_unicode_utf8_acceptRanges {H : Type} : DataW H := .agg [.agg [.lit (.int .u8 128), .lit (.int .u8 191)], .agg [.lit (.int .u8 160), .lit (.int .u8 191)], .agg [.lit (.int .u8 128), .lit (.int .u8 159)], .agg [.lit (.int .u8 144), .lit (.int .u8 191)], .agg [.lit (.int .u8 128), .lit (.int .u8 143)], .agg [.lit (.int .u8 0), .lit (.int .u8 0)], .agg [.lit (.int .u8 0), .lit (.int .u8 0)], .agg [.lit (.int .u8 0), .lit (.int .u8 0)], .agg [.lit (.int .u8 0), .lit (.int .u8 0)], .agg [.lit (.int .u8 0), .lit (.int .u8 0)], .agg [.lit (.int .u8 0), .lit (.int .u8 0)], .agg [.lit (.int .u8 0), .lit (.int .u8 0)], .agg [.lit (.int .u8 0), .lit (.int .u8 0)], .agg [.lit (.int .u8 0), .lit (.int .u8 0)], .agg [.lit (.int .u8 0), .lit (.int .u8 0)], .agg [.lit (.int .u8 0), .lit (.int .u8 0)]]
/-- One of Go's own tables, pinned by name: the form's constant. -/
def laid_unicode_utf8_first : DataW Unit := Go.Pinned.utf8First

/-- 'frisketlaw24.DocJoins': WHATEVER THE INPUT: true; the input reads as it did. -/
def docJoinsSpec : ChangeSpec := { name := "docJoins", fn := fun _ => fun
  | [d1, d2, d3] => { results := [.lit (.bool true)], args := [d1, d2, d3] }
  | _ => none }
def docJoinsRow : OpenClaim := { program := "ytjgaikmejccdkaadoor", sum := "c0637c4813b9e7f7d537aeb2e74395d0df7e85cf810fca905f10ebef26cfbba2", func := "frisket/frisketlaw24.DocJoins", spec := "docJoins", inPlace := ["internal/bytealg.CountString", "internal/bytealg.IndexByteString", "internal/bytealg.IndexString", "internal/abi.NoEscape", "internal/bytealg.MakeNoZero"], recurses := true, named := ["internal/bytealg.MaxLen", "unicode/utf8.first", "unicode/utf8.acceptRanges"], apart := false, laid := [("unicode/utf8.acceptRanges", laid_unicode_utf8_acceptRanges), ("unicode/utf8.first", laid_unicode_utf8_first)] }
def DocJoinsSaid : Prop := docJoinsRow.holds Tryd.pinned (OpenSpec.ofChange docJoinsSpec)

/-- ITS FALSE NEIGHBOUR: 'it returns false'. Refute it at one input. -/
def docJoinsWrong : ChangeSpec := { name := "docJoins", fn := fun _ => fun
  | [d1, d2, d3] => { results := [.lit (.bool false)], args := [d1, d2, d3] }
  | _ => none }
def DocJoinsWrongFalsely : Prop := docJoinsRow.holds Tryd.pinned (OpenSpec.ofChange docJoinsWrong)

/-- 'frisketlaw24.DocNone': WHATEVER THE INPUT: true; the input reads as it did. -/
def docNoneSpec : ChangeSpec := { name := "docNone", fn := fun _ => fun
  | [d] => { results := [.lit (.bool true)], args := [d] }
  | _ => none }
def docNoneRow : OpenClaim := { program := "ytjgaikmejccdkaadoor", sum := "c0637c4813b9e7f7d537aeb2e74395d0df7e85cf810fca905f10ebef26cfbba2", func := "frisket/frisketlaw24.DocNone", spec := "docNone", inPlace := ["internal/abi.NoEscape", "internal/bytealg.CountString", "internal/bytealg.IndexByteString", "internal/bytealg.IndexString", "internal/bytealg.MakeNoZero"], recurses := true, named := ["internal/bytealg.MaxLen", "unicode/utf8.first", "unicode/utf8.acceptRanges"], apart := false, laid := [("unicode/utf8.acceptRanges", laid_unicode_utf8_acceptRanges), ("unicode/utf8.first", laid_unicode_utf8_first)] }
def DocNoneSaid : Prop := docNoneRow.holds Tryd.pinned (OpenSpec.ofChange docNoneSpec)

/-- ITS FALSE NEIGHBOUR: 'it returns false'. Refute it at one input. -/
def docNoneWrong : ChangeSpec := { name := "docNone", fn := fun _ => fun
  | [d] => { results := [.lit (.bool false)], args := [d] }
  | _ => none }
def DocNoneWrongFalsely : Prop := docNoneRow.holds Tryd.pinned (OpenSpec.ofChange docNoneWrong)

/-- 'frisketlaw24.DocBoxes': WHATEVER THE INPUT: true; the input reads as it did. -/
def docBoxesSpec : ChangeSpec := { name := "docBoxes", fn := fun _ => fun
  | [d] => { results := [.lit (.bool true)], args := [d] }
  | _ => none }
def docBoxesRow : OpenClaim := { program := "ytjgaikmejccdkaadoor", sum := "c0637c4813b9e7f7d537aeb2e74395d0df7e85cf810fca905f10ebef26cfbba2", func := "frisket/frisketlaw24.DocBoxes", spec := "docBoxes", inPlace := ["internal/bytealg.CountString", "internal/bytealg.IndexByteString", "internal/bytealg.IndexString", "internal/abi.NoEscape", "internal/bytealg.MakeNoZero"], recurses := true, named := ["internal/bytealg.MaxLen", "unicode/utf8.first", "unicode/utf8.acceptRanges"], apart := false, laid := [("unicode/utf8.acceptRanges", laid_unicode_utf8_acceptRanges), ("unicode/utf8.first", laid_unicode_utf8_first)] }
def DocBoxesSaid : Prop := docBoxesRow.holds Tryd.pinned (OpenSpec.ofChange docBoxesSpec)

/-- ITS FALSE NEIGHBOUR: 'it returns false'. Refute it at one input. -/
def docBoxesWrong : ChangeSpec := { name := "docBoxes", fn := fun _ => fun
  | [d] => { results := [.lit (.bool false)], args := [d] }
  | _ => none }
def DocBoxesWrongFalsely : Prop := docBoxesRow.holds Tryd.pinned (OpenSpec.ofChange docBoxesWrong)

/-- 'frisketlaw25.LayoutNone': WHATEVER THE INPUT: true; the input reads as it did. -/
def layoutNoneSpec : ChangeSpec := { name := "layoutNone", fn := fun _ => fun
  | [d] => { results := [.lit (.bool true)], args := [d] }
  | _ => none }
def layoutNoneRow : OpenClaim := { program := "ytjgaikmejccdkaadoor", sum := "c0637c4813b9e7f7d537aeb2e74395d0df7e85cf810fca905f10ebef26cfbba2", func := "frisket/frisketlaw25.LayoutNone", spec := "layoutNone", inPlace := ["internal/bytealg.CountString", "internal/bytealg.IndexByteString", "internal/bytealg.IndexString", "internal/abi.NoEscape", "internal/bytealg.MakeNoZero"], unfollowed := true, recurses := true, named := ["internal/bytealg.MaxLen", "unicode/utf8.first", "unicode/utf8.acceptRanges"], apart := false, laid := [("unicode/utf8.acceptRanges", laid_unicode_utf8_acceptRanges), ("unicode/utf8.first", laid_unicode_utf8_first)] }
def LayoutNoneSaid : Prop := layoutNoneRow.holds Tryd.pinned (OpenSpec.ofChange layoutNoneSpec)

/-- ITS FALSE NEIGHBOUR: 'it returns false'. Refute it at one input. -/
def layoutNoneWrong : ChangeSpec := { name := "layoutNone", fn := fun _ => fun
  | [d] => { results := [.lit (.bool false)], args := [d] }
  | _ => none }
def LayoutNoneWrongFalsely : Prop := layoutNoneRow.holds Tryd.pinned (OpenSpec.ofChange layoutNoneWrong)

/-- 'frisketlaw25.LayoutLeast': WHATEVER THE INPUT: true; the input reads as it did. -/
def layoutLeastSpec : ChangeSpec := { name := "layoutLeast", fn := fun _ => fun
  | [d1, d2] => { results := [.lit (.bool true)], args := [d1, d2] }
  | _ => none }
def layoutLeastRow : OpenClaim := { program := "ytjgaikmejccdkaadoor", sum := "c0637c4813b9e7f7d537aeb2e74395d0df7e85cf810fca905f10ebef26cfbba2", func := "frisket/frisketlaw25.LayoutLeast", spec := "layoutLeast", inPlace := ["internal/bytealg.CountString", "internal/bytealg.IndexByteString", "internal/bytealg.IndexString", "internal/abi.NoEscape", "internal/bytealg.MakeNoZero"], unfollowed := true, recurses := true, named := ["internal/bytealg.MaxLen", "unicode/utf8.first", "unicode/utf8.acceptRanges"], apart := false, laid := [("unicode/utf8.acceptRanges", laid_unicode_utf8_acceptRanges), ("unicode/utf8.first", laid_unicode_utf8_first)] }
def LayoutLeastSaid : Prop := layoutLeastRow.holds Tryd.pinned (OpenSpec.ofChange layoutLeastSpec)

/-- ITS FALSE NEIGHBOUR: 'it returns false'. Refute it at one input. -/
def layoutLeastWrong : ChangeSpec := { name := "layoutLeast", fn := fun _ => fun
  | [d1, d2] => { results := [.lit (.bool false)], args := [d1, d2] }
  | _ => none }
def LayoutLeastWrongFalsely : Prop := layoutLeastRow.holds Tryd.pinned (OpenSpec.ofChange layoutLeastWrong)

/-- 'frisketlaw25.LayoutKeeps': WHATEVER THE INPUT: true; the input reads as it did. -/
def layoutKeepsSpec : ChangeSpec := { name := "layoutKeeps", fn := fun _ => fun
  | [d1, d2] => { results := [.lit (.bool true)], args := [d1, d2] }
  | _ => none }
def layoutKeepsRow : OpenClaim := { program := "ytjgaikmejccdkaadoor", sum := "c0637c4813b9e7f7d537aeb2e74395d0df7e85cf810fca905f10ebef26cfbba2", func := "frisket/frisketlaw25.LayoutKeeps", spec := "layoutKeeps", inPlace := ["internal/bytealg.CountString", "internal/bytealg.IndexByteString", "internal/bytealg.IndexString", "internal/abi.NoEscape", "internal/bytealg.MakeNoZero"], unfollowed := true, recurses := true, named := ["internal/bytealg.MaxLen", "unicode/utf8.first", "unicode/utf8.acceptRanges"], apart := false, laid := [("unicode/utf8.acceptRanges", laid_unicode_utf8_acceptRanges), ("unicode/utf8.first", laid_unicode_utf8_first)] }
def LayoutKeepsSaid : Prop := layoutKeepsRow.holds Tryd.pinned (OpenSpec.ofChange layoutKeepsSpec)

/-- ITS FALSE NEIGHBOUR: 'it returns false'. Refute it at one input. -/
def layoutKeepsWrong : ChangeSpec := { name := "layoutKeeps", fn := fun _ => fun
  | [d1, d2] => { results := [.lit (.bool false)], args := [d1, d2] }
  | _ => none }
def LayoutKeepsWrongFalsely : Prop := layoutKeepsRow.holds Tryd.pinned (OpenSpec.ofChange layoutKeepsWrong)

/- THE SECOND FORM. 'bulk': how many values and letters a reading holds, each counted each time it is reached (what is shared counts as often as it is met; a slice's spare places count too). A statement '..UptoSaid' is the law's where the arguments, and the package variables that the reading takes, are together of bulk at most 1048576: NARROWER than '..Said'. Prove '..Said' where nothing that the law and all that it calls make is longer than what came in: it says more and counts as full. Else prove '..UptoSaid'. A law counts once. -/
mutual
def uptoBulk {H : Type} : DataW H → Nat
  | .lit (.string bytes) => bytes.length + 1
  | .lit _ => 1
  | .nil => 1
  | .ptr d => uptoBulk d + 1
  | .slice elems spare => uptoBulkAll elems + uptoBulkAll spare + 1
  | .agg parts => uptoBulkAll parts + 1
  | .iface _ d => uptoBulk d + 1
  | .map entries => uptoBulkEntries entries + 1
  | .held _ => 1
def uptoBulkAll {H : Type} : List (DataW H) → Nat
  | [] => 0
  | d :: r => uptoBulk d + uptoBulkAll r
def uptoBulkEntries {H : Type} : List (Lit × DataW H) → Nat
  | [] => 0
  | x :: r => uptoBulkEntry x + uptoBulkEntries r
def uptoBulkEntry {H : Type} : Lit × DataW H → Nat
  | (.string bytes, d) => bytes.length + uptoBulk d + 1
  | (_, d) => uptoBulk d + 1
 end
def uptoSmall : (H : Type) → List (DataW H) → Bool := fun _ ds => decide (uptoBulkAll ds ≤ 1048576)
def OpenSpec.upto (s : _root_.Go.ChangeSpec) : _root_.Go.OpenSpec := { _root_.Go.OpenSpec.ofChange s with cond := some uptoSmall }

/-- 'frisketlaw24.DocJoins', WHERE WHAT IT READS IS OF BULK AT MOST 1048576: true; the input reads as it did. -/
def docJoinsUptoRow : OpenClaim := { program := "ytjgaikmejccdkaadoor", sum := "c0637c4813b9e7f7d537aeb2e74395d0df7e85cf810fca905f10ebef26cfbba2", func := "frisket/frisketlaw24.DocJoins", spec := "docJoins", inPlace := ["internal/bytealg.CountString", "internal/bytealg.IndexByteString", "internal/bytealg.IndexString", "internal/abi.NoEscape", "internal/bytealg.MakeNoZero"], recurses := true, named := ["internal/bytealg.MaxLen", "unicode/utf8.first", "unicode/utf8.acceptRanges"], apart := false, laid := [("unicode/utf8.acceptRanges", laid_unicode_utf8_acceptRanges), ("unicode/utf8.first", laid_unicode_utf8_first)], narrowed := true }
def DocJoinsUptoSaid : Prop := docJoinsUptoRow.holds Tryd.pinned (OpenSpec.upto docJoinsSpec)

/-- 'frisketlaw24.DocNone', WHERE WHAT IT READS IS OF BULK AT MOST 1048576: true; the input reads as it did. -/
def docNoneUptoRow : OpenClaim := { program := "ytjgaikmejccdkaadoor", sum := "c0637c4813b9e7f7d537aeb2e74395d0df7e85cf810fca905f10ebef26cfbba2", func := "frisket/frisketlaw24.DocNone", spec := "docNone", inPlace := ["internal/abi.NoEscape", "internal/bytealg.CountString", "internal/bytealg.IndexByteString", "internal/bytealg.IndexString", "internal/bytealg.MakeNoZero"], recurses := true, named := ["internal/bytealg.MaxLen", "unicode/utf8.first", "unicode/utf8.acceptRanges"], apart := false, laid := [("unicode/utf8.acceptRanges", laid_unicode_utf8_acceptRanges), ("unicode/utf8.first", laid_unicode_utf8_first)], narrowed := true }
def DocNoneUptoSaid : Prop := docNoneUptoRow.holds Tryd.pinned (OpenSpec.upto docNoneSpec)

/-- 'frisketlaw24.DocBoxes', WHERE WHAT IT READS IS OF BULK AT MOST 1048576: true; the input reads as it did. -/
def docBoxesUptoRow : OpenClaim := { program := "ytjgaikmejccdkaadoor", sum := "c0637c4813b9e7f7d537aeb2e74395d0df7e85cf810fca905f10ebef26cfbba2", func := "frisket/frisketlaw24.DocBoxes", spec := "docBoxes", inPlace := ["internal/bytealg.CountString", "internal/bytealg.IndexByteString", "internal/bytealg.IndexString", "internal/abi.NoEscape", "internal/bytealg.MakeNoZero"], recurses := true, named := ["internal/bytealg.MaxLen", "unicode/utf8.first", "unicode/utf8.acceptRanges"], apart := false, laid := [("unicode/utf8.acceptRanges", laid_unicode_utf8_acceptRanges), ("unicode/utf8.first", laid_unicode_utf8_first)], narrowed := true }
def DocBoxesUptoSaid : Prop := docBoxesUptoRow.holds Tryd.pinned (OpenSpec.upto docBoxesSpec)

/-- 'frisketlaw25.LayoutNone', WHERE WHAT IT READS IS OF BULK AT MOST 1048576: true; the input reads as it did. -/
def layoutNoneUptoRow : OpenClaim := { program := "ytjgaikmejccdkaadoor", sum := "c0637c4813b9e7f7d537aeb2e74395d0df7e85cf810fca905f10ebef26cfbba2", func := "frisket/frisketlaw25.LayoutNone", spec := "layoutNone", inPlace := ["internal/bytealg.CountString", "internal/bytealg.IndexByteString", "internal/bytealg.IndexString", "internal/abi.NoEscape", "internal/bytealg.MakeNoZero"], unfollowed := true, recurses := true, named := ["internal/bytealg.MaxLen", "unicode/utf8.first", "unicode/utf8.acceptRanges"], apart := false, laid := [("unicode/utf8.acceptRanges", laid_unicode_utf8_acceptRanges), ("unicode/utf8.first", laid_unicode_utf8_first)], narrowed := true }
def LayoutNoneUptoSaid : Prop := layoutNoneUptoRow.holds Tryd.pinned (OpenSpec.upto layoutNoneSpec)

/-- 'frisketlaw25.LayoutLeast', WHERE WHAT IT READS IS OF BULK AT MOST 1048576: true; the input reads as it did. -/
def layoutLeastUptoRow : OpenClaim := { program := "ytjgaikmejccdkaadoor", sum := "c0637c4813b9e7f7d537aeb2e74395d0df7e85cf810fca905f10ebef26cfbba2", func := "frisket/frisketlaw25.LayoutLeast", spec := "layoutLeast", inPlace := ["internal/bytealg.CountString", "internal/bytealg.IndexByteString", "internal/bytealg.IndexString", "internal/abi.NoEscape", "internal/bytealg.MakeNoZero"], unfollowed := true, recurses := true, named := ["internal/bytealg.MaxLen", "unicode/utf8.first", "unicode/utf8.acceptRanges"], apart := false, laid := [("unicode/utf8.acceptRanges", laid_unicode_utf8_acceptRanges), ("unicode/utf8.first", laid_unicode_utf8_first)], narrowed := true }
def LayoutLeastUptoSaid : Prop := layoutLeastUptoRow.holds Tryd.pinned (OpenSpec.upto layoutLeastSpec)

/-- 'frisketlaw25.LayoutKeeps', WHERE WHAT IT READS IS OF BULK AT MOST 1048576: true; the input reads as it did. -/
def layoutKeepsUptoRow : OpenClaim := { program := "ytjgaikmejccdkaadoor", sum := "c0637c4813b9e7f7d537aeb2e74395d0df7e85cf810fca905f10ebef26cfbba2", func := "frisket/frisketlaw25.LayoutKeeps", spec := "layoutKeeps", inPlace := ["internal/bytealg.CountString", "internal/bytealg.IndexByteString", "internal/bytealg.IndexString", "internal/abi.NoEscape", "internal/bytealg.MakeNoZero"], unfollowed := true, recurses := true, named := ["internal/bytealg.MaxLen", "unicode/utf8.first", "unicode/utf8.acceptRanges"], apart := false, laid := [("unicode/utf8.acceptRanges", laid_unicode_utf8_acceptRanges), ("unicode/utf8.first", laid_unicode_utf8_first)], narrowed := true }
def LayoutKeepsUptoSaid : Prop := layoutKeepsUptoRow.holds Tryd.pinned (OpenSpec.upto layoutKeepsSpec)

end Rows
end Go.Proofs.YtjgaikmejccdkaaDoor
