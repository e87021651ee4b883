/-
  No cell of these rows narrows 'for every input' (looked for: loops, veiled, ifaces, maps, wideKeys, modest, calm, conditions, laid).
  DERIVED. THE GIVEN ROWS OF THIS SEAT. 6 by the template 'for every input the law returns true; each argument reads behind the call as it read before'; 0 by the template 'total and deterministic' (their statements: YtgejmmkfaliinaaTotals.lean).
  GIVEN WITH THE SEED: the statements are not yours to turn. If you find one false, say at which input.
  Laid BY PROGRAM, IN A SANDBOX (cutbox-rows.mjs): the forced cells as the released guide's own fill.sh prints them over the translation b9a42a6d58d7df7d… (all of the seat's roots in one cut). By AI agents, Wed Nov 11 2026. No macro, syntax, notation, axiom, sorry.
-/
import Derived.Test.YtgejmmkfaliinaaChecked
import GoSem.Claim
import GoSem.ClaimJoined
import GoSem.ClaimMapViews
import Derived.JoinedTies
import Derived.KernelRfl
namespace Go.Proofs.Ytgejmmkfaliinaa
/- THE CELL 'sum', in the pinned program and in every row, IS THE sha256 OF THE DUMP (.gsa) THAT YtgejmmkfaliinaaProg.lean LOADS. Nothing in Lean hashes anything: it is a label: what it is worth is what the hold of that sum in a sandbox is worth. -/
noncomputable def Try.pinned : Pinned := { name := "ytgejmmkfaliinaa", sum := "b9a42a6d58d7df7d10b360985ffdb161bbc49853c04e183ecd1afb66bab9f3cf", checked := Try.checked }
namespace Rows
def none {H : Type} : Left H := { results := [], args := [] }

/-- 'frisketlaw03.LinesPlaces': WHATEVER THE INPUT: true; the input reads as it did. -/
def linesPlacesSpec : ChangeSpec := { name := "linesPlaces", fn := fun _ => fun
  | [d1, d2] => { results := [.lit (.bool true)], args := [d1, d2] }
  | _ => none }
def linesPlacesRow : OpenClaim := { program := "ytgejmmkfaliinaa", sum := "b9a42a6d58d7df7d10b360985ffdb161bbc49853c04e183ecd1afb66bab9f3cf", func := "frisket/frisketlaw03.LinesPlaces", spec := "linesPlaces", unfollowed := true, recurses := true, apart := false }
def LinesPlacesSaid : Prop := linesPlacesRow.holds Try.pinned (OpenSpec.ofChange linesPlacesSpec)

/-- ITS FALSE NEIGHBOUR: 'it returns false'. Refute it at one input. -/
def linesPlacesWrong : ChangeSpec := { name := "linesPlaces", fn := fun _ => fun
  | [d1, d2] => { results := [.lit (.bool false)], args := [d1, d2] }
  | _ => none }
def LinesPlacesWrongFalsely : Prop := linesPlacesRow.holds Try.pinned (OpenSpec.ofChange linesPlacesWrong)

/-- 'frisketlaw03.LinesUpdates': WHATEVER THE INPUT: true; the input reads as it did. -/
def linesUpdatesSpec : ChangeSpec := { name := "linesUpdates", fn := fun _ => fun
  | [d1, d2, d3, d4] => { results := [.lit (.bool true)], args := [d1, d2, d3, d4] }
  | _ => none }
def linesUpdatesRow : OpenClaim := { program := "ytgejmmkfaliinaa", sum := "b9a42a6d58d7df7d10b360985ffdb161bbc49853c04e183ecd1afb66bab9f3cf", func := "frisket/frisketlaw03.LinesUpdates", spec := "linesUpdates", unfollowed := true, recurses := true, apart := false }
def LinesUpdatesSaid : Prop := linesUpdatesRow.holds Try.pinned (OpenSpec.ofChange linesUpdatesSpec)

/-- ITS FALSE NEIGHBOUR: 'it returns false'. Refute it at one input. -/
def linesUpdatesWrong : ChangeSpec := { name := "linesUpdates", fn := fun _ => fun
  | [d1, d2, d3, d4] => { results := [.lit (.bool false)], args := [d1, d2, d3, d4] }
  | _ => none }
def LinesUpdatesWrongFalsely : Prop := linesUpdatesRow.holds Try.pinned (OpenSpec.ofChange linesUpdatesWrong)

/-- 'frisketlaw04.CodesColumns': WHATEVER THE INPUT: true; the input reads as it did. -/
def codesColumnsSpec : ChangeSpec := { name := "codesColumns", fn := fun _ => fun
  | [d] => { results := [.lit (.bool true)], args := [d] }
  | _ => none }
def codesColumnsRow : OpenClaim := { program := "ytgejmmkfaliinaa", sum := "b9a42a6d58d7df7d10b360985ffdb161bbc49853c04e183ecd1afb66bab9f3cf", func := "frisket/frisketlaw04.CodesColumns", spec := "codesColumns", inPlace := ["internal/abi.NoEscape"], apart := false }
def CodesColumnsSaid : Prop := codesColumnsRow.holds Try.pinned (OpenSpec.ofChange codesColumnsSpec)

/-- ITS FALSE NEIGHBOUR: 'it returns false'. Refute it at one input. -/
def codesColumnsWrong : ChangeSpec := { name := "codesColumns", fn := fun _ => fun
  | [d] => { results := [.lit (.bool false)], args := [d] }
  | _ => none }
def CodesColumnsWrongFalsely : Prop := codesColumnsRow.holds Try.pinned (OpenSpec.ofChange codesColumnsWrong)

/-- 'frisketlaw04.CodesEncode': WHATEVER THE INPUT: true; the input reads as it did. -/
def codesEncodeSpec : ChangeSpec := { name := "codesEncode", fn := fun _ => fun
  | [d] => { results := [.lit (.bool true)], args := [d] }
  | _ => none }
def codesEncodeRow : OpenClaim := { program := "ytgejmmkfaliinaa", sum := "b9a42a6d58d7df7d10b360985ffdb161bbc49853c04e183ecd1afb66bab9f3cf", func := "frisket/frisketlaw04.CodesEncode", spec := "codesEncode", inPlace := ["internal/abi.NoEscape"], apart := false }
def CodesEncodeSaid : Prop := codesEncodeRow.holds Try.pinned (OpenSpec.ofChange codesEncodeSpec)

/-- ITS FALSE NEIGHBOUR: 'it returns false'. Refute it at one input. -/
def codesEncodeWrong : ChangeSpec := { name := "codesEncode", fn := fun _ => fun
  | [d] => { results := [.lit (.bool false)], args := [d] }
  | _ => none }
def CodesEncodeWrongFalsely : Prop := codesEncodeRow.holds Try.pinned (OpenSpec.ofChange codesEncodeWrong)

/-- 'frisketlaw04.CodesCuts': WHATEVER THE INPUT: true; the input reads as it did. -/
def codesCutsSpec : ChangeSpec := { name := "codesCuts", fn := fun _ => fun
  | [d1, d2] => { results := [.lit (.bool true)], args := [d1, d2] }
  | _ => none }
def codesCutsRow : OpenClaim := { program := "ytgejmmkfaliinaa", sum := "b9a42a6d58d7df7d10b360985ffdb161bbc49853c04e183ecd1afb66bab9f3cf", func := "frisket/frisketlaw04.CodesCuts", spec := "codesCuts", inPlace := ["internal/abi.NoEscape"], apart := false }
def CodesCutsSaid : Prop := codesCutsRow.holds Try.pinned (OpenSpec.ofChange codesCutsSpec)

/-- ITS FALSE NEIGHBOUR: 'it returns false'. Refute it at one input. -/
def codesCutsWrong : ChangeSpec := { name := "codesCuts", fn := fun _ => fun
  | [d1, d2] => { results := [.lit (.bool false)], args := [d1, d2] }
  | _ => none }
def CodesCutsWrongFalsely : Prop := codesCutsRow.holds Try.pinned (OpenSpec.ofChange codesCutsWrong)

/-- 'frisketlaw04.CodesDecode': WHATEVER THE INPUT: true; the input reads as it did. -/
def codesDecodeSpec : ChangeSpec := { name := "codesDecode", fn := fun _ => fun
  | [d1, d2] => { results := [.lit (.bool true)], args := [d1, d2] }
  | _ => none }
def codesDecodeRow : OpenClaim := { program := "ytgejmmkfaliinaa", sum := "b9a42a6d58d7df7d10b360985ffdb161bbc49853c04e183ecd1afb66bab9f3cf", func := "frisket/frisketlaw04.CodesDecode", spec := "codesDecode", inPlace := ["internal/abi.NoEscape"], apart := false }
def CodesDecodeSaid : Prop := codesDecodeRow.holds Try.pinned (OpenSpec.ofChange codesDecodeSpec)

/-- ITS FALSE NEIGHBOUR: 'it returns false'. Refute it at one input. -/
def codesDecodeWrong : ChangeSpec := { name := "codesDecode", fn := fun _ => fun
  | [d1, d2] => { results := [.lit (.bool false)], args := [d1, d2] }
  | _ => none }
def CodesDecodeWrongFalsely : Prop := codesDecodeRow.holds Try.pinned (OpenSpec.ofChange codesDecodeWrong)

/- THE SECOND FORM. 'bulk': how many values and letters a reading holds, each counted each time it is reached (what is shared counts as often as it is met; a slice's spare places count too). A statement '..UptoSaid' is the law's where the arguments, and the package variables that the reading takes, are together of bulk at most 1048576: NARROWER than '..Said'. Prove '..Said' where nothing that the law and all that it calls make is longer than what came in: it says more and counts as full. Else prove '..UptoSaid'. A law counts once. -/
mutual
def uptoBulk {H : Type} : DataW H → Nat
  | .lit (.string bytes) => bytes.length + 1
  | .lit _ => 1
  | .nil => 1
  | .ptr d => uptoBulk d + 1
  | .slice elems spare => uptoBulkAll elems + uptoBulkAll spare + 1
  | .agg parts => uptoBulkAll parts + 1
  | .iface _ d => uptoBulk d + 1
  | .map entries => uptoBulkEntries entries + 1
  | .held _ => 1
def uptoBulkAll {H : Type} : List (DataW H) → Nat
  | [] => 0
  | d :: r => uptoBulk d + uptoBulkAll r
def uptoBulkEntries {H : Type} : List (Lit × DataW H) → Nat
  | [] => 0
  | x :: r => uptoBulkEntry x + uptoBulkEntries r
def uptoBulkEntry {H : Type} : Lit × DataW H → Nat
  | (.string bytes, d) => bytes.length + uptoBulk d + 1
  | (_, d) => uptoBulk d + 1
 end
def uptoSmall : (H : Type) → List (DataW H) → Bool := fun _ ds => decide (uptoBulkAll ds ≤ 1048576)
def OpenSpec.upto (s : _root_.Go.ChangeSpec) : _root_.Go.OpenSpec := { _root_.Go.OpenSpec.ofChange s with cond := some uptoSmall }

/-- 'frisketlaw03.LinesPlaces', WHERE WHAT IT READS IS OF BULK AT MOST 1048576: true; the input reads as it did. -/
def linesPlacesUptoRow : OpenClaim := { program := "ytgejmmkfaliinaa", sum := "b9a42a6d58d7df7d10b360985ffdb161bbc49853c04e183ecd1afb66bab9f3cf", func := "frisket/frisketlaw03.LinesPlaces", spec := "linesPlaces", unfollowed := true, recurses := true, apart := false, narrowed := true }
def LinesPlacesUptoSaid : Prop := linesPlacesUptoRow.holds Try.pinned (OpenSpec.upto linesPlacesSpec)

/-- 'frisketlaw03.LinesUpdates', WHERE WHAT IT READS IS OF BULK AT MOST 1048576: true; the input reads as it did. -/
def linesUpdatesUptoRow : OpenClaim := { program := "ytgejmmkfaliinaa", sum := "b9a42a6d58d7df7d10b360985ffdb161bbc49853c04e183ecd1afb66bab9f3cf", func := "frisket/frisketlaw03.LinesUpdates", spec := "linesUpdates", unfollowed := true, recurses := true, apart := false, narrowed := true }
def LinesUpdatesUptoSaid : Prop := linesUpdatesUptoRow.holds Try.pinned (OpenSpec.upto linesUpdatesSpec)

/-- 'frisketlaw04.CodesColumns', WHERE WHAT IT READS IS OF BULK AT MOST 1048576: true; the input reads as it did. -/
def codesColumnsUptoRow : OpenClaim := { program := "ytgejmmkfaliinaa", sum := "b9a42a6d58d7df7d10b360985ffdb161bbc49853c04e183ecd1afb66bab9f3cf", func := "frisket/frisketlaw04.CodesColumns", spec := "codesColumns", inPlace := ["internal/abi.NoEscape"], apart := false, narrowed := true }
def CodesColumnsUptoSaid : Prop := codesColumnsUptoRow.holds Try.pinned (OpenSpec.upto codesColumnsSpec)

/-- 'frisketlaw04.CodesEncode', WHERE WHAT IT READS IS OF BULK AT MOST 1048576: true; the input reads as it did. -/
def codesEncodeUptoRow : OpenClaim := { program := "ytgejmmkfaliinaa", sum := "b9a42a6d58d7df7d10b360985ffdb161bbc49853c04e183ecd1afb66bab9f3cf", func := "frisket/frisketlaw04.CodesEncode", spec := "codesEncode", inPlace := ["internal/abi.NoEscape"], apart := false, narrowed := true }
def CodesEncodeUptoSaid : Prop := codesEncodeUptoRow.holds Try.pinned (OpenSpec.upto codesEncodeSpec)

/-- 'frisketlaw04.CodesCuts', WHERE WHAT IT READS IS OF BULK AT MOST 1048576: true; the input reads as it did. -/
def codesCutsUptoRow : OpenClaim := { program := "ytgejmmkfaliinaa", sum := "b9a42a6d58d7df7d10b360985ffdb161bbc49853c04e183ecd1afb66bab9f3cf", func := "frisket/frisketlaw04.CodesCuts", spec := "codesCuts", inPlace := ["internal/abi.NoEscape"], apart := false, narrowed := true }
def CodesCutsUptoSaid : Prop := codesCutsUptoRow.holds Try.pinned (OpenSpec.upto codesCutsSpec)

/-- 'frisketlaw04.CodesDecode', WHERE WHAT IT READS IS OF BULK AT MOST 1048576: true; the input reads as it did. -/
def codesDecodeUptoRow : OpenClaim := { program := "ytgejmmkfaliinaa", sum := "b9a42a6d58d7df7d10b360985ffdb161bbc49853c04e183ecd1afb66bab9f3cf", func := "frisket/frisketlaw04.CodesDecode", spec := "codesDecode", inPlace := ["internal/abi.NoEscape"], apart := false, narrowed := true }
def CodesDecodeUptoSaid : Prop := codesDecodeUptoRow.holds Try.pinned (OpenSpec.upto codesDecodeSpec)

end Rows
end Go.Proofs.Ytgejmmkfaliinaa
