/-
  No cell of these rows narrows 'for every input' (looked for: loops, veiled, ifaces, maps, wideKeys, modest, calm, conditions, laid).
  DERIVED. THE GIVEN ROWS OF THIS SEAT. 5 by the template 'for every input the law returns true; each argument reads behind the call as it read before'; 0 by the template 'total and deterministic' (their statements: YtpghnadlekafpaaTotals.lean).
  GIVEN WITH THE SEED: the statements are not yours to turn. If you find one false, say at which input.
  Laid BY PROGRAM, IN A SANDBOX (cutbox-rows.mjs): the forced cells as the released guide's own fill.sh prints them over the translation 579249f024ac8520… (all of the seat's roots in one cut). By AI agents, Wed Nov 11 2026. No macro, syntax, notation, axiom, sorry.
-/
import Derived.Test.YtpghnadlekafpaaChecked
import GoSem.Claim
import GoSem.ClaimJoined
import GoSem.ClaimMapViews
import Derived.JoinedTies
import Derived.KernelRfl
namespace Go.Proofs.Ytpghnadlekafpaa
/- THE CELL 'sum', in the pinned program and in every row, IS THE sha256 OF THE DUMP (.gsa) THAT YtpghnadlekafpaaProg.lean LOADS. Nothing in Lean hashes anything: it is a label: what it is worth is what the hold of that sum in a sandbox is worth. -/
noncomputable def Try.pinned : Pinned := { name := "ytpghnadlekafpaa", sum := "579249f024ac8520363710db01840af1bcf8a0f88dd7f060f3561cd1a8c83623", checked := Try.checked }
namespace Rows
def none {H : Type} : Left H := { results := [], args := [] }

/-- 'frisketlaw02.BufForgets': WHATEVER THE INPUT: true; the input reads as it did. -/
def bufForgetsSpec : ChangeSpec := { name := "bufForgets", fn := fun _ => fun
  | [d1, d2] => { results := [.lit (.bool true)], args := [d1, d2] }
  | _ => none }
def bufForgetsRow : OpenClaim := { program := "ytpghnadlekafpaa", sum := "579249f024ac8520363710db01840af1bcf8a0f88dd7f060f3561cd1a8c83623", func := "frisket/frisketlaw02.BufForgets", spec := "bufForgets", inPlace := ["internal/abi.NoEscape"], apart := false }
def BufForgetsSaid : Prop := bufForgetsRow.holds Try.pinned (OpenSpec.ofChange bufForgetsSpec)

/-- ITS FALSE NEIGHBOUR: 'it returns false'. Refute it at one input. -/
def bufForgetsWrong : ChangeSpec := { name := "bufForgets", fn := fun _ => fun
  | [d1, d2] => { results := [.lit (.bool false)], args := [d1, d2] }
  | _ => none }
def BufForgetsWrongFalsely : Prop := bufForgetsRow.holds Try.pinned (OpenSpec.ofChange bufForgetsWrong)

/-- 'frisketlaw02.BufTwice': WHATEVER THE INPUT: true; the input reads as it did. -/
def bufTwiceSpec : ChangeSpec := { name := "bufTwice", fn := fun _ => fun
  | [d1, d2] => { results := [.lit (.bool true)], args := [d1, d2] }
  | _ => none }
def bufTwiceRow : OpenClaim := { program := "ytpghnadlekafpaa", sum := "579249f024ac8520363710db01840af1bcf8a0f88dd7f060f3561cd1a8c83623", func := "frisket/frisketlaw02.BufTwice", spec := "bufTwice", inPlace := ["internal/abi.NoEscape"], apart := false }
def BufTwiceSaid : Prop := bufTwiceRow.holds Try.pinned (OpenSpec.ofChange bufTwiceSpec)

/-- ITS FALSE NEIGHBOUR: 'it returns false'. Refute it at one input. -/
def bufTwiceWrong : ChangeSpec := { name := "bufTwice", fn := fun _ => fun
  | [d1, d2] => { results := [.lit (.bool false)], args := [d1, d2] }
  | _ => none }
def BufTwiceWrongFalsely : Prop := bufTwiceRow.holds Try.pinned (OpenSpec.ofChange bufTwiceWrong)

/-- 'frisketlaw02.BufLooks': WHATEVER THE INPUT: true; the input reads as it did. -/
def bufLooksSpec : ChangeSpec := { name := "bufLooks", fn := fun _ => fun
  | [d1, d2, d3, d4] => { results := [.lit (.bool true)], args := [d1, d2, d3, d4] }
  | _ => none }
def bufLooksRow : OpenClaim := { program := "ytpghnadlekafpaa", sum := "579249f024ac8520363710db01840af1bcf8a0f88dd7f060f3561cd1a8c83623", func := "frisket/frisketlaw02.BufLooks", spec := "bufLooks", inPlace := ["internal/abi.NoEscape"], apart := false }
def BufLooksSaid : Prop := bufLooksRow.holds Try.pinned (OpenSpec.ofChange bufLooksSpec)

/-- ITS FALSE NEIGHBOUR: 'it returns false'. Refute it at one input. -/
def bufLooksWrong : ChangeSpec := { name := "bufLooks", fn := fun _ => fun
  | [d1, d2, d3, d4] => { results := [.lit (.bool false)], args := [d1, d2, d3, d4] }
  | _ => none }
def BufLooksWrongFalsely : Prop := bufLooksRow.holds Try.pinned (OpenSpec.ofChange bufLooksWrong)

/-- 'frisketlaw02.BufPlays': WHATEVER THE INPUT: true; the input reads as it did. -/
def bufPlaysSpec : ChangeSpec := { name := "bufPlays", fn := fun _ => fun
  | [d1, d2] => { results := [.lit (.bool true)], args := [d1, d2] }
  | _ => none }
def bufPlaysRow : OpenClaim := { program := "ytpghnadlekafpaa", sum := "579249f024ac8520363710db01840af1bcf8a0f88dd7f060f3561cd1a8c83623", func := "frisket/frisketlaw02.BufPlays", spec := "bufPlays", inPlace := ["internal/abi.NoEscape"], apart := false }
def BufPlaysSaid : Prop := bufPlaysRow.holds Try.pinned (OpenSpec.ofChange bufPlaysSpec)

/-- ITS FALSE NEIGHBOUR: 'it returns false'. Refute it at one input. -/
def bufPlaysWrong : ChangeSpec := { name := "bufPlays", fn := fun _ => fun
  | [d1, d2] => { results := [.lit (.bool false)], args := [d1, d2] }
  | _ => none }
def BufPlaysWrongFalsely : Prop := bufPlaysRow.holds Try.pinned (OpenSpec.ofChange bufPlaysWrong)

/-- 'frisketlaw02.BufNone': WHATEVER THE INPUT: true; the input reads as it did. -/
def bufNoneSpec : ChangeSpec := { name := "bufNone", fn := fun _ => fun
  | [d1, d2, d3] => { results := [.lit (.bool true)], args := [d1, d2, d3] }
  | _ => none }
def bufNoneRow : OpenClaim := { program := "ytpghnadlekafpaa", sum := "579249f024ac8520363710db01840af1bcf8a0f88dd7f060f3561cd1a8c83623", func := "frisket/frisketlaw02.BufNone", spec := "bufNone", inPlace := ["internal/abi.NoEscape"], apart := false }
def BufNoneSaid : Prop := bufNoneRow.holds Try.pinned (OpenSpec.ofChange bufNoneSpec)

/-- ITS FALSE NEIGHBOUR: 'it returns false'. Refute it at one input. -/
def bufNoneWrong : ChangeSpec := { name := "bufNone", fn := fun _ => fun
  | [d1, d2, d3] => { results := [.lit (.bool false)], args := [d1, d2, d3] }
  | _ => none }
def BufNoneWrongFalsely : Prop := bufNoneRow.holds Try.pinned (OpenSpec.ofChange bufNoneWrong)

/- THE SECOND FORM. 'bulk': how many values and letters a reading holds, each counted each time it is reached (what is shared counts as often as it is met; a slice's spare places count too). A statement '..UptoSaid' is the law's where the arguments, and the package variables that the reading takes, are together of bulk at most 1048576: NARROWER than '..Said'. Prove '..Said' where nothing that the law and all that it calls make is longer than what came in: it says more and counts as full. Else prove '..UptoSaid'. A law counts once. -/
mutual
def uptoBulk {H : Type} : DataW H → Nat
  | .lit (.string bytes) => bytes.length + 1
  | .lit _ => 1
  | .nil => 1
  | .ptr d => uptoBulk d + 1
  | .slice elems spare => uptoBulkAll elems + uptoBulkAll spare + 1
  | .agg parts => uptoBulkAll parts + 1
  | .iface _ d => uptoBulk d + 1
  | .map entries => uptoBulkEntries entries + 1
  | .held _ => 1
def uptoBulkAll {H : Type} : List (DataW H) → Nat
  | [] => 0
  | d :: r => uptoBulk d + uptoBulkAll r
def uptoBulkEntries {H : Type} : List (Lit × DataW H) → Nat
  | [] => 0
  | x :: r => uptoBulkEntry x + uptoBulkEntries r
def uptoBulkEntry {H : Type} : Lit × DataW H → Nat
  | (.string bytes, d) => bytes.length + uptoBulk d + 1
  | (_, d) => uptoBulk d + 1
 end
def uptoSmall : (H : Type) → List (DataW H) → Bool := fun _ ds => decide (uptoBulkAll ds ≤ 1048576)
def OpenSpec.upto (s : _root_.Go.ChangeSpec) : _root_.Go.OpenSpec := { _root_.Go.OpenSpec.ofChange s with cond := some uptoSmall }

/-- 'frisketlaw02.BufForgets', WHERE WHAT IT READS IS OF BULK AT MOST 1048576: true; the input reads as it did. -/
def bufForgetsUptoRow : OpenClaim := { program := "ytpghnadlekafpaa", sum := "579249f024ac8520363710db01840af1bcf8a0f88dd7f060f3561cd1a8c83623", func := "frisket/frisketlaw02.BufForgets", spec := "bufForgets", inPlace := ["internal/abi.NoEscape"], apart := false, narrowed := true }
def BufForgetsUptoSaid : Prop := bufForgetsUptoRow.holds Try.pinned (OpenSpec.upto bufForgetsSpec)

/-- 'frisketlaw02.BufTwice', WHERE WHAT IT READS IS OF BULK AT MOST 1048576: true; the input reads as it did. -/
def bufTwiceUptoRow : OpenClaim := { program := "ytpghnadlekafpaa", sum := "579249f024ac8520363710db01840af1bcf8a0f88dd7f060f3561cd1a8c83623", func := "frisket/frisketlaw02.BufTwice", spec := "bufTwice", inPlace := ["internal/abi.NoEscape"], apart := false, narrowed := true }
def BufTwiceUptoSaid : Prop := bufTwiceUptoRow.holds Try.pinned (OpenSpec.upto bufTwiceSpec)

/-- 'frisketlaw02.BufLooks', WHERE WHAT IT READS IS OF BULK AT MOST 1048576: true; the input reads as it did. -/
def bufLooksUptoRow : OpenClaim := { program := "ytpghnadlekafpaa", sum := "579249f024ac8520363710db01840af1bcf8a0f88dd7f060f3561cd1a8c83623", func := "frisket/frisketlaw02.BufLooks", spec := "bufLooks", inPlace := ["internal/abi.NoEscape"], apart := false, narrowed := true }
def BufLooksUptoSaid : Prop := bufLooksUptoRow.holds Try.pinned (OpenSpec.upto bufLooksSpec)

/-- 'frisketlaw02.BufPlays', WHERE WHAT IT READS IS OF BULK AT MOST 1048576: true; the input reads as it did. -/
def bufPlaysUptoRow : OpenClaim := { program := "ytpghnadlekafpaa", sum := "579249f024ac8520363710db01840af1bcf8a0f88dd7f060f3561cd1a8c83623", func := "frisket/frisketlaw02.BufPlays", spec := "bufPlays", inPlace := ["internal/abi.NoEscape"], apart := false, narrowed := true }
def BufPlaysUptoSaid : Prop := bufPlaysUptoRow.holds Try.pinned (OpenSpec.upto bufPlaysSpec)

/-- 'frisketlaw02.BufNone', WHERE WHAT IT READS IS OF BULK AT MOST 1048576: true; the input reads as it did. -/
def bufNoneUptoRow : OpenClaim := { program := "ytpghnadlekafpaa", sum := "579249f024ac8520363710db01840af1bcf8a0f88dd7f060f3561cd1a8c83623", func := "frisket/frisketlaw02.BufNone", spec := "bufNone", inPlace := ["internal/abi.NoEscape"], apart := false, narrowed := true }
def BufNoneUptoSaid : Prop := bufNoneUptoRow.holds Try.pinned (OpenSpec.upto bufNoneSpec)

end Rows
end Go.Proofs.Ytpghnadlekafpaa
