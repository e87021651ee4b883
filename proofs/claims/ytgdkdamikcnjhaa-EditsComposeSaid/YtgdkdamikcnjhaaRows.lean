/-
  No cell of these rows narrows 'for every input' (looked for: loops, veiled, ifaces, maps, wideKeys, modest, calm, conditions, laid).
  DERIVED. THE GIVEN ROWS OF THIS SEAT. 5 by the template 'for every input the law returns true; each argument reads behind the call as it read before'; 0 by the template 'total and deterministic' (their statements: YtgdkdamikcnjhaaTotals.lean).
  GIVEN WITH THE SEED: the statements are not yours to turn. If you find one false, say at which input.
  Laid BY PROGRAM, IN A SANDBOX (cutbox-rows.mjs): the forced cells as the released guide's own fill.sh prints them over the translation 856638bc6280b529… (all of the seat's roots in one cut). By AI agents, Wed Nov 11 2026. No macro, syntax, notation, axiom, sorry.
-/
import Derived.Test.YtgdkdamikcnjhaaChecked
import GoSem.Claim
import GoSem.ClaimJoined
import GoSem.ClaimMapViews
import Derived.JoinedTies
import Derived.KernelRfl
namespace Go.Proofs.Ytgdkdamikcnjhaa
/- THE CELL 'sum', in the pinned program and in every row, IS THE sha256 OF THE DUMP (.gsa) THAT YtgdkdamikcnjhaaProg.lean LOADS. Nothing in Lean hashes anything: it is a label: what it is worth is what the hold of that sum in a sandbox is worth. -/
noncomputable def Try.pinned : Pinned := { name := "ytgdkdamikcnjhaa", sum := "856638bc6280b529ee44643f38f562d4afd4932ebb049ff6ef466a05b03a9208", checked := Try.checked }
namespace Rows
def none {H : Type} : Left H := { results := [], args := [] }

/-- 'frisketlaw01.EditsApply': WHATEVER THE INPUT: true; the input reads as it did. -/
def editsApplySpec : ChangeSpec := { name := "editsApply", fn := fun _ => fun
  | [d1, d2] => { results := [.lit (.bool true)], args := [d1, d2] }
  | _ => none }
def editsApplyRow : OpenClaim := { program := "ytgdkdamikcnjhaa", sum := "856638bc6280b529ee44643f38f562d4afd4932ebb049ff6ef466a05b03a9208", func := "frisket/frisketlaw01.EditsApply", spec := "editsApply", inPlace := ["internal/abi.NoEscape"], apart := false }
def EditsApplySaid : Prop := editsApplyRow.holds Try.pinned (OpenSpec.ofChange editsApplySpec)

/-- ITS FALSE NEIGHBOUR: 'it returns false'. Refute it at one input. -/
def editsApplyWrong : ChangeSpec := { name := "editsApply", fn := fun _ => fun
  | [d1, d2] => { results := [.lit (.bool false)], args := [d1, d2] }
  | _ => none }
def EditsApplyWrongFalsely : Prop := editsApplyRow.holds Try.pinned (OpenSpec.ofChange editsApplyWrong)

/-- 'frisketlaw01.EditsMove': WHATEVER THE INPUT: true; the input reads as it did. -/
def editsMoveSpec : ChangeSpec := { name := "editsMove", fn := fun _ => fun
  | [d1, d2, d3] => { results := [.lit (.bool true)], args := [d1, d2, d3] }
  | _ => none }
def editsMoveRow : OpenClaim := { program := "ytgdkdamikcnjhaa", sum := "856638bc6280b529ee44643f38f562d4afd4932ebb049ff6ef466a05b03a9208", func := "frisket/frisketlaw01.EditsMove", spec := "editsMove", inPlace := ["internal/abi.NoEscape"], apart := false }
def EditsMoveSaid : Prop := editsMoveRow.holds Try.pinned (OpenSpec.ofChange editsMoveSpec)

/-- ITS FALSE NEIGHBOUR: 'it returns false'. Refute it at one input. -/
def editsMoveWrong : ChangeSpec := { name := "editsMove", fn := fun _ => fun
  | [d1, d2, d3] => { results := [.lit (.bool false)], args := [d1, d2, d3] }
  | _ => none }
def EditsMoveWrongFalsely : Prop := editsMoveRow.holds Try.pinned (OpenSpec.ofChange editsMoveWrong)

/-- 'frisketlaw01.EditsLean': WHATEVER THE INPUT: true; the input reads as it did. -/
def editsLeanSpec : ChangeSpec := { name := "editsLean", fn := fun _ => fun
  | [d1, d2] => { results := [.lit (.bool true)], args := [d1, d2] }
  | _ => none }
def editsLeanRow : OpenClaim := { program := "ytgdkdamikcnjhaa", sum := "856638bc6280b529ee44643f38f562d4afd4932ebb049ff6ef466a05b03a9208", func := "frisket/frisketlaw01.EditsLean", spec := "editsLean", inPlace := ["internal/abi.NoEscape"], unfollowed := true, recurses := true, apart := false }
def EditsLeanSaid : Prop := editsLeanRow.holds Try.pinned (OpenSpec.ofChange editsLeanSpec)

/-- ITS FALSE NEIGHBOUR: 'it returns false'. Refute it at one input. -/
def editsLeanWrong : ChangeSpec := { name := "editsLean", fn := fun _ => fun
  | [d1, d2] => { results := [.lit (.bool false)], args := [d1, d2] }
  | _ => none }
def EditsLeanWrongFalsely : Prop := editsLeanRow.holds Try.pinned (OpenSpec.ofChange editsLeanWrong)

/-- 'frisketlaw01.EditsBetween': WHATEVER THE INPUT: true; the input reads as it did. -/
def editsBetweenSpec : ChangeSpec := { name := "editsBetween", fn := fun _ => fun
  | [d1, d2] => { results := [.lit (.bool true)], args := [d1, d2] }
  | _ => none }
def editsBetweenRow : OpenClaim := { program := "ytgdkdamikcnjhaa", sum := "856638bc6280b529ee44643f38f562d4afd4932ebb049ff6ef466a05b03a9208", func := "frisket/frisketlaw01.EditsBetween", spec := "editsBetween", inPlace := ["internal/abi.NoEscape"], unfollowed := true, recurses := true, apart := false }
def EditsBetweenSaid : Prop := editsBetweenRow.holds Try.pinned (OpenSpec.ofChange editsBetweenSpec)

/-- ITS FALSE NEIGHBOUR: 'it returns false'. Refute it at one input. -/
def editsBetweenWrong : ChangeSpec := { name := "editsBetween", fn := fun _ => fun
  | [d1, d2] => { results := [.lit (.bool false)], args := [d1, d2] }
  | _ => none }
def EditsBetweenWrongFalsely : Prop := editsBetweenRow.holds Try.pinned (OpenSpec.ofChange editsBetweenWrong)

/-- 'frisketlaw01.EditsCompose': WHATEVER THE INPUT: true; the input reads as it did. -/
def editsComposeSpec : ChangeSpec := { name := "editsCompose", fn := fun _ => fun
  | [d1, d2, d3] => { results := [.lit (.bool true)], args := [d1, d2, d3] }
  | _ => none }
def editsComposeRow : OpenClaim := { program := "ytgdkdamikcnjhaa", sum := "856638bc6280b529ee44643f38f562d4afd4932ebb049ff6ef466a05b03a9208", func := "frisket/frisketlaw01.EditsCompose", spec := "editsCompose", inPlace := ["internal/abi.NoEscape"], unfollowed := true, recurses := true, apart := false }
def EditsComposeSaid : Prop := editsComposeRow.holds Try.pinned (OpenSpec.ofChange editsComposeSpec)

/-- ITS FALSE NEIGHBOUR: 'it returns false'. Refute it at one input. -/
def editsComposeWrong : ChangeSpec := { name := "editsCompose", fn := fun _ => fun
  | [d1, d2, d3] => { results := [.lit (.bool false)], args := [d1, d2, d3] }
  | _ => none }
def EditsComposeWrongFalsely : Prop := editsComposeRow.holds Try.pinned (OpenSpec.ofChange editsComposeWrong)

/- THE SECOND FORM. 'bulk': how many values and letters a reading holds, each counted each time it is reached (what is shared counts as often as it is met; a slice's spare places count too). A statement '..UptoSaid' is the law's where the arguments, and the package variables that the reading takes, are together of bulk at most 1048576: NARROWER than '..Said'. Prove '..Said' where nothing that the law and all that it calls make is longer than what came in: it says more and counts as full. Else prove '..UptoSaid'. A law counts once. -/
mutual
def uptoBulk {H : Type} : DataW H → Nat
  | .lit (.string bytes) => bytes.length + 1
  | .lit _ => 1
  | .nil => 1
  | .ptr d => uptoBulk d + 1
  | .slice elems spare => uptoBulkAll elems + uptoBulkAll spare + 1
  | .agg parts => uptoBulkAll parts + 1
  | .iface _ d => uptoBulk d + 1
  | .map entries => uptoBulkEntries entries + 1
  | .held _ => 1
def uptoBulkAll {H : Type} : List (DataW H) → Nat
  | [] => 0
  | d :: r => uptoBulk d + uptoBulkAll r
def uptoBulkEntries {H : Type} : List (Lit × DataW H) → Nat
  | [] => 0
  | x :: r => uptoBulkEntry x + uptoBulkEntries r
def uptoBulkEntry {H : Type} : Lit × DataW H → Nat
  | (.string bytes, d) => bytes.length + uptoBulk d + 1
  | (_, d) => uptoBulk d + 1
 end
def uptoSmall : (H : Type) → List (DataW H) → Bool := fun _ ds => decide (uptoBulkAll ds ≤ 1048576)
def OpenSpec.upto (s : _root_.Go.ChangeSpec) : _root_.Go.OpenSpec := { _root_.Go.OpenSpec.ofChange s with cond := some uptoSmall }

/-- 'frisketlaw01.EditsApply', WHERE WHAT IT READS IS OF BULK AT MOST 1048576: true; the input reads as it did. -/
def editsApplyUptoRow : OpenClaim := { program := "ytgdkdamikcnjhaa", sum := "856638bc6280b529ee44643f38f562d4afd4932ebb049ff6ef466a05b03a9208", func := "frisket/frisketlaw01.EditsApply", spec := "editsApply", inPlace := ["internal/abi.NoEscape"], apart := false, narrowed := true }
def EditsApplyUptoSaid : Prop := editsApplyUptoRow.holds Try.pinned (OpenSpec.upto editsApplySpec)

/-- 'frisketlaw01.EditsMove', WHERE WHAT IT READS IS OF BULK AT MOST 1048576: true; the input reads as it did. -/
def editsMoveUptoRow : OpenClaim := { program := "ytgdkdamikcnjhaa", sum := "856638bc6280b529ee44643f38f562d4afd4932ebb049ff6ef466a05b03a9208", func := "frisket/frisketlaw01.EditsMove", spec := "editsMove", inPlace := ["internal/abi.NoEscape"], apart := false, narrowed := true }
def EditsMoveUptoSaid : Prop := editsMoveUptoRow.holds Try.pinned (OpenSpec.upto editsMoveSpec)

/-- 'frisketlaw01.EditsLean', WHERE WHAT IT READS IS OF BULK AT MOST 1048576: true; the input reads as it did. -/
def editsLeanUptoRow : OpenClaim := { program := "ytgdkdamikcnjhaa", sum := "856638bc6280b529ee44643f38f562d4afd4932ebb049ff6ef466a05b03a9208", func := "frisket/frisketlaw01.EditsLean", spec := "editsLean", inPlace := ["internal/abi.NoEscape"], unfollowed := true, recurses := true, apart := false, narrowed := true }
def EditsLeanUptoSaid : Prop := editsLeanUptoRow.holds Try.pinned (OpenSpec.upto editsLeanSpec)

/-- 'frisketlaw01.EditsBetween', WHERE WHAT IT READS IS OF BULK AT MOST 1048576: true; the input reads as it did. -/
def editsBetweenUptoRow : OpenClaim := { program := "ytgdkdamikcnjhaa", sum := "856638bc6280b529ee44643f38f562d4afd4932ebb049ff6ef466a05b03a9208", func := "frisket/frisketlaw01.EditsBetween", spec := "editsBetween", inPlace := ["internal/abi.NoEscape"], unfollowed := true, recurses := true, apart := false, narrowed := true }
def EditsBetweenUptoSaid : Prop := editsBetweenUptoRow.holds Try.pinned (OpenSpec.upto editsBetweenSpec)

/-- 'frisketlaw01.EditsCompose', WHERE WHAT IT READS IS OF BULK AT MOST 1048576: true; the input reads as it did. -/
def editsComposeUptoRow : OpenClaim := { program := "ytgdkdamikcnjhaa", sum := "856638bc6280b529ee44643f38f562d4afd4932ebb049ff6ef466a05b03a9208", func := "frisket/frisketlaw01.EditsCompose", spec := "editsCompose", inPlace := ["internal/abi.NoEscape"], unfollowed := true, recurses := true, apart := false, narrowed := true }
def EditsComposeUptoSaid : Prop := editsComposeUptoRow.holds Try.pinned (OpenSpec.upto editsComposeSpec)

end Rows
end Go.Proofs.Ytgdkdamikcnjhaa
