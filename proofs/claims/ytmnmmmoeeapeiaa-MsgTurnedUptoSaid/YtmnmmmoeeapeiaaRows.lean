/-
  No cell of these rows narrows 'for every input' (looked for: loops, veiled, ifaces, maps, wideKeys, modest, calm, conditions, laid).
  DERIVED. THE GIVEN ROWS OF THIS SEAT. 4 by the template 'for every input the law returns true; each argument reads behind the call as it read before'; 0 by the template 'total and deterministic' (their statements: YtmnmmmoeeapeiaaTotals.lean).
  GIVEN WITH THE SEED: the statements are not yours to turn. If you find one false, say at which input.
  Laid BY PROGRAM, IN A SANDBOX (cutbox-rows.mjs): the forced cells as the released guide's own fill.sh prints them over the translation a115ab82aa0cf839… (all of the seat's roots in one cut). By AI agents, Wed Nov 11 2026. No macro, syntax, notation, axiom, sorry.
-/
import Derived.Test.YtmnmmmoeeapeiaaChecked
import GoSem.Claim
import GoSem.ClaimJoined
import GoSem.ClaimMapViews
import Derived.JoinedTies
import Derived.KernelRfl
namespace Go.Proofs.Ytmnmmmoeeapeiaa
/- THE CELL 'sum', in the pinned program and in every row, IS THE sha256 OF THE DUMP (.gsa) THAT YtmnmmmoeeapeiaaProg.lean LOADS. Nothing in Lean hashes anything: it is a label: what it is worth is what the hold of that sum in a sandbox is worth. -/
noncomputable def Try.pinned : Pinned := { name := "ytmnmmmoeeapeiaa", sum := "a115ab82aa0cf839b613fbf3ae8df7812fc0d3c672a3d1e7d57f18443aaeba12", checked := Try.checked }
namespace Rows
def none {H : Type} : Left H := { results := [], args := [] }

/-- 'cartularylaw23.MsgBack': WHATEVER THE INPUT: true; the input reads as it did. -/
def msgBackSpec : ChangeSpec := { name := "msgBack", fn := fun _ => fun
  | [d1, d2] => { results := [.lit (.bool true)], args := [d1, d2] }
  | _ => none }
def msgBackRow : OpenClaim := { program := "ytmnmmmoeeapeiaa", sum := "a115ab82aa0cf839b613fbf3ae8df7812fc0d3c672a3d1e7d57f18443aaeba12", func := "cartulary/cartularylaw23.MsgBack", spec := "msgBack", inPlace := ["internal/abi.NoEscape"], unfollowed := true, recurses := true, apart := false }
def MsgBackSaid : Prop := msgBackRow.holds Try.pinned (OpenSpec.ofChange msgBackSpec)

/-- ITS FALSE NEIGHBOUR: 'it returns false'. Refute it at one input. -/
def msgBackWrong : ChangeSpec := { name := "msgBack", fn := fun _ => fun
  | [d1, d2] => { results := [.lit (.bool false)], args := [d1, d2] }
  | _ => none }
def MsgBackWrongFalsely : Prop := msgBackRow.holds Try.pinned (OpenSpec.ofChange msgBackWrong)

/-- 'cartularylaw23.MsgTurned': WHATEVER THE INPUT: true; the input reads as it did. -/
def msgTurnedSpec : ChangeSpec := { name := "msgTurned", fn := fun _ => fun
  | [d1, d2, d3] => { results := [.lit (.bool true)], args := [d1, d2, d3] }
  | _ => none }
def msgTurnedRow : OpenClaim := { program := "ytmnmmmoeeapeiaa", sum := "a115ab82aa0cf839b613fbf3ae8df7812fc0d3c672a3d1e7d57f18443aaeba12", func := "cartulary/cartularylaw23.MsgTurned", spec := "msgTurned", inPlace := ["internal/abi.NoEscape"], unfollowed := true, recurses := true, apart := false }
def MsgTurnedSaid : Prop := msgTurnedRow.holds Try.pinned (OpenSpec.ofChange msgTurnedSpec)

/-- ITS FALSE NEIGHBOUR: 'it returns false'. Refute it at one input. -/
def msgTurnedWrong : ChangeSpec := { name := "msgTurned", fn := fun _ => fun
  | [d1, d2, d3] => { results := [.lit (.bool false)], args := [d1, d2, d3] }
  | _ => none }
def MsgTurnedWrongFalsely : Prop := msgTurnedRow.holds Try.pinned (OpenSpec.ofChange msgTurnedWrong)

/-- 'cartularylaw23.MsgCodes': WHATEVER THE INPUT: true; the input reads as it did. -/
def msgCodesSpec : ChangeSpec := { name := "msgCodes", fn := fun _ => fun
  | [d1, d2] => { results := [.lit (.bool true)], args := [d1, d2] }
  | _ => none }
def msgCodesRow : OpenClaim := { program := "ytmnmmmoeeapeiaa", sum := "a115ab82aa0cf839b613fbf3ae8df7812fc0d3c672a3d1e7d57f18443aaeba12", func := "cartulary/cartularylaw23.MsgCodes", spec := "msgCodes", inPlace := ["internal/abi.NoEscape"], unfollowed := true, recurses := true, apart := false }
def MsgCodesSaid : Prop := msgCodesRow.holds Try.pinned (OpenSpec.ofChange msgCodesSpec)

/-- ITS FALSE NEIGHBOUR: 'it returns false'. Refute it at one input. -/
def msgCodesWrong : ChangeSpec := { name := "msgCodes", fn := fun _ => fun
  | [d1, d2] => { results := [.lit (.bool false)], args := [d1, d2] }
  | _ => none }
def MsgCodesWrongFalsely : Prop := msgCodesRow.holds Try.pinned (OpenSpec.ofChange msgCodesWrong)

/-- 'cartularylaw23.MsgSize': WHATEVER THE INPUT: true; the input reads as it did. -/
def msgSizeSpec : ChangeSpec := { name := "msgSize", fn := fun _ => fun
  | [d1, d2] => { results := [.lit (.bool true)], args := [d1, d2] }
  | _ => none }
def msgSizeRow : OpenClaim := { program := "ytmnmmmoeeapeiaa", sum := "a115ab82aa0cf839b613fbf3ae8df7812fc0d3c672a3d1e7d57f18443aaeba12", func := "cartulary/cartularylaw23.MsgSize", spec := "msgSize", inPlace := ["internal/abi.NoEscape"], unfollowed := true, recurses := true, apart := false }
def MsgSizeSaid : Prop := msgSizeRow.holds Try.pinned (OpenSpec.ofChange msgSizeSpec)

/-- ITS FALSE NEIGHBOUR: 'it returns false'. Refute it at one input. -/
def msgSizeWrong : ChangeSpec := { name := "msgSize", fn := fun _ => fun
  | [d1, d2] => { results := [.lit (.bool false)], args := [d1, d2] }
  | _ => none }
def MsgSizeWrongFalsely : Prop := msgSizeRow.holds Try.pinned (OpenSpec.ofChange msgSizeWrong)

/- THE SECOND FORM. 'bulk': how many values and letters a reading holds, each counted each time it is reached (what is shared counts as often as it is met; a slice's spare places count too). A statement '..UptoSaid' is the law's where the arguments, and the package variables that the reading takes, are together of bulk at most 1048576: NARROWER than '..Said'. Prove '..Said' where nothing that the law and all that it calls make is longer than what came in: it says more and counts as full. Else prove '..UptoSaid'. A law counts once. -/
mutual
def uptoBulk {H : Type} : DataW H → Nat
  | .lit (.string bytes) => bytes.length + 1
  | .lit _ => 1
  | .nil => 1
  | .ptr d => uptoBulk d + 1
  | .slice elems spare => uptoBulkAll elems + uptoBulkAll spare + 1
  | .agg parts => uptoBulkAll parts + 1
  | .iface _ d => uptoBulk d + 1
  | .map entries => uptoBulkEntries entries + 1
  | .held _ => 1
def uptoBulkAll {H : Type} : List (DataW H) → Nat
  | [] => 0
  | d :: r => uptoBulk d + uptoBulkAll r
def uptoBulkEntries {H : Type} : List (Lit × DataW H) → Nat
  | [] => 0
  | x :: r => uptoBulkEntry x + uptoBulkEntries r
def uptoBulkEntry {H : Type} : Lit × DataW H → Nat
  | (.string bytes, d) => bytes.length + uptoBulk d + 1
  | (_, d) => uptoBulk d + 1
 end
def uptoSmall : (H : Type) → List (DataW H) → Bool := fun _ ds => decide (uptoBulkAll ds ≤ 1048576)
def OpenSpec.upto (s : _root_.Go.ChangeSpec) : _root_.Go.OpenSpec := { _root_.Go.OpenSpec.ofChange s with cond := some uptoSmall }

/-- 'cartularylaw23.MsgBack', WHERE WHAT IT READS IS OF BULK AT MOST 1048576: true; the input reads as it did. -/
def msgBackUptoRow : OpenClaim := { program := "ytmnmmmoeeapeiaa", sum := "a115ab82aa0cf839b613fbf3ae8df7812fc0d3c672a3d1e7d57f18443aaeba12", func := "cartulary/cartularylaw23.MsgBack", spec := "msgBack", inPlace := ["internal/abi.NoEscape"], unfollowed := true, recurses := true, apart := false, narrowed := true }
def MsgBackUptoSaid : Prop := msgBackUptoRow.holds Try.pinned (OpenSpec.upto msgBackSpec)

/-- 'cartularylaw23.MsgTurned', WHERE WHAT IT READS IS OF BULK AT MOST 1048576: true; the input reads as it did. -/
def msgTurnedUptoRow : OpenClaim := { program := "ytmnmmmoeeapeiaa", sum := "a115ab82aa0cf839b613fbf3ae8df7812fc0d3c672a3d1e7d57f18443aaeba12", func := "cartulary/cartularylaw23.MsgTurned", spec := "msgTurned", inPlace := ["internal/abi.NoEscape"], unfollowed := true, recurses := true, apart := false, narrowed := true }
def MsgTurnedUptoSaid : Prop := msgTurnedUptoRow.holds Try.pinned (OpenSpec.upto msgTurnedSpec)

/-- 'cartularylaw23.MsgCodes', WHERE WHAT IT READS IS OF BULK AT MOST 1048576: true; the input reads as it did. -/
def msgCodesUptoRow : OpenClaim := { program := "ytmnmmmoeeapeiaa", sum := "a115ab82aa0cf839b613fbf3ae8df7812fc0d3c672a3d1e7d57f18443aaeba12", func := "cartulary/cartularylaw23.MsgCodes", spec := "msgCodes", inPlace := ["internal/abi.NoEscape"], unfollowed := true, recurses := true, apart := false, narrowed := true }
def MsgCodesUptoSaid : Prop := msgCodesUptoRow.holds Try.pinned (OpenSpec.upto msgCodesSpec)

/-- 'cartularylaw23.MsgSize', WHERE WHAT IT READS IS OF BULK AT MOST 1048576: true; the input reads as it did. -/
def msgSizeUptoRow : OpenClaim := { program := "ytmnmmmoeeapeiaa", sum := "a115ab82aa0cf839b613fbf3ae8df7812fc0d3c672a3d1e7d57f18443aaeba12", func := "cartulary/cartularylaw23.MsgSize", spec := "msgSize", inPlace := ["internal/abi.NoEscape"], unfollowed := true, recurses := true, apart := false, narrowed := true }
def MsgSizeUptoSaid : Prop := msgSizeUptoRow.holds Try.pinned (OpenSpec.upto msgSizeSpec)

end Rows
end Go.Proofs.Ytmnmmmoeeapeiaa
