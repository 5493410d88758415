/-
  No cell of these rows narrows 'for every input' (looked for: loops, veiled, ifaces, maps, wideKeys, modest, calm, conditions, laid).
  DERIVED. THE GIVEN ROWS OF THIS SEAT. 7 by the template 'for every input the law returns true; each argument reads behind the call as it read before'; 0 by the template 'total and deterministic' (their statements: YtmbfcnacoijmaaaTotals.lean).
  GIVEN WITH THE SEED: the statements are not yours to turn. If you find one false, say at which input.
  Laid BY PROGRAM, IN A SANDBOX (cutbox-rows.mjs): the forced cells as the released guide's own fill.sh prints them over the translation 9fb33161aa3054b8… (all of the seat's roots in one cut). By AI agents, Wed Nov 11 2026. No macro, syntax, notation, axiom, sorry.
-/
import Derived.Test.YtmbfcnacoijmaaaChecked
import GoSem.Claim
import GoSem.ClaimJoined
import GoSem.ClaimMapViews
import Derived.JoinedTies
import Derived.KernelRfl
namespace Go.Proofs.Ytmbfcnacoijmaaa
/- THE CELL 'sum', in the pinned program and in every row, IS THE sha256 OF THE DUMP (.gsa) THAT YtmbfcnacoijmaaaProg.lean LOADS. Nothing in Lean hashes anything: it is a label: what it is worth is what the hold of that sum in a sandbox is worth. -/
noncomputable def Try.pinned : Pinned := { name := "ytmbfcnacoijmaaa", sum := "9fb33161aa3054b8b49ea338dcf5cfa2e6232c6841f75c186d4a421fb05903b3", checked := Try.checked }
namespace Rows
def none {H : Type} : Left H := { results := [], args := [] }

/-- 'cartularylaw12.InodeCodes': WHATEVER THE INPUT: true; the input reads as it did. -/
def inodeCodesSpec : ChangeSpec := { name := "inodeCodes", fn := fun _ => fun
  | [d1, d2] => { results := [.lit (.bool true)], args := [d1, d2] }
  | _ => none }
def inodeCodesRow : OpenClaim := { program := "ytmbfcnacoijmaaa", sum := "9fb33161aa3054b8b49ea338dcf5cfa2e6232c6841f75c186d4a421fb05903b3", func := "cartulary/cartularylaw12.InodeCodes", spec := "inodeCodes", plainKeys := false, apart := false }
def InodeCodesSaid : Prop := inodeCodesRow.holds Try.pinned (OpenSpec.ofChange inodeCodesSpec)

/-- ITS FALSE NEIGHBOUR: 'it returns false'. Refute it at one input. -/
def inodeCodesWrong : ChangeSpec := { name := "inodeCodes", fn := fun _ => fun
  | [d1, d2] => { results := [.lit (.bool false)], args := [d1, d2] }
  | _ => none }
def InodeCodesWrongFalsely : Prop := inodeCodesRow.holds Try.pinned (OpenSpec.ofChange inodeCodesWrong)

/-- 'cartularylaw12.InodeCosts': WHATEVER THE INPUT: true; the input reads as it did. -/
def inodeCostsSpec : ChangeSpec := { name := "inodeCosts", fn := fun _ => fun
  | [d] => { results := [.lit (.bool true)], args := [d] }
  | _ => none }
def inodeCostsRow : OpenClaim := { program := "ytmbfcnacoijmaaa", sum := "9fb33161aa3054b8b49ea338dcf5cfa2e6232c6841f75c186d4a421fb05903b3", func := "cartulary/cartularylaw12.InodeCosts", spec := "inodeCosts", plainKeys := false, apart := false }
def InodeCostsSaid : Prop := inodeCostsRow.holds Try.pinned (OpenSpec.ofChange inodeCostsSpec)

/-- ITS FALSE NEIGHBOUR: 'it returns false'. Refute it at one input. -/
def inodeCostsWrong : ChangeSpec := { name := "inodeCosts", fn := fun _ => fun
  | [d] => { results := [.lit (.bool false)], args := [d] }
  | _ => none }
def InodeCostsWrongFalsely : Prop := inodeCostsRow.holds Try.pinned (OpenSpec.ofChange inodeCostsWrong)

/-- 'cartularylaw12.InodeApart': WHATEVER THE INPUT: true; the input reads as it did. -/
def inodeApartSpec : ChangeSpec := { name := "inodeApart", fn := fun _ => fun
  | [d1, d2, d3] => { results := [.lit (.bool true)], args := [d1, d2, d3] }
  | _ => none }
def inodeApartRow : OpenClaim := { program := "ytmbfcnacoijmaaa", sum := "9fb33161aa3054b8b49ea338dcf5cfa2e6232c6841f75c186d4a421fb05903b3", func := "cartulary/cartularylaw12.InodeApart", spec := "inodeApart", plainKeys := false, apart := false }
def InodeApartSaid : Prop := inodeApartRow.holds Try.pinned (OpenSpec.ofChange inodeApartSpec)

/-- ITS FALSE NEIGHBOUR: 'it returns false'. Refute it at one input. -/
def inodeApartWrong : ChangeSpec := { name := "inodeApart", fn := fun _ => fun
  | [d1, d2, d3] => { results := [.lit (.bool false)], args := [d1, d2, d3] }
  | _ => none }
def InodeApartWrongFalsely : Prop := inodeApartRow.holds Try.pinned (OpenSpec.ofChange inodeApartWrong)

/-- 'cartularylaw12.InodeNames': WHATEVER THE INPUT: true; the input reads as it did. -/
def inodeNamesSpec : ChangeSpec := { name := "inodeNames", fn := fun _ => fun
  | [d1, d2, d3] => { results := [.lit (.bool true)], args := [d1, d2, d3] }
  | _ => none }
def inodeNamesRow : OpenClaim := { program := "ytmbfcnacoijmaaa", sum := "9fb33161aa3054b8b49ea338dcf5cfa2e6232c6841f75c186d4a421fb05903b3", func := "cartulary/cartularylaw12.InodeNames", spec := "inodeNames", plainKeys := false, apart := false }
def InodeNamesSaid : Prop := inodeNamesRow.holds Try.pinned (OpenSpec.ofChange inodeNamesSpec)

/-- ITS FALSE NEIGHBOUR: 'it returns false'. Refute it at one input. -/
def inodeNamesWrong : ChangeSpec := { name := "inodeNames", fn := fun _ => fun
  | [d1, d2, d3] => { results := [.lit (.bool false)], args := [d1, d2, d3] }
  | _ => none }
def InodeNamesWrongFalsely : Prop := inodeNamesRow.holds Try.pinned (OpenSpec.ofChange inodeNamesWrong)

/-- 'cartularylaw12.InodeNamed': WHATEVER THE INPUT: true; the input reads as it did. -/
def inodeNamedSpec : ChangeSpec := { name := "inodeNamed", fn := fun _ => fun
  | [d1, d2, d3] => { results := [.lit (.bool true)], args := [d1, d2, d3] }
  | _ => none }
def inodeNamedRow : OpenClaim := { program := "ytmbfcnacoijmaaa", sum := "9fb33161aa3054b8b49ea338dcf5cfa2e6232c6841f75c186d4a421fb05903b3", func := "cartulary/cartularylaw12.InodeNamed", spec := "inodeNamed", plainKeys := false, apart := false }
def InodeNamedSaid : Prop := inodeNamedRow.holds Try.pinned (OpenSpec.ofChange inodeNamedSpec)

/-- ITS FALSE NEIGHBOUR: 'it returns false'. Refute it at one input. -/
def inodeNamedWrong : ChangeSpec := { name := "inodeNamed", fn := fun _ => fun
  | [d1, d2, d3] => { results := [.lit (.bool false)], args := [d1, d2, d3] }
  | _ => none }
def InodeNamedWrongFalsely : Prop := inodeNamedRow.holds Try.pinned (OpenSpec.ofChange inodeNamedWrong)

/-- 'cartularylaw12.InodeTables': WHATEVER THE INPUT: true; the input reads as it did. -/
def inodeTablesSpec : ChangeSpec := { name := "inodeTables", fn := fun _ => fun
  | [d1, d2, d3] => { results := [.lit (.bool true)], args := [d1, d2, d3] }
  | _ => none }
def inodeTablesRow : OpenClaim := { program := "ytmbfcnacoijmaaa", sum := "9fb33161aa3054b8b49ea338dcf5cfa2e6232c6841f75c186d4a421fb05903b3", func := "cartulary/cartularylaw12.InodeTables", spec := "inodeTables", plainKeys := false, apart := false }
def InodeTablesSaid : Prop := inodeTablesRow.holds Try.pinned (OpenSpec.ofChange inodeTablesSpec)

/-- ITS FALSE NEIGHBOUR: 'it returns false'. Refute it at one input. -/
def inodeTablesWrong : ChangeSpec := { name := "inodeTables", fn := fun _ => fun
  | [d1, d2, d3] => { results := [.lit (.bool false)], args := [d1, d2, d3] }
  | _ => none }
def InodeTablesWrongFalsely : Prop := inodeTablesRow.holds Try.pinned (OpenSpec.ofChange inodeTablesWrong)

/-- 'cartularylaw12.InodeBack': WHATEVER THE INPUT: true; the input reads as it did. -/
def inodeBackSpec : ChangeSpec := { name := "inodeBack", fn := fun _ => fun
  | [d1, d2, d3] => { results := [.lit (.bool true)], args := [d1, d2, d3] }
  | _ => none }
def inodeBackRow : OpenClaim := { program := "ytmbfcnacoijmaaa", sum := "9fb33161aa3054b8b49ea338dcf5cfa2e6232c6841f75c186d4a421fb05903b3", func := "cartulary/cartularylaw12.InodeBack", spec := "inodeBack", plainKeys := false, apart := false }
def InodeBackSaid : Prop := inodeBackRow.holds Try.pinned (OpenSpec.ofChange inodeBackSpec)

/-- ITS FALSE NEIGHBOUR: 'it returns false'. Refute it at one input. -/
def inodeBackWrong : ChangeSpec := { name := "inodeBack", fn := fun _ => fun
  | [d1, d2, d3] => { results := [.lit (.bool false)], args := [d1, d2, d3] }
  | _ => none }
def InodeBackWrongFalsely : Prop := inodeBackRow.holds Try.pinned (OpenSpec.ofChange inodeBackWrong)

/- THE SECOND FORM. 'bulk': how many values and letters a reading holds, each counted each time it is reached (what is shared counts as often as it is met; a slice's spare places count too). A statement '..UptoSaid' is the law's where the arguments, and the package variables that the reading takes, are together of bulk at most 1048576: NARROWER than '..Said'. Prove '..Said' where nothing that the law and all that it calls make is longer than what came in: it says more and counts as full. Else prove '..UptoSaid'. A law counts once. -/
mutual
def uptoBulk {H : Type} : DataW H → Nat
  | .lit (.string bytes) => bytes.length + 1
  | .lit _ => 1
  | .nil => 1
  | .ptr d => uptoBulk d + 1
  | .slice elems spare => uptoBulkAll elems + uptoBulkAll spare + 1
  | .agg parts => uptoBulkAll parts + 1
  | .iface _ d => uptoBulk d + 1
  | .map entries => uptoBulkEntries entries + 1
  | .held _ => 1
def uptoBulkAll {H : Type} : List (DataW H) → Nat
  | [] => 0
  | d :: r => uptoBulk d + uptoBulkAll r
def uptoBulkEntries {H : Type} : List (Lit × DataW H) → Nat
  | [] => 0
  | x :: r => uptoBulkEntry x + uptoBulkEntries r
def uptoBulkEntry {H : Type} : Lit × DataW H → Nat
  | (.string bytes, d) => bytes.length + uptoBulk d + 1
  | (_, d) => uptoBulk d + 1
 end
def uptoSmall : (H : Type) → List (DataW H) → Bool := fun _ ds => decide (uptoBulkAll ds ≤ 1048576)
def OpenSpec.upto (s : _root_.Go.ChangeSpec) : _root_.Go.OpenSpec := { _root_.Go.OpenSpec.ofChange s with cond := some uptoSmall }

/-- 'cartularylaw12.InodeCodes', WHERE WHAT IT READS IS OF BULK AT MOST 1048576: true; the input reads as it did. -/
def inodeCodesUptoRow : OpenClaim := { program := "ytmbfcnacoijmaaa", sum := "9fb33161aa3054b8b49ea338dcf5cfa2e6232c6841f75c186d4a421fb05903b3", func := "cartulary/cartularylaw12.InodeCodes", spec := "inodeCodes", plainKeys := false, apart := false, narrowed := true }
def InodeCodesUptoSaid : Prop := inodeCodesUptoRow.holds Try.pinned (OpenSpec.upto inodeCodesSpec)

/-- 'cartularylaw12.InodeCosts', WHERE WHAT IT READS IS OF BULK AT MOST 1048576: true; the input reads as it did. -/
def inodeCostsUptoRow : OpenClaim := { program := "ytmbfcnacoijmaaa", sum := "9fb33161aa3054b8b49ea338dcf5cfa2e6232c6841f75c186d4a421fb05903b3", func := "cartulary/cartularylaw12.InodeCosts", spec := "inodeCosts", plainKeys := false, apart := false, narrowed := true }
def InodeCostsUptoSaid : Prop := inodeCostsUptoRow.holds Try.pinned (OpenSpec.upto inodeCostsSpec)

/-- 'cartularylaw12.InodeApart', WHERE WHAT IT READS IS OF BULK AT MOST 1048576: true; the input reads as it did. -/
def inodeApartUptoRow : OpenClaim := { program := "ytmbfcnacoijmaaa", sum := "9fb33161aa3054b8b49ea338dcf5cfa2e6232c6841f75c186d4a421fb05903b3", func := "cartulary/cartularylaw12.InodeApart", spec := "inodeApart", plainKeys := false, apart := false, narrowed := true }
def InodeApartUptoSaid : Prop := inodeApartUptoRow.holds Try.pinned (OpenSpec.upto inodeApartSpec)

/-- 'cartularylaw12.InodeNames', WHERE WHAT IT READS IS OF BULK AT MOST 1048576: true; the input reads as it did. -/
def inodeNamesUptoRow : OpenClaim := { program := "ytmbfcnacoijmaaa", sum := "9fb33161aa3054b8b49ea338dcf5cfa2e6232c6841f75c186d4a421fb05903b3", func := "cartulary/cartularylaw12.InodeNames", spec := "inodeNames", plainKeys := false, apart := false, narrowed := true }
def InodeNamesUptoSaid : Prop := inodeNamesUptoRow.holds Try.pinned (OpenSpec.upto inodeNamesSpec)

/-- 'cartularylaw12.InodeNamed', WHERE WHAT IT READS IS OF BULK AT MOST 1048576: true; the input reads as it did. -/
def inodeNamedUptoRow : OpenClaim := { program := "ytmbfcnacoijmaaa", sum := "9fb33161aa3054b8b49ea338dcf5cfa2e6232c6841f75c186d4a421fb05903b3", func := "cartulary/cartularylaw12.InodeNamed", spec := "inodeNamed", plainKeys := false, apart := false, narrowed := true }
def InodeNamedUptoSaid : Prop := inodeNamedUptoRow.holds Try.pinned (OpenSpec.upto inodeNamedSpec)

/-- 'cartularylaw12.InodeTables', WHERE WHAT IT READS IS OF BULK AT MOST 1048576: true; the input reads as it did. -/
def inodeTablesUptoRow : OpenClaim := { program := "ytmbfcnacoijmaaa", sum := "9fb33161aa3054b8b49ea338dcf5cfa2e6232c6841f75c186d4a421fb05903b3", func := "cartulary/cartularylaw12.InodeTables", spec := "inodeTables", plainKeys := false, apart := false, narrowed := true }
def InodeTablesUptoSaid : Prop := inodeTablesUptoRow.holds Try.pinned (OpenSpec.upto inodeTablesSpec)

/-- 'cartularylaw12.InodeBack', WHERE WHAT IT READS IS OF BULK AT MOST 1048576: true; the input reads as it did. -/
def inodeBackUptoRow : OpenClaim := { program := "ytmbfcnacoijmaaa", sum := "9fb33161aa3054b8b49ea338dcf5cfa2e6232c6841f75c186d4a421fb05903b3", func := "cartulary/cartularylaw12.InodeBack", spec := "inodeBack", plainKeys := false, apart := false, narrowed := true }
def InodeBackUptoSaid : Prop := inodeBackUptoRow.holds Try.pinned (OpenSpec.upto inodeBackSpec)

end Rows
end Go.Proofs.Ytmbfcnacoijmaaa
