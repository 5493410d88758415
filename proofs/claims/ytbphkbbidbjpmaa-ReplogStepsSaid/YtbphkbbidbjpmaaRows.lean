/-
  No cell of these rows narrows 'for every input' (looked for: loops, veiled, ifaces, maps, wideKeys, modest, calm, conditions, laid).
  DERIVED. THE GIVEN ROWS OF THIS SEAT. 6 by the template 'for every input the law returns true; each argument reads behind the call as it read before'; 0 by the template 'total and deterministic' (their statements: YtbphkbbidbjpmaaTotals.lean).
  GIVEN WITH THE SEED: the statements are not yours to turn. If you find one false, say at which input.
  Laid BY PROGRAM, IN A SANDBOX (cutbox-rows.mjs): the forced cells as the released guide's own fill.sh prints them over the translation 5846a9a5782cb428… (all of the seat's roots in one cut). By AI agents, Wed Nov 11 2026. No macro, syntax, notation, axiom, sorry.
-/
import Derived.Test.YtbphkbbidbjpmaaChecked
import GoSem.Claim
import GoSem.ClaimJoined
import GoSem.ClaimMapViews
import Derived.JoinedTies
import Derived.KernelRfl
namespace Go.Proofs.Ytbphkbbidbjpmaa
/- THE CELL 'sum', in the pinned program and in every row, IS THE sha256 OF THE DUMP (.gsa) THAT YtbphkbbidbjpmaaProg.lean LOADS. Nothing in Lean hashes anything: it is a label: what it is worth is what the hold of that sum in a sandbox is worth. -/
noncomputable def Try.pinned : Pinned := { name := "ytbphkbbidbjpmaa", sum := "5846a9a5782cb428ddc1f6714026efd8055f106f673a54a3f76e1a01ee88074e", checked := Try.checked }
namespace Rows
def none {H : Type} : Left H := { results := [], args := [] }

/-- 'cartularylaw20.ReplogCodes': WHATEVER THE INPUT: true; the input reads as it did. -/
def replogCodesSpec : ChangeSpec := { name := "replogCodes", fn := fun _ => fun
  | [d1, d2] => { results := [.lit (.bool true)], args := [d1, d2] }
  | _ => none }
def replogCodesRow : OpenClaim := { program := "ytbphkbbidbjpmaa", sum := "5846a9a5782cb428ddc1f6714026efd8055f106f673a54a3f76e1a01ee88074e", func := "cartulary/cartularylaw20.ReplogCodes", spec := "replogCodes", apart := false }
def ReplogCodesSaid : Prop := replogCodesRow.holds Try.pinned (OpenSpec.ofChange replogCodesSpec)

/-- ITS FALSE NEIGHBOUR: 'it returns false'. Refute it at one input. -/
def replogCodesWrong : ChangeSpec := { name := "replogCodes", fn := fun _ => fun
  | [d1, d2] => { results := [.lit (.bool false)], args := [d1, d2] }
  | _ => none }
def ReplogCodesWrongFalsely : Prop := replogCodesRow.holds Try.pinned (OpenSpec.ofChange replogCodesWrong)

/-- 'cartularylaw20.ReplogBack': WHATEVER THE INPUT: true; the input reads as it did. -/
def replogBackSpec : ChangeSpec := { name := "replogBack", fn := fun _ => fun
  | [d1, d2] => { results := [.lit (.bool true)], args := [d1, d2] }
  | _ => none }
def replogBackRow : OpenClaim := { program := "ytbphkbbidbjpmaa", sum := "5846a9a5782cb428ddc1f6714026efd8055f106f673a54a3f76e1a01ee88074e", func := "cartulary/cartularylaw20.ReplogBack", spec := "replogBack", apart := false }
def ReplogBackSaid : Prop := replogBackRow.holds Try.pinned (OpenSpec.ofChange replogBackSpec)

/-- ITS FALSE NEIGHBOUR: 'it returns false'. Refute it at one input. -/
def replogBackWrong : ChangeSpec := { name := "replogBack", fn := fun _ => fun
  | [d1, d2] => { results := [.lit (.bool false)], args := [d1, d2] }
  | _ => none }
def ReplogBackWrongFalsely : Prop := replogBackRow.holds Try.pinned (OpenSpec.ofChange replogBackWrong)

/-- 'cartularylaw20.ReplogBegins': WHATEVER THE INPUT: true; the input reads as it did. -/
def replogBeginsSpec : ChangeSpec := { name := "replogBegins", fn := fun _ => fun
  | [d1, d2, d3] => { results := [.lit (.bool true)], args := [d1, d2, d3] }
  | _ => none }
def replogBeginsRow : OpenClaim := { program := "ytbphkbbidbjpmaa", sum := "5846a9a5782cb428ddc1f6714026efd8055f106f673a54a3f76e1a01ee88074e", func := "cartulary/cartularylaw20.ReplogBegins", spec := "replogBegins", apart := false }
def ReplogBeginsSaid : Prop := replogBeginsRow.holds Try.pinned (OpenSpec.ofChange replogBeginsSpec)

/-- ITS FALSE NEIGHBOUR: 'it returns false'. Refute it at one input. -/
def replogBeginsWrong : ChangeSpec := { name := "replogBegins", fn := fun _ => fun
  | [d1, d2, d3] => { results := [.lit (.bool false)], args := [d1, d2, d3] }
  | _ => none }
def ReplogBeginsWrongFalsely : Prop := replogBeginsRow.holds Try.pinned (OpenSpec.ofChange replogBeginsWrong)

/-- 'cartularylaw20.ReplogKeeps': WHATEVER THE INPUT: true; the input reads as it did. -/
def replogKeepsSpec : ChangeSpec := { name := "replogKeeps", fn := fun _ => fun
  | [d1, d2, d3] => { results := [.lit (.bool true)], args := [d1, d2, d3] }
  | _ => none }
def replogKeepsRow : OpenClaim := { program := "ytbphkbbidbjpmaa", sum := "5846a9a5782cb428ddc1f6714026efd8055f106f673a54a3f76e1a01ee88074e", func := "cartulary/cartularylaw20.ReplogKeeps", spec := "replogKeeps", unfollowed := true, recurses := true, apart := false }
def ReplogKeepsSaid : Prop := replogKeepsRow.holds Try.pinned (OpenSpec.ofChange replogKeepsSpec)

/-- ITS FALSE NEIGHBOUR: 'it returns false'. Refute it at one input. -/
def replogKeepsWrong : ChangeSpec := { name := "replogKeeps", fn := fun _ => fun
  | [d1, d2, d3] => { results := [.lit (.bool false)], args := [d1, d2, d3] }
  | _ => none }
def ReplogKeepsWrongFalsely : Prop := replogKeepsRow.holds Try.pinned (OpenSpec.ofChange replogKeepsWrong)

/-- 'cartularylaw20.ReplogSteps': WHATEVER THE INPUT: true; the input reads as it did. -/
def replogStepsSpec : ChangeSpec := { name := "replogSteps", fn := fun _ => fun
  | [d] => { results := [.lit (.bool true)], args := [d] }
  | _ => none }
def replogStepsRow : OpenClaim := { program := "ytbphkbbidbjpmaa", sum := "5846a9a5782cb428ddc1f6714026efd8055f106f673a54a3f76e1a01ee88074e", func := "cartulary/cartularylaw20.ReplogSteps", spec := "replogSteps", unfollowed := true, recurses := true, apart := false }
def ReplogStepsSaid : Prop := replogStepsRow.holds Try.pinned (OpenSpec.ofChange replogStepsSpec)

/-- ITS FALSE NEIGHBOUR: 'it returns false'. Refute it at one input. -/
def replogStepsWrong : ChangeSpec := { name := "replogSteps", fn := fun _ => fun
  | [d] => { results := [.lit (.bool false)], args := [d] }
  | _ => none }
def ReplogStepsWrongFalsely : Prop := replogStepsRow.holds Try.pinned (OpenSpec.ofChange replogStepsWrong)

/-- 'cartularylaw20.ReplogNil': WHATEVER THE INPUT: true; the input reads as it did. -/
def replogNilSpec : ChangeSpec := { name := "replogNil", fn := fun _ => fun
  | [d1, d2] => { results := [.lit (.bool true)], args := [d1, d2] }
  | _ => none }
def replogNilRow : OpenClaim := { program := "ytbphkbbidbjpmaa", sum := "5846a9a5782cb428ddc1f6714026efd8055f106f673a54a3f76e1a01ee88074e", func := "cartulary/cartularylaw20.ReplogNil", spec := "replogNil", unfollowed := true, recurses := true, apart := false }
def ReplogNilSaid : Prop := replogNilRow.holds Try.pinned (OpenSpec.ofChange replogNilSpec)

/-- ITS FALSE NEIGHBOUR: 'it returns false'. Refute it at one input. -/
def replogNilWrong : ChangeSpec := { name := "replogNil", fn := fun _ => fun
  | [d1, d2] => { results := [.lit (.bool false)], args := [d1, d2] }
  | _ => none }
def ReplogNilWrongFalsely : Prop := replogNilRow.holds Try.pinned (OpenSpec.ofChange replogNilWrong)

/- THE SECOND FORM. 'bulk': how many values and letters a reading holds, each counted each time it is reached (what is shared counts as often as it is met; a slice's spare places count too). A statement '..UptoSaid' is the law's where the arguments, and the package variables that the reading takes, are together of bulk at most 1048576: NARROWER than '..Said'. Prove '..Said' where nothing that the law and all that it calls make is longer than what came in: it says more and counts as full. Else prove '..UptoSaid'. A law counts once. -/
mutual
def uptoBulk {H : Type} : DataW H → Nat
  | .lit (.string bytes) => bytes.length + 1
  | .lit _ => 1
  | .nil => 1
  | .ptr d => uptoBulk d + 1
  | .slice elems spare => uptoBulkAll elems + uptoBulkAll spare + 1
  | .agg parts => uptoBulkAll parts + 1
  | .iface _ d => uptoBulk d + 1
  | .map entries => uptoBulkEntries entries + 1
  | .held _ => 1
def uptoBulkAll {H : Type} : List (DataW H) → Nat
  | [] => 0
  | d :: r => uptoBulk d + uptoBulkAll r
def uptoBulkEntries {H : Type} : List (Lit × DataW H) → Nat
  | [] => 0
  | x :: r => uptoBulkEntry x + uptoBulkEntries r
def uptoBulkEntry {H : Type} : Lit × DataW H → Nat
  | (.string bytes, d) => bytes.length + uptoBulk d + 1
  | (_, d) => uptoBulk d + 1
 end
def uptoSmall : (H : Type) → List (DataW H) → Bool := fun _ ds => decide (uptoBulkAll ds ≤ 1048576)
def OpenSpec.upto (s : _root_.Go.ChangeSpec) : _root_.Go.OpenSpec := { _root_.Go.OpenSpec.ofChange s with cond := some uptoSmall }

/-- 'cartularylaw20.ReplogCodes', WHERE WHAT IT READS IS OF BULK AT MOST 1048576: true; the input reads as it did. -/
def replogCodesUptoRow : OpenClaim := { program := "ytbphkbbidbjpmaa", sum := "5846a9a5782cb428ddc1f6714026efd8055f106f673a54a3f76e1a01ee88074e", func := "cartulary/cartularylaw20.ReplogCodes", spec := "replogCodes", apart := false, narrowed := true }
def ReplogCodesUptoSaid : Prop := replogCodesUptoRow.holds Try.pinned (OpenSpec.upto replogCodesSpec)

/-- 'cartularylaw20.ReplogBack', WHERE WHAT IT READS IS OF BULK AT MOST 1048576: true; the input reads as it did. -/
def replogBackUptoRow : OpenClaim := { program := "ytbphkbbidbjpmaa", sum := "5846a9a5782cb428ddc1f6714026efd8055f106f673a54a3f76e1a01ee88074e", func := "cartulary/cartularylaw20.ReplogBack", spec := "replogBack", apart := false, narrowed := true }
def ReplogBackUptoSaid : Prop := replogBackUptoRow.holds Try.pinned (OpenSpec.upto replogBackSpec)

/-- 'cartularylaw20.ReplogBegins', WHERE WHAT IT READS IS OF BULK AT MOST 1048576: true; the input reads as it did. -/
def replogBeginsUptoRow : OpenClaim := { program := "ytbphkbbidbjpmaa", sum := "5846a9a5782cb428ddc1f6714026efd8055f106f673a54a3f76e1a01ee88074e", func := "cartulary/cartularylaw20.ReplogBegins", spec := "replogBegins", apart := false, narrowed := true }
def ReplogBeginsUptoSaid : Prop := replogBeginsUptoRow.holds Try.pinned (OpenSpec.upto replogBeginsSpec)

/-- 'cartularylaw20.ReplogKeeps', WHERE WHAT IT READS IS OF BULK AT MOST 1048576: true; the input reads as it did. -/
def replogKeepsUptoRow : OpenClaim := { program := "ytbphkbbidbjpmaa", sum := "5846a9a5782cb428ddc1f6714026efd8055f106f673a54a3f76e1a01ee88074e", func := "cartulary/cartularylaw20.ReplogKeeps", spec := "replogKeeps", unfollowed := true, recurses := true, apart := false, narrowed := true }
def ReplogKeepsUptoSaid : Prop := replogKeepsUptoRow.holds Try.pinned (OpenSpec.upto replogKeepsSpec)

/-- 'cartularylaw20.ReplogSteps', WHERE WHAT IT READS IS OF BULK AT MOST 1048576: true; the input reads as it did. -/
def replogStepsUptoRow : OpenClaim := { program := "ytbphkbbidbjpmaa", sum := "5846a9a5782cb428ddc1f6714026efd8055f106f673a54a3f76e1a01ee88074e", func := "cartulary/cartularylaw20.ReplogSteps", spec := "replogSteps", unfollowed := true, recurses := true, apart := false, narrowed := true }
def ReplogStepsUptoSaid : Prop := replogStepsUptoRow.holds Try.pinned (OpenSpec.upto replogStepsSpec)

/-- 'cartularylaw20.ReplogNil', WHERE WHAT IT READS IS OF BULK AT MOST 1048576: true; the input reads as it did. -/
def replogNilUptoRow : OpenClaim := { program := "ytbphkbbidbjpmaa", sum := "5846a9a5782cb428ddc1f6714026efd8055f106f673a54a3f76e1a01ee88074e", func := "cartulary/cartularylaw20.ReplogNil", spec := "replogNil", unfollowed := true, recurses := true, apart := false, narrowed := true }
def ReplogNilUptoSaid : Prop := replogNilUptoRow.holds Try.pinned (OpenSpec.upto replogNilSpec)

end Rows
end Go.Proofs.Ytbphkbbidbjpmaa
