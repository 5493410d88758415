/- The reference's Uint. Own work. -/
import Derived.Test.YtmbfcnacoijmaaaCwG
namespace Go.Proofs.Ytmbfcnacoijmaaa.Cw
open Go.RowKit
set_option linter.unusedVariables false
set_option linter.unusedSimpArgs false

/-- A call's own row in a loop: the slice v owns these bytes, in blocks from w on. -/
def Ow (w wr : World) (v : Value) (bs : List UInt8) : Prop := wr.ownsRow w.heap.size 5 1 v bs.length (cellsOf bs)

theorem Ow.push {w wr w1 : World} {v v' : Value} {bs news : List UInt8} {k : Nat} {o : Obj} (hf : Fr w wr (fun _ => False)) (h : Ow w wr v bs) (hk : k = bs.length + news.length) (hown : w1.ownsRow w.heap.size 5 1 v' k (cellsOf bs ++ cellsOf news)) (hg : (wr.alloc o).grownBy w1 v.ownBlock) :
    Ow w w1 v' (bs ++ news) ∧ Fr w w1 (fun _ => False) := by
  subst hk
  constructor
  · unfold Ow cellsOf at *
    rw [List.length_append, List.map_append]
    exact hown
  · refine (hf.alloc o).fresh (S := fun i => v.ownBlock = some i) ?_ (fun i hi => (h.lt i hi).1)
    exact (Fr.refl _ _).grown hg (fun k hk _ => hk)

theorem add128 (n : Nat) : (n : Int) % 128 + 128 = ((hi8 n).toNat : Int) := by
  rw [hi8_toNat]
  omega

end Go.Proofs.Ytmbfcnacoijmaaa.Cw
