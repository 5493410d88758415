/- replog's Encode. Own work; printed by wip/mkenc.py. -/
import Derived.Test.YtmbfcnacoijmaaaRpA
import Derived.Test.YtmbfcnacoijmaaaCrD
import Derived.Handy
namespace Go.Proofs.Ytmbfcnacoijmaaa.Cw
open Go.RowKit
set_option linter.unusedVariables false
set_option linter.unusedSimpArgs false

/-- A block of another type is none of the writer's. -/
theorem Wr.apart {w : World} {g i : Nat} {v : Value} {bs : List UInt8} {cs : Array Value} {t : TypeId} (h : Wr w g v bs) (hi : w.heap[i]? = some (.cells cs t (0, 0))) (h1 : t ≠ 5) (h2 : t ≠ 78) : ¬ WS g v i := by
  intro hc
  rcases hc with rfl | hc
  · have h3 := h.1.symm.trans hi
    injection h3 with h3
    injection h3 with _ h3
    exact h2 h3.symm
  · rcases h.2.2 with ⟨rfl, _⟩ | ⟨g1, cap1, cur1, rfl, _, hg1, _⟩
    · cases hc
    injection hc with hc
    subst hc
    have h3 := hg1.symm.trans hi
    injection h3 with h3
    injection h3 with _ h3
    exact h1 h3.symm

end Go.Proofs.Ytmbfcnacoijmaaa.Cw
