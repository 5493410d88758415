/- The reference's Int. Own work. -/
import Derived.Test.YtmbfcnacoijmaaaCrA
import Derived.Deep.RegionWith
import Derived.IntWalk
namespace Go.Proofs.Ytmbfcnacoijmaaa.Cw
open Go.RowKit
set_option linter.unusedVariables false
set_option linter.unusedSimpArgs false

/-- One byte in a block reads as a text of one byte. -/
theorem conv_cell {P : Program} {W : World} {t e g : Nat} {cs : Array Value} (hs : P.underlying t = some (.slice e)) (he : P.underlying e = some (.int .u8)) (b : UInt8) (y : Int) (hy : y = b.toNat) (h : W.heap[g]? = some (.cells #[.int .u8 y] e (0, 0))) :
    ∀ dst, P.underlying dst = some .string → (convert t dst (.slice (some ⟨g, 0, none⟩) 1 1)).run P W = .ok (.string ⟨#[b]⟩) W := by
  intro dst hd
  subst hy
  rw [run_convert_bytes_arg W t e hs he g 0 1 1 [(b.toNat : Int)] rfl (fun i hi => by
    obtain rfl : i = 0 := by omega
    exact (cell_blk h 0).trans rfl) dst hd]
  unfold strOfNums
  simp

theorem str_app (a b : List UInt8) : (⟨a.toArray⟩ : ByteArray) ++ ⟨b.toArray⟩ = ⟨(a ++ b).toArray⟩ := by
  apply ByteArray.ext
  simp

end Go.Proofs.Ytmbfcnacoijmaaa.Cw
