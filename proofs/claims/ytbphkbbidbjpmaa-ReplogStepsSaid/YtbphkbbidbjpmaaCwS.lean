/- What the statements of layer 2 ask first: two numbers and a text are written and read. Own work. -/
import Derived.Test.YtbphkbbidbjpmaaCwI
import Derived.Test.YtbphkbbidbjpmaaCwE
namespace Go.Proofs.Ytbphkbbidbjpmaa.Cw
open Go.RowKit
set_option linter.unusedVariables false
set_option linter.unusedSimpArgs false

theorem s_uv : ([] : List UInt8) ++ uv 300 ++ uv (zig (-1)) ++ (uv 2 ++ [97, 98]) = [172, 2, 1, 2, 97, 98] := by
  rw [uv_big 300 (by decide), show 300 / 128 = 2 from rfl, uv_small 2 (by decide), show zig (-1) = 1 from rfl, uv_small 1 (by decide)]
  rfl
theorem s_r1 : rdN 9 127 ⟨#[172, 2, 1, 2, 97, 98]⟩ 0 = (300, 0, ⟨#[1, 2, 97, 98]⟩, 0) := by kernel_rfl
theorem s_r2 : rdN 10 1 ⟨#[1, 2, 97, 98]⟩ 0 = (1, 0, ⟨#[2, 97, 98]⟩, 0) := by kernel_rfl
theorem s_r3 : rdT 9 ⟨#[2, 97, 98]⟩ 0 = (⟨#[97, 98]⟩, 0, ⟨#[]⟩, 0) := by kernel_rfl

theorem len2 (a b : List UInt8) (ha : a.length ≤ 10) (hb : b.length ≤ 10) : Len ([] ++ a) 10 ∧ Len ([] ++ a ++ b) 70000 := by
  unfold Len
  simp only [List.length_append, List.length_nil]
  omega
theorem s_z : zig (-1) = 1 := rfl
theorem s_l1 : Len ([] ++ uv 300) 10 := (len2 (uv 300) (uv 300) (uv_len10 300 (by decide)) (uv_len10 300 (by decide))).1
theorem s_l2 : Len ([] ++ uv 300 ++ uv (zig (-1))) 70000 := by
  rw [s_z]
  exact (len2 (uv 300) (uv 1) (uv_len10 300 (by decide)) (uv_len10 1 (by decide))).2

theorem Wrote.out {w w' : World} {g : Nat} {v : Value} {bs : List UInt8} (h : Wrote w w' g v bs) : ∃ v', Wr w' g v' bs ∧ Fr w w' (WS g v) ∧ Wn w v v' := h

/-- A new writer. -/
theorem Wr.new {w : World} {g : Nat} (h : w.heap[g]? = some (.cells #[.slice none 0 0] 95 (0, 0))) : Wr w g (.slice none 0 0) [] := ⟨h, World.ownsRow_nil w 0 _ 1⟩

end Go.Proofs.Ytbphkbbidbjpmaa.Cw
