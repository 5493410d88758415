/- The reference's Reader: Fixed, End. Own work. -/
import Derived.Test.YtbphkbbidbjpmaaCqC
namespace Go.Proofs.Ytbphkbbidbjpmaa.Cw
open Go.RowKit
set_option linter.unusedVariables false
set_option linter.unusedSimpArgs false

/-- What a loop from above has. -/
def Df (s : ByteArray) (k j n : Nat) : Prop := n * 256 ^ j + le s j = le s k
theorem Df.start (s : ByteArray) (k : Nat) : Df s k k 0 := by unfold Df; omega
theorem Df.step {s : ByteArray} {k j n : Nat} (h : Df s k (j + 1) n) : Df s k j (n * 256 + byt s j) := by
  unfold Df at *
  simp only [le] at h
  rw [Nat.pow_succ] at h
  rw [← h, Nat.add_mul, Nat.mul_assoc, Nat.mul_comm 256 (256 ^ j)]
  omega
theorem Df.small {s : ByteArray} {k j n : Nat} (h : Df s k (j + 1) n) (hk : le s k ≤ 2 ^ 63 - 1) : n ≤ 36028797018963967 := by
  have h1 : n * 256 ^ (j + 1) ≤ le s k := by unfold Df at h; omega
  have h2 : n * 256 ≤ n * 256 ^ (j + 1) := Nat.mul_le_mul (Nat.le_refl _) (by rw [Nat.pow_succ]; have : 0 < 256 ^ j := Nat.pow_pos (by decide); omega)
  omega

theorem le_small (s : ByteArray) (size : Nat) (h : size ≤ 7) : le s size < 72057594037927936 :=
  Nat.lt_of_lt_of_le (le_lt s size) (Nat.le_trans (Nat.pow_le_pow_right (by decide) h) (by decide))
theorem le_eight (s : ByteArray) : 9223372036854775808 ≤ le s 8 ↔ 127 < byt s 7 := by
  have h7 := le_lt s 7
  have hb := byt_lt s 7
  have e : le s 8 = le s 7 + byt s 7 * 256 ^ 7 := rfl
  rw [e]
  constructor <;> intro h <;> omega

end Go.Proofs.Ytbphkbbidbjpmaa.Cw
