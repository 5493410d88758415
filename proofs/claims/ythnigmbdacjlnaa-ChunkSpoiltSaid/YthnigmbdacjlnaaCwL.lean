/- What is left is no longer than what was; what a call answers is what is wrong from now on. Plain. Own work. -/
import Derived.Test.YthnigmbdacjlnaaCwE
namespace Go.Proofs.Ythnigmbdacjlnaa.Cw
set_option linter.unusedVariables false

theorem rdN_size (most top : Nat) (s : ByteArray) (e : Nat) : (rdN most top s e).2.2.1.size ≤ s.size := by
  unfold rdN
  split
  · split
    · simp
    · exact Nat.le_refl _
  · exact Nat.le_refl _
theorem rdF_size (size : Nat) (s : ByteArray) (e : Nat) : (rdF size s e).2.2.1.size ≤ s.size := by
  unfold rdF
  split
  · split
    · exact Nat.le_refl _
    · split
      · exact Nat.le_refl _
      · simp
  · exact Nat.le_refl _
theorem rdT_size (most : Int) (s : ByteArray) (e : Nat) : (rdT most s e).2.2.1.size ≤ s.size := by
  unfold rdT
  split
  · exact Nat.le_refl _
  · split
    · split
      · split
        · exact Nat.le_refl _
        · split
          · exact Nat.le_refl _
          · simp
      · exact Nat.le_refl _
    · exact Nat.le_refl _

theorem rdN_same (most top : Nat) (s : ByteArray) (e : Nat) : (rdN most top s e).2.1 = (rdN most top s e).2.2.2 := by
  unfold rdN
  split
  · split
    · rfl
    · rfl
  · rfl
theorem rdT_same (most : Int) (s : ByteArray) (e : Nat) (h : 0 ≤ most) : (rdT most s e).2.1 = (rdT most s e).2.2.2 := by
  unfold rdT
  rw [if_neg (by omega)]
  split
  · split
    · split
      · rfl
      · split
        · rfl
        · rfl
    · rfl
  · rfl
theorem zz_i64 (n : Nat) (h : n < 18446744073709551616) : -9223372036854775808 ≤ zz n ∧ zz n < 9223372036854775808 := by
  unfold zz
  split <;> omega
end Go.Proofs.Ythnigmbdacjlnaa.Cw
