/- The reader's calls, more of them. Own work. -/
import Derived.Test.YthnigmbdacjlnaaCwC
namespace Go.Proofs.Ythnigmbdacjlnaa.Cw
open Go.RowKit
set_option linter.unusedVariables false
set_option linter.unusedSimpArgs false

theorem ret1 {k : IntKind} {a b : Int} (h : a = b) : Ending.returned (.int k a) = .returned (.int k b) := by rw [h]

/-- What is wrong at the end. -/
def endOf (s : ByteArray) (x : Nat) : Nat := if x = 0 then (if s.size = 0 then 0 else 4) else x

/-- A byte of a text. -/
def byt (s : ByteArray) (i : Nat) : Nat := if h : i < s.size then s[i].toNat else 0
theorem byt_lt (s : ByteArray) (i : Nat) : byt s i < 256 := by
  unfold byt
  split
  · exact UInt8.toNat_lt _
  · omega
theorem byt_eq (s : ByteArray) (i : Nat) (h : i < s.size) : byt s i = s[i].toNat := dif_pos h
/-- The number that the first k bytes are, the lowest first. -/
def le (s : ByteArray) : Nat → Nat
  | 0 => 0
  | k + 1 => le s k + byt s k * 256 ^ k
theorem le_lt (s : ByteArray) (k : Nat) : le s k < 256 ^ k := by
  induction k with
  | zero => simp [le]
  | succ k ih =>
    have h1 := byt_lt s k
    have : byt s k * 256 ^ k ≤ 255 * 256 ^ k := Nat.mul_le_mul (by omega) (Nat.le_refl _)
    simp only [le]
    rw [Nat.pow_succ]; omega

theorem two64 : ((2 ^ 64 : Nat) : Int) = 18446744073709551616 := by simp
theorem ofInt_wrap (q : Nat) (h : q < 18446744073709551616) : (BitVec.ofInt 64 (wrap64 (q : Int))).toNat = q := by
  have e : wrap64 (q : Int) % 18446744073709551616 = q := by unfold wrap64; omega
  rw [BitVec.toNat_ofInt, two64, e]
  rfl
theorem ofInt_nat (m : Nat) (h : m < 18446744073709551616) : (BitVec.ofInt 64 (m : Int)).toNat = m := by rw [BitVec.ofInt_natCast, BitVec.toNat_ofNat]; exact Nat.mod_eq_of_lt (by omega)
theorem or_i64 (m q r : Nat) (hm : m < 18446744073709551616) (hq : q < 18446744073709551616) (hr : m ||| q = r) :
    bits .or .i64 (m : Int) (wrap64 (q : Int)) = wrap64 (r : Int) := by
  show IntKind.i64.wrap ((BitVec.ofInt 64 (m : Int) ||| BitVec.ofInt 64 (wrap64 (q : Int))).toNat : Int) = _
  rw [BitVec.toNat_or, ofInt_nat m hm, ofInt_wrap q hq, hr, IntKind.wrap_i64]
  unfold wrap64
  omega

theorem pow256 (k : Nat) (hk : k < 8) : 256 ^ k ≤ 72057594037927936 := Nat.le_trans (Nat.pow_le_pow_right (by decide) (show k ≤ 7 by omega)) (by decide)
theorem fix_or (k m c : Nat) (hk : k < 8) (hm : m < 256 ^ k) (hc : c < 256) :
    bits .or .i64 (m : Int) (wrap64 ((c : Int) * 2 ^ (8 * k))) = wrap64 ((m + c * 256 ^ k : Nat) : Int) := by
  have e2 : (2 : Nat) ^ (8 * k) = 256 ^ k := by rw [Nat.pow_mul]
  have e : (2 : Int) ^ (8 * k) = ((256 ^ k : Nat) : Int) := by rw [← e2]; simp
  have hp := pow256 k hk
  have hsum : m ||| c * 256 ^ k = m + c * 256 ^ k := by
    rw [Nat.or_comm, Nat.mul_comm, ← e2, ← Nat.two_pow_add_eq_or_of_lt (by rw [e2]; exact hm), Nat.add_comm]
  have hb : c * 256 ^ k ≤ 255 * 256 ^ k := Nat.mul_le_mul (by omega) (Nat.le_refl _)
  rw [e, ← Int.natCast_mul]
  exact or_i64 _ _ _ (by omega) (by omega) hsum

/-- A number of a size is read. -/
def rdF (size : Nat) (s : ByteArray) (e : Nat) : Nat × Nat × ByteArray × Nat :=
  if e = 0 then
    if s.size < size then (0, 20, s, 20)
    else if 9223372036854775808 ≤ le s size then (0, 4, s, 4)
    else (le s size, 0, s.extract size s.size, 0)
  else (0, e, s, e)

theorem rdF_failed (size : Nat) (s : ByteArray) (e : Nat) (h : ¬ e = 0) : rdF size s e = (0, e, s, e) := if_neg h
theorem rdF_cut (size : Nat) (s : ByteArray) (h : s.size < size) : rdF size s 0 = (0, 20, s, 20) := by unfold rdF; rw [if_pos rfl, if_pos h]
theorem rdF_form (size : Nat) (s : ByteArray) (h : ¬ s.size < size) (h2 : 9223372036854775808 ≤ le s size) : rdF size s 0 = (0, 4, s, 4) := by unfold rdF; rw [if_pos rfl, if_neg h, if_pos h2]
theorem rdF_ok (size : Nat) (s : ByteArray) (h : ¬ s.size < size) (h2 : ¬ 9223372036854775808 ≤ le s size) : rdF size s 0 = (le s size, 0, s.extract size s.size, 0) := by unfold rdF; rw [if_pos rfl, if_neg h, if_neg h2]

def Le (m : Int) (s : ByteArray) (k : Nat) : Prop := m = wrap64 (le s k : Nat)

theorem Le_step (m : Int) (s : ByteArray) (k : Nat) (hk : k < 8) (h : k < s.size) (hm : Le m s k) : Le (bits .or .i64 m (wrap64 (((s[k].toNat : Nat) : Int) * 2 ^ (8 * k)))) s (k + 1) := by
  unfold Le at *
  have h1 := le_lt s k
  have h2 := pow256 k hk
  rw [hm, ← byt_eq s k h, wrap64_in _ (by omega) (by omega), fix_or k _ _ hk h1 (byt_lt s k)]
  rfl

end Go.Proofs.Ythnigmbdacjlnaa.Cw
