/- The sum of some bytes: plain, and the walks of both. Own work. -/
import Derived.Test.YthnigmbdacjlnaaCwL
import Derived.WalkKit
import Derived.Lib.Hide
namespace Go.Proofs.Ythnigmbdacjlnaa.Cw
open Go.RowKit
set_option linter.unusedVariables false
set_option linter.unusedSimpArgs false

def crS (n : Nat) : Nat := if n % 2 = 1 then (n / 2) ^^^ 2197175160 else n / 2
def crI : Nat → Nat → Nat
  | 0, x => x
  | k + 1, x => crS (crI k x)
def crB (n : Nat) (b : UInt8) : Nat := crI 8 (n ^^^ b.toNat)
def crL (n : Nat) (l : List UInt8) : Nat := l.foldl crB n
/-- The sum. -/
def crc (l : List UInt8) : Nat := crL 4294967295 l ^^^ 4294967295

theorem crS_lt {n : Nat} (h : n < 4294967296) : crS n < 4294967296 := by
  unfold crS
  split
  · exact Nat.xor_lt_two_pow (n := 32) (by omega) (by decide)
  · omega
theorem crI_lt {n : Nat} (h : n < 4294967296) : ∀ k, crI k n < 4294967296
  | 0 => h
  | k + 1 => crS_lt (crI_lt h k)
theorem u8_lt (b : UInt8) : b.toNat < 256 := b.toNat_lt
theorem xb_lt {n : Nat} (h : n < 4294967296) (b : UInt8) : n ^^^ b.toNat < 4294967296 := Nat.xor_lt_two_pow (n := 32) h (by have := u8_lt b; omega)
theorem crB_lt {n : Nat} (h : n < 4294967296) (b : UInt8) : crB n b < 4294967296 := crI_lt (xb_lt h b) 8
theorem crL_lt {n : Nat} (h : n < 4294967296) (l : List UInt8) : crL n l < 4294967296 := by
  induction l generalizing n with
  | nil => exact h
  | cons b r ih => exact ih (crB_lt h b)
theorem crc_lt (l : List UInt8) : crc l < 4294967296 := Nat.xor_lt_two_pow (n := 32) (crL_lt (by decide) l) (by decide)
theorem crL_snoc (n : Nat) (l : List UInt8) (b : UInt8) : crL n (l ++ [b]) = crB (crL n l) b := by
  unfold crL
  rw [List.foldl_append]
  rfl

theorem xor_left_inj {a b c : Nat} (h : a ^^^ b = a ^^^ c) : b = c := by
  have := congrArg (fun x => a ^^^ x) h
  simpa [← Nat.xor_assoc] using this
theorem crS_inj {a b : Nat} (ha : a < 4294967296) (hb : b < 4294967296) (h : crS a = crS b) : a = b := by
  have top : ∀ n, n < 4294967296 → (crS n).testBit 31 = decide (n % 2 = 1) := by
    intro n hn
    unfold crS
    have h2 : (n / 2).testBit 31 = false := Nat.testBit_lt_two_pow (by omega)
    split
    · rename_i h1
      rw [Nat.testBit_xor, h2, decide_eq_true h1]
      decide
    · rename_i h1
      rw [h2, decide_eq_false h1]
  have h1 := top a ha
  rw [h, top b hb] at h1
  have h3 := decide_eq_decide.1 h1
  unfold crS at h
  by_cases h4 : a % 2 = 1
  · rw [if_pos h4, if_pos (h3.2 h4)] at h
    rw [Nat.xor_comm, Nat.xor_comm (b / 2)] at h
    have := xor_left_inj h
    have := h3.2 h4
    omega
  · rw [if_neg h4, if_neg (fun e => h4 (h3.1 e))] at h
    have : ¬ b % 2 = 1 := fun e => h4 (h3.1 e)
    omega
theorem crI_inj {a b : Nat} (ha : a < 4294967296) (hb : b < 4294967296) : ∀ k, crI k a = crI k b → a = b
  | 0, h => h
  | k + 1, h => crI_inj ha hb k (crS_inj (crI_lt ha k) (crI_lt hb k) h)
theorem crL_inj (l : List UInt8) : ∀ {a b : Nat}, a < 4294967296 → b < 4294967296 → crL a l = crL b l → a = b := by
  induction l with
  | nil => intro a b _ _ h; exact h
  | cons x r ih =>
    intro a b ha hb h
    have h1 := ih (crB_lt ha x) (crB_lt hb x) h
    have h2 := crI_inj (xb_lt ha x) (xb_lt hb x) 8 h1
    rw [Nat.xor_comm, Nat.xor_comm b] at h2
    exact xor_left_inj h2
/-- A byte that is turned changes the sum. -/
theorem crc_turned {l : List UInt8} {i : Nat} {b : UInt8} (hi : i < l.length) (hb : b ≠ l[i]) : crc (l.set i b) ≠ crc l := by
  intro h
  unfold crc at h
  rw [Nat.xor_comm, Nat.xor_comm (crL 4294967295 l)] at h
  have h := xor_left_inj h
  have e1 : l.set i b = l.take i ++ b :: l.drop (i + 1) := List.set_eq_take_append_cons_drop.trans (if_pos hi)
  have e2 : l = l.take i ++ l[i] :: l.drop (i + 1) := by rw [List.getElem_cons_drop, List.take_append_drop]
  rw [e1] at h
  conv at h => rhs; rw [e2]
  unfold crL at h
  rw [List.foldl_append, List.foldl_append, List.foldl_cons, List.foldl_cons] at h
  have hA : (l.take i).foldl crB 4294967295 < 4294967296 := crL_lt (by decide) _
  have h1 := crL_inj (l.drop (i + 1)) (crB_lt hA b) (crB_lt hA _) h
  have h2 := crI_inj (xb_lt hA _) (xb_lt hA _) 8 h1
  have h3 := xor_left_inj h2
  exact hb (UInt8.toNat_inj.1 h3)

theorem bits_xor_u32 {x y : Nat} (hx : x < 4294967296) (hy : y < 4294967296) : bits .xor .u32 (x : Int) (y : Int) = ((x ^^^ y : Nat) : Int) := by
  have h := Nat.xor_lt_two_pow (n := 32) hx hy
  have ex : (BitVec.ofInt 32 (x : Int)).toNat = x := by rw [BitVec.ofInt_natCast, BitVec.toNat_ofNat]; exact Nat.mod_eq_of_lt hx
  have ey : (BitVec.ofInt 32 (y : Int)).toNat = y := by rw [BitVec.ofInt_natCast, BitVec.toNat_ofNat]; exact Nat.mod_eq_of_lt hy
  show IntKind.u32.wrap ((BitVec.ofInt 32 (x : Int) ^^^ BitVec.ofInt 32 (y : Int)).toNat : Int) = _
  rw [BitVec.toNat_xor, ex, ey]
  generalize x ^^^ y = z at *
  simp [IntKind.wrap, IntKind.bits, IntKind.signed]
  omega
theorem bits_xor_i64 {x y : Nat} (hx : x < 4294967296) (hy : y < 4294967296) : bits .xor .i64 (x : Int) (y : Int) = ((x ^^^ y : Nat) : Int) := by
  have h := Nat.xor_lt_two_pow (n := 32) hx hy
  have ex : (BitVec.ofInt 64 (x : Int)).toNat = x := by rw [BitVec.ofInt_natCast, BitVec.toNat_ofNat]; exact Nat.mod_eq_of_lt (by omega)
  have ey : (BitVec.ofInt 64 (y : Int)).toNat = y := by rw [BitVec.ofInt_natCast, BitVec.toNat_ofNat]; exact Nat.mod_eq_of_lt (by omega)
  show IntKind.i64.wrap ((BitVec.ofInt 64 (x : Int) ^^^ BitVec.ofInt 64 (y : Int)).toNat : Int) = _
  rw [BitVec.toNat_xor, ex, ey]
  generalize x ^^^ y = z at *
  rw [IntKind.wrap_i64]
  omega
theorem bits_and_one {x : Nat} (hx : x < 4294967296) : bits .and .u32 (x : Int) 1 = ((x % 2 : Nat) : Int) := by
  have ex : (BitVec.ofInt 32 (x : Int)).toNat = x := by rw [BitVec.ofInt_natCast, BitVec.toNat_ofNat]; exact Nat.mod_eq_of_lt hx
  show IntKind.u32.wrap ((BitVec.ofInt 32 (x : Int) &&& BitVec.ofInt 32 1).toNat : Int) = _
  rw [BitVec.toNat_and, ex, show (BitVec.ofInt 32 1).toNat = 1 from rfl, Nat.and_one_is_mod]
  simp [IntKind.wrap, IntKind.bits, IntKind.signed]
  omega
end Go.Proofs.Ythnigmbdacjlnaa.Cw
