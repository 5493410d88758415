/- The writer's Fixed and Text. Own work. -/
import Derived.Test.YtbphkbbidbjpmaaCwG
import Derived.Test.YtbphkbbidbjpmaaCwD
import Derived.Deep.AppendLies
import Derived.Deep.RegionLaw
import Derived.Lib.AppendStr
import Derived.IntWalk
namespace Go.Proofs.Ytbphkbbidbjpmaa.Cw
open Go.RowKit
set_option linter.unusedVariables false
set_option linter.unusedSimpArgs false

/-- A byte of a number. -/
def by8 (n k : Nat) : UInt8 := UInt8.ofNat (n / 256 ^ k % 256)
/-- A number's bytes, so many. -/
def fixB (n : Nat) : Nat → List UInt8
  | 0 => []
  | k + 1 => fixB n k ++ [by8 n k]

theorem fix_byte (n k : Nat) : IntKind.u8.wrap ((n : Int) / 2 ^ (8 * k)) = ((by8 n k).toNat : Int) := by
  unfold by8
  have e2 : (2 : Nat) ^ (8 * k) = 256 ^ k := by rw [Nat.pow_mul]
  have e : (2 : Int) ^ (8 * k) = ((256 ^ k : Nat) : Int) := by rw [← e2]; simp
  rw [u8n _ (by omega), IntKind.wrap_u8, e]
  simp

theorem Wn.at_ {w : World} {v : Value} {g n cap H : Nat} (hH : w.heap.size ≤ H) (h : v.ownBlock = some g ∨ g = H) : Wn w v (.slice (some ⟨g, 0, none⟩) n cap) := by
  intro b hb
  injection hb with hb
  subst hb
  rcases h with h | h
  · exact .inl h
  · exact .inr (by show w.heap.size ≤ g; omega)

theorem grown_drew {w w1 : World} {row : Option Nat} (h : w.drew.grownBy w1 row) : w.grownBy w1 row := ⟨h.os, h.tape, h.output, h.size, h.block⟩

theorem fixB_len (n k : Nat) : (fixB n k).length = k := by
  induction k with
  | zero => rfl
  | succ k ih => simp [fixB, ih]

end Go.Proofs.Ytbphkbbidbjpmaa.Cw
