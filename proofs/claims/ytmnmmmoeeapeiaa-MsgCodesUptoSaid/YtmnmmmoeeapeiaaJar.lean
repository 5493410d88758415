/- A log's View. Own work. -/
import Derived.Test.YtmnmmmoeeapeiaaJam
import Derived.Test.YtmnmmmoeeapeiaaJaq
import Derived.Deep.AppendLies
import Derived.Deep.RegionHeld3
import Derived.Test.YtmnmmmoeeapeiaaJak
namespace Go.Proofs.Ytmnmmmoeeapeiaa.Cw
open Go.RowKit
set_option linter.unusedVariables false
set_option linter.unusedSimpArgs false

def lastV (es : List En) : Int := match es.getLast? with | some x => x.a | none => 0
theorem lastV_some (es : List En) (x : En) (h : es[es.length - 1]? = some x) : lastV es = x.a := by
  unfold lastV
  rw [List.getLast?_eq_getElem?, h]

end Go.Proofs.Ytmnmmmoeeapeiaa.Cw

/- A log's Append. Own work. -/
namespace Go.Proofs.Ytmnmmmoeeapeiaa.Cw
open Go.RowKit
set_option linter.unusedVariables false
set_option linter.unusedSimpArgs false

theorem info_en : (Try.prog.info? 52).map (fun i => (i.zero, i.size, i.bytes)) = some (some (enV 0 0 0 0 0 0 ByteArray.empty ByteArray.empty ByteArray.empty), 9, 96) := by kernel_rfl
end Go.Proofs.Ytmnmmmoeeapeiaa.Cw

/- Nothing of this text is wanted at this program: its imports alone. -/

/- An item's bytes: what the statements' helpers wants and writes do. Own work. -/
namespace Go.Proofs.Ytmnmmmoeeapeiaa.Cw
open Go.RowKit
set_option linter.unusedVariables false
set_option linter.unusedSimpArgs false

instance fitDec (n size : Int) : Decidable (Fit n size) := by
  unfold Fit
  infer_instance

/-- An item's bytes. -/
def itemB (kind n size : Int) (s : ByteArray) : List UInt8 :=
  if kind = 0 then (if n < 0 then [] else uv n.toNat)
  else if kind = 1 then uv (zig n)
  else if kind = 2 then (if Fit n size then fixB n.toNat size.toNat else [])
  else if 65535 < s.size then [] else uv s.size ++ s.data.toList
/-- What is wrong with an item. -/
def itemE (kind n size : Int) (s : ByteArray) : Nat :=
  if kind = 0 then (if n < 0 then 1 else 0)
  else if kind = 1 then 0
  else if kind = 2 then (if Fit n size then 0 else 1)
  else if 65535 < s.size then 2 else 0

/-- An item as a value. -/
def itemV (kind n size : Int) (s : ByteArray) : Value := .agg #[.int .i64 kind, .int .i64 n, .int .i64 size, .string s]

theorem item0n (n size : Int) (s : ByteArray) (h : n < 0) : itemB 0 n size s = [] ∧ itemE 0 n size s = 1 := by
  unfold itemB itemE; rw [if_pos rfl, if_pos h, if_pos rfl, if_pos h]; exact ⟨rfl, rfl⟩
theorem item0p (n : Nat) (size : Int) (s : ByteArray) : itemB 0 n size s = uv n ∧ itemE 0 n size s = 0 := by
  unfold itemB itemE; rw [if_pos rfl, if_neg (by omega), if_pos rfl, if_neg (by omega)]; exact ⟨rfl, rfl⟩
theorem item1 (n size : Int) (s : ByteArray) : itemB 1 n size s = uv (zig n) ∧ itemE 1 n size s = 0 := ⟨rfl, rfl⟩
theorem item2n (n size : Int) (s : ByteArray) (h : ¬ Fit n size) : itemB 2 n size s = [] ∧ itemE 2 n size s = 1 := by
  unfold itemB itemE; rw [if_neg (by decide), if_neg (by decide), if_pos rfl, if_neg h, if_neg (by decide), if_neg (by decide), if_pos rfl, if_neg h]; exact ⟨rfl, rfl⟩
theorem item2p (n size : Nat) (s : ByteArray) (h : Fit n size) : itemB 2 n size s = fixB n size ∧ itemE 2 n size s = 0 := by
  unfold itemB itemE; rw [if_neg (by decide), if_neg (by decide), if_pos rfl, if_pos h, if_neg (by decide), if_neg (by decide), if_pos rfl, if_pos h]; exact ⟨rfl, rfl⟩
theorem item3l (kind n size : Int) (s : ByteArray) (h0 : ¬ kind = 0) (h1 : ¬ kind = 1) (h2 : ¬ kind = 2) (h : 65535 < s.size) : itemB kind n size s = [] ∧ itemE kind n size s = 2 := by
  unfold itemB itemE; rw [if_neg h0, if_neg h1, if_neg h2, if_pos h, if_neg h0, if_neg h1, if_neg h2, if_pos h]; exact ⟨rfl, rfl⟩
theorem item3 (kind n size : Int) (s : ByteArray) (h0 : ¬ kind = 0) (h1 : ¬ kind = 1) (h2 : ¬ kind = 2) (h : ¬ 65535 < s.size) : itemB kind n size s = uv s.size ++ s.data.toList ∧ itemE kind n size s = 0 := by
  unfold itemB itemE; rw [if_neg h0, if_neg h1, if_neg h2, if_neg h, if_neg h0, if_neg h1, if_neg h2, if_neg h]; exact ⟨rfl, rfl⟩

theorem fit_nat {n size : Int} (hmax : n < 9223372036854775808) (h : Fit n size) : ∃ a b : Nat, n = a ∧ size = b ∧ (b = 1 ∨ b = 2 ∨ b = 4 ∨ b = 8) ∧ a ≤ 2 ^ 63 - 1 ∧ a < 256 ^ b := by
  obtain ⟨hz, h0, h1⟩ := h
  obtain ⟨a, rfl⟩ := Int.eq_ofNat_of_zero_le h0
  obtain ⟨b, rfl⟩ := Int.eq_ofNat_of_zero_le (show 0 ≤ size by omega)
  refine ⟨a, b, rfl, rfl, by omega, by omega, ?_⟩
  rw [Int.toNat_natCast] at h1
  have e : (256 : Int) ^ b = ((256 ^ b : Nat) : Int) := by rw [Int.natCast_pow]; rfl
  rw [e] at h1
  exact Int.ofNat_lt.mp h1

theorem rets {s t : List UInt8} {b d : Int} (h1 : s = t) (h2 : b = d) : Ending.returned (.tuple #[.string ⟨s.toArray⟩, .int .i64 b]) = .returned (.tuple #[.string ⟨t.toArray⟩, .int .i64 d]) := by subst h1; subst h2; rfl

end Go.Proofs.Ytmnmmmoeeapeiaa.Cw
