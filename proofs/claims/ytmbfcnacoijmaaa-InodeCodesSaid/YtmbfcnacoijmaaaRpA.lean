/- Entries of the replicated log: which are right, their bytes. Own work. -/
import Derived.Test.YtmbfcnacoijmaaaCwS
import Derived.Test.YtmbfcnacoijmaaaCrC
import Derived.Deep.RegionHeld3
namespace Go.Proofs.Ytmbfcnacoijmaaa.Cw
open Go.RowKit
set_option linter.unusedVariables false
set_option linter.unusedSimpArgs false

/-- An entry as a value. -/
def enV (a b c k t n : Int) (p q r : ByteArray) : Value := .agg #[.int .i64 a, .int .i64 b, .int .i64 c, .int .i64 k, .int .i64 t, .int .i64 n, .string p, .string q, .string r]
/-- Is an entry right? -/
def Rt (a b c : Int) (p q r : ByteArray) : Prop := (0 ≤ a ∧ a ≤ 1099511627776) ∧ (0 ≤ b ∧ b ≤ 1099511627776) ∧ (1 ≤ c ∧ c ≤ 1099511627776) ∧ p.size ≤ 4096 ∧ q.size ≤ 4096 ∧ r.size ≤ 4096
instance (a b c : Int) (p q r : ByteArray) : Decidable (Rt a b c p q r) := by unfold Rt; infer_instance
theorem ret_b {x y : Bool} (h : x = y) : Ending.returned (.bool x) = .returned (.bool y) := by rw [h]

theorem cell_fr {w w' : World} {b o : Nat} {v : Value} (h : w.cell? ⟨b, o, none⟩ = some v) (hf : Fr w w' (fun _ => False)) : w'.cell? ⟨b, o, none⟩ = some v := by
  have hb : b < w.heap.size := by
    rcases Nat.lt_or_ge b w.heap.size with h1 | h1
    · exact h1
    · unfold World.cell? at h
      simp [Array.getElem?_eq_none h1] at h
  exact (World.cell?_of_block (hf.block b hb (fun x => x))).trans h
theorem keep9 {w0 w w' : World} {b : Nat} {v0 v1 v2 v3 v4 v5 v6 v7 v8 : Value} (hf : Fr w w' (fun _ => False)) (h : w.cell? ⟨b, 0, none⟩ = some v0 ∧ w.cell? ⟨b, 1, none⟩ = some v1 ∧ w.cell? ⟨b, 2, none⟩ = some v2 ∧ w.cell? ⟨b, 3, none⟩ = some v3 ∧ w.cell? ⟨b, 4, none⟩ = some v4 ∧ w.cell? ⟨b, 5, none⟩ = some v5 ∧ w.cell? ⟨b, 6, none⟩ = some v6 ∧ w.cell? ⟨b, 7, none⟩ = some v7 ∧ w.cell? ⟨b, 8, none⟩ = some v8 ∧ Fr w0 w (fun _ => False)) :
    w'.cell? ⟨b, 0, none⟩ = some v0 ∧ w'.cell? ⟨b, 1, none⟩ = some v1 ∧ w'.cell? ⟨b, 2, none⟩ = some v2 ∧ w'.cell? ⟨b, 3, none⟩ = some v3 ∧ w'.cell? ⟨b, 4, none⟩ = some v4 ∧ w'.cell? ⟨b, 5, none⟩ = some v5 ∧ w'.cell? ⟨b, 6, none⟩ = some v6 ∧ w'.cell? ⟨b, 7, none⟩ = some v7 ∧ w'.cell? ⟨b, 8, none⟩ = some v8 ∧ Fr w0 w' (fun _ => False) := by
  obtain ⟨h0, h1, h2, h3, h4, h5, h6, h7, h8, h9⟩ := h
  exact ⟨cell_fr h0 hf, cell_fr h1 hf, cell_fr h2 hf, cell_fr h3 hf, cell_fr h4 hf, cell_fr h5 hf, cell_fr h6 hf, cell_fr h7 hf, cell_fr h8 hf, h9.trans hf⟩

theorem keep9d {w0 w : World} {b : Nat} {v0 v1 v2 v3 v4 v5 v6 v7 v8 : Value} (h : w.cell? ⟨b, 0, none⟩ = some v0 ∧ w.cell? ⟨b, 1, none⟩ = some v1 ∧ w.cell? ⟨b, 2, none⟩ = some v2 ∧ w.cell? ⟨b, 3, none⟩ = some v3 ∧ w.cell? ⟨b, 4, none⟩ = some v4 ∧ w.cell? ⟨b, 5, none⟩ = some v5 ∧ w.cell? ⟨b, 6, none⟩ = some v6 ∧ w.cell? ⟨b, 7, none⟩ = some v7 ∧ w.cell? ⟨b, 8, none⟩ = some v8 ∧ Fr w0 w (fun _ => False)) :
    w.drew.cell? ⟨b, 0, none⟩ = some v0 ∧ w.drew.cell? ⟨b, 1, none⟩ = some v1 ∧ w.drew.cell? ⟨b, 2, none⟩ = some v2 ∧ w.drew.cell? ⟨b, 3, none⟩ = some v3 ∧ w.drew.cell? ⟨b, 4, none⟩ = some v4 ∧ w.drew.cell? ⟨b, 5, none⟩ = some v5 ∧ w.drew.cell? ⟨b, 6, none⟩ = some v6 ∧ w.drew.cell? ⟨b, 7, none⟩ = some v7 ∧ w.drew.cell? ⟨b, 8, none⟩ = some v8 ∧ Fr w0 w.drew (fun _ => False) := by
  obtain ⟨h0, h1, h2, h3, h4, h5, h6, h7, h8, h9⟩ := h
  exact ⟨h0, h1, h2, h3, h4, h5, h6, h7, h8, h9.drew⟩

theorem last9 {w0 w : World} {b : Nat} {v0 v1 v2 v3 v4 v5 v6 v7 v8 : Value} (h : w.cell? ⟨b, 0, none⟩ = some v0 ∧ w.cell? ⟨b, 1, none⟩ = some v1 ∧ w.cell? ⟨b, 2, none⟩ = some v2 ∧ w.cell? ⟨b, 3, none⟩ = some v3 ∧ w.cell? ⟨b, 4, none⟩ = some v4 ∧ w.cell? ⟨b, 5, none⟩ = some v5 ∧ w.cell? ⟨b, 6, none⟩ = some v6 ∧ w.cell? ⟨b, 7, none⟩ = some v7 ∧ w.cell? ⟨b, 8, none⟩ = some v8 ∧ Fr w0 w (fun _ => False)) : Fr w0 w (fun _ => False) := h.2.2.2.2.2.2.2.2.2

/-- An entry's bytes. -/
def enB (a b c k t n : Int) (p q r : ByteArray) : List UInt8 :=
  uv a.toNat ++ uv b.toNat ++ uv c.toNat ++ uv (zig k) ++ uv (zig t) ++ uv (zig n) ++ (uv p.size ++ p.data.toList) ++ (uv q.size ++ q.data.toList) ++ (uv r.size ++ r.data.toList)
def i64 (n : Int) : Prop := -9223372036854775808 ≤ n ∧ n < 9223372036854775808

end Go.Proofs.Ytmbfcnacoijmaaa.Cw
