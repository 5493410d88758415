/- The reference's Sized, Fits, Fixed, Text; an item's bytes. Own work. -/
import Derived.Test.YtbphkbbidbjpmaaCrB
import Derived.Test.YtbphkbbidbjpmaaCwI
import Derived.WalkSpells
namespace Go.Proofs.Ytbphkbbidbjpmaa.Cw
open Go.RowKit
set_option linter.unusedVariables false
set_option linter.unusedSimpArgs false

/-- Is a number one of a size? -/
def Fit (n size : Int) : Prop := (size = 1 ∨ size = 2 ∨ size = 4 ∨ size = 8) ∧ 0 ≤ n ∧ n < 256 ^ size.toNat

theorem fit_cases {n size : Int} (h : Fit n size) : (size = 1 ∧ 0 ≤ n ∧ n < 256) ∨ (size = 2 ∧ 0 ≤ n ∧ n < 65536) ∨ (size = 4 ∧ 0 ≤ n ∧ n < 4294967296) ∨ (size = 8 ∧ 0 ≤ n) := by
  obtain ⟨hz, h0, h1⟩ := h
  rcases hz with rfl | rfl | rfl | rfl
  · exact .inl ⟨rfl, h0, by simpa using h1⟩
  · exact .inr (.inl ⟨rfl, h0, by simpa using h1⟩)
  · exact .inr (.inr (.inl ⟨rfl, h0, by simpa using h1⟩))
  · exact .inr (.inr (.inr ⟨rfl, h0⟩))

theorem unfit_cases {n size : Int} (hmax : n < 9223372036854775808) (h : ¬ Fit n size) : n < 0 ∨ (0 ≤ n ∧ ¬ (size = 1 ∨ size = 2 ∨ size = 4 ∨ size = 8)) ∨ (size = 1 ∧ 256 ≤ n) ∨ (size = 2 ∧ 65536 ≤ n) ∨ (size = 4 ∧ 4294967296 ≤ n) := by
  by_cases h0 : n < 0
  · exact .inl h0
  by_cases hz : size = 1 ∨ size = 2 ∨ size = 4 ∨ size = 8
  · right; right
    unfold Fit at h
    rcases hz with rfl | rfl | rfl | rfl
    · left; refine ⟨rfl, ?_⟩
      have : ¬ n < 256 ^ (1 : Int).toNat := fun x => h ⟨.inl rfl, by omega, x⟩
      simpa using this
    · right; left; refine ⟨rfl, ?_⟩
      have : ¬ n < 256 ^ (2 : Int).toNat := fun x => h ⟨.inr (.inl rfl), by omega, x⟩
      simpa using this
    · right; right; refine ⟨rfl, ?_⟩
      have : ¬ n < 256 ^ (4 : Int).toNat := fun x => h ⟨.inr (.inr (.inl rfl)), by omega, x⟩
      simpa using this
    · exact absurd ⟨.inr (.inr (.inr rfl)), by omega, Int.lt_of_lt_of_le hmax (by decide)⟩ h
  · exact .inr (.inl ⟨by omega, hz⟩)

theorem fixB_succ (n k : Nat) : fixB n (k + 1) = fixB n k ++ [by8 n k] := rfl

theorem div_byte (n k : Nat) : (((n / 256 ^ k : Nat) : Int) % 256) = ((by8 n k).toNat : Int) := by
  unfold by8
  rw [u8n _ (by omega)]
  simp

theorem div_next (n k : Nat) : ((n / 256 ^ k : Nat) : Int) / 256 = ((n / 256 ^ (k + 1) : Nat) : Int) := by
  rw [Nat.pow_succ, ← Nat.div_div_eq_div_mul]
  simp

set_option maxRecDepth 100000 in
set_option maxHeartbeats 1600000 in
theorem refText_calls (w : World) (s : ByteArray) (hs : s.size ≤ 65535) :
    Calls Try.prog 39 #[.string s] w fun e w' => e = .returned (.string ⟨(uv s.size ++ s.data.toList).toArray⟩) ∧ Fr w w' (fun _ => False) := by
  have hl := uv_len10 s.size (by omega)
  have hu := hid (show (⟨(uv s.size).toArray⟩ : ByteArray) ++ s = ⟨(uv s.size ++ s.data.toList).toArray⟩ from str_app (uv s.size) s.data.toList)
  go_enter Try.func39, Try.ntmps39
  go_wp2_with (go_at_call 37; refine (refUint_calls _ s.size (by omega)).mono ?_; rintro e w4 ⟨rfl, hf4⟩)
  go_ret
  rw [hu.out]
  exact ⟨rfl, hf4⟩
end Go.Proofs.Ytbphkbbidbjpmaa.Cw
