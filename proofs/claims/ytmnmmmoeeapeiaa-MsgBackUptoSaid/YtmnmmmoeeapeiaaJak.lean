/- The reference's Sized, Fits, Fixed, Text; an item's bytes. Own work. -/
import Derived.Test.YtmnmmmoeeapeiaaJaj
import Derived.Test.YtmnmmmoeeapeiaaJah
import Derived.WalkSpells
namespace Go.Proofs.Ytmnmmmoeeapeiaa.Cw
open Go.RowKit
set_option linter.unusedVariables false
set_option linter.unusedSimpArgs false

/-- Is a number one of a size? -/
def Fit (n size : Int) : Prop := (size = 1 ∨ size = 2 ∨ size = 4 ∨ size = 8) ∧ 0 ≤ n ∧ n < 256 ^ size.toNat

theorem fit_cases {n size : Int} (h : Fit n size) : (size = 1 ∧ 0 ≤ n ∧ n < 256) ∨ (size = 2 ∧ 0 ≤ n ∧ n < 65536) ∨ (size = 4 ∧ 0 ≤ n ∧ n < 4294967296) ∨ (size = 8 ∧ 0 ≤ n) := by
  obtain ⟨hz, h0, h1⟩ := h
  rcases hz with rfl | rfl | rfl | rfl
  · exact .inl ⟨rfl, h0, by simpa using h1⟩
  · exact .inr (.inl ⟨rfl, h0, by simpa using h1⟩)
  · exact .inr (.inr (.inl ⟨rfl, h0, by simpa using h1⟩))
  · exact .inr (.inr (.inr ⟨rfl, h0⟩))

theorem unfit_cases {n size : Int} (hmax : n < 9223372036854775808) (h : ¬ Fit n size) : n < 0 ∨ (0 ≤ n ∧ ¬ (size = 1 ∨ size = 2 ∨ size = 4 ∨ size = 8)) ∨ (size = 1 ∧ 256 ≤ n) ∨ (size = 2 ∧ 65536 ≤ n) ∨ (size = 4 ∧ 4294967296 ≤ n) := by
  by_cases h0 : n < 0
  · exact .inl h0
  by_cases hz : size = 1 ∨ size = 2 ∨ size = 4 ∨ size = 8
  · right; right
    unfold Fit at h
    rcases hz with rfl | rfl | rfl | rfl
    · left; refine ⟨rfl, ?_⟩
      have : ¬ n < 256 ^ (1 : Int).toNat := fun x => h ⟨.inl rfl, by omega, x⟩
      simpa using this
    · right; left; refine ⟨rfl, ?_⟩
      have : ¬ n < 256 ^ (2 : Int).toNat := fun x => h ⟨.inr (.inl rfl), by omega, x⟩
      simpa using this
    · right; right; refine ⟨rfl, ?_⟩
      have : ¬ n < 256 ^ (4 : Int).toNat := fun x => h ⟨.inr (.inr (.inl rfl)), by omega, x⟩
      simpa using this
    · exact absurd ⟨.inr (.inr (.inr rfl)), by omega, Int.lt_of_lt_of_le hmax (by decide)⟩ h
  · exact .inr (.inl ⟨by omega, hz⟩)

theorem fixB_succ (n k : Nat) : fixB n (k + 1) = fixB n k ++ [by8 n k] := rfl

theorem div_byte (n k : Nat) : (((n / 256 ^ k : Nat) : Int) % 256) = ((by8 n k).toNat : Int) := by
  unfold by8
  rw [u8n _ (by omega)]
  simp

theorem div_next (n k : Nat) : ((n / 256 ^ k : Nat) : Int) / 256 = ((n / 256 ^ (k + 1) : Nat) : Int) := by
  rw [Nat.pow_succ, ← Nat.div_div_eq_div_mul]
  simp

set_option maxRecDepth 100000 in
set_option maxHeartbeats 1600000 in
theorem refFixed_calls (w : World) (n size : Nat) (hn : n ≤ 2 ^ 63 - 1) (hz : size ≤ 8) :
    Calls Try.prog 51 #[.int .i64 n, .int .i64 size] w fun e w' => e = .returned (.string ⟨(fixB n size).toArray⟩) ∧ Fr w w' (fun _ => False) := by
  obtain ⟨i0, hi, hz0, hz1, hz2⟩ := info_parts info_u8
  have HN := hid hn
  clear hn
  go_enter Try.func51, Try.ntmps51
  go_wp2
  go_loopw [0, 5, 6] (fun x v i wr => ∃ (k q : Nat), x = .int .i64 q ∧ i = .int .i64 k ∧ k ≤ size ∧ Hid (q = n / 256 ^ k) ∧ Ow w wr v (fixB n k) ∧ Fr w wr (fun _ => False)) (fun _ _ i _ => size - (intOf i).toNat)
  case atStart => exact ⟨0, n, rfl, rfl, by omega, hid (by simp), World.ownsRow_nil w _ _ 1, Fr.refl w _⟩
  case round =>
    obtain ⟨k, q, rfl, rfl, hk, hq, h1, hf⟩ := hrel
    have hq63 : q ≤ 2 ^ 63 - 1 := by
      have := HN.out
      have h2 := hq.out
      have := Nat.div_le_self n (256 ^ k)
      omega
    have hfl := fixB_len n k
    by_cases hlt : k < size
    · have hby := hid (div_byte n k)
      have hnx := hid (div_next n k)
      have HFL := hid hfl
      clear hfl
      go_wp2_with (at_builtin; refine wpList_append_own _ rfl _ _ 35 rfl w.heap.size 5 i0 (.int .u8 0) 1 1 Try.underlying35 hi hz0 hz1 hz2 rfl (by decide) _ _ _ rfl (h1.alloc _) ⟨_, 0, none⟩ 1 1 (cellsOf [by8 n k]) rfl rfl ?c1 ?c2 ?c3 ?c4 ?c5 ?_)
      case c1 => exact cell_new1 wr _ _ _ (val_u8 (by rw [hq.out]; exact hby.out))
      case c2 => exact one_u8 _
      case c3 => have := HFL.out; unfold maxLen; omega
      case c4 => have := HFL.out; omega
      case c5 => have := hf.size; simp; omega
      · intro v' w1 hown' hgrow _
        have R := Ow.push (news := [by8 n k]) hf h1 rfl hown' hgrow
        clear hown' hgrow
        go_wp2
        go_roundw
        case rel => exact ⟨k + 1, n / 256 ^ (k + 1), by rw [← hnx.out, ← hq.out], by go_num, by omega, rfl, R.1, R.2⟩
        case measure => simp [intOf]; omega
    · have hke : k = size := by omega
      have HKE := hid hke
      have hcv := conv_own Try.underlying35 Try.underlying5 h1 9 Try.underlying9
      clear hke hfl
      go_wp2
      go_ret
      rw [← HKE.out]
      exact ⟨rfl, hf⟩

set_option maxRecDepth 100000 in
set_option maxHeartbeats 1600000 in
theorem refText_calls (w : World) (s : ByteArray) (hs : s.size ≤ 65535) :
    Calls Try.prog 50 #[.string s] w fun e w' => e = .returned (.string ⟨(uv s.size ++ s.data.toList).toArray⟩) ∧ Fr w w' (fun _ => False) := by
  have hl := uv_len10 s.size (by omega)
  have hu := hid (show (⟨(uv s.size).toArray⟩ : ByteArray) ++ s = ⟨(uv s.size ++ s.data.toList).toArray⟩ from str_app (uv s.size) s.data.toList)
  go_enter Try.func50, Try.ntmps50
  go_wp2_with (go_at_call 28; refine (refUint_calls _ s.size (by omega)).mono ?_; rintro e w4 ⟨rfl, hf4⟩)
  go_ret
  rw [hu.out]
  exact ⟨rfl, hf4⟩
end Go.Proofs.Ytmnmmmoeeapeiaa.Cw

