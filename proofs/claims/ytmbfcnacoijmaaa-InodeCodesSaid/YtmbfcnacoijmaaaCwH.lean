/- The writer's Fixed and Text. Own work. -/
import Derived.Test.YtmbfcnacoijmaaaCwG
import Derived.Test.YtmbfcnacoijmaaaCwD
import Derived.Deep.AppendLies
import Derived.Deep.RegionLaw
import Derived.Lib.AppendStr
import Derived.IntWalk
namespace Go.Proofs.Ytmbfcnacoijmaaa.Cw
open Go.RowKit
set_option linter.unusedVariables false
set_option linter.unusedSimpArgs false

/-- A byte of a number. -/
def by8 (n k : Nat) : UInt8 := UInt8.ofNat (n / 256 ^ k % 256)
/-- A number's bytes, so many. -/
def fixB (n : Nat) : Nat → List UInt8
  | 0 => []
  | k + 1 => fixB n k ++ [by8 n k]

theorem fix_byte (n k : Nat) : IntKind.u8.wrap ((n : Int) / 2 ^ (8 * k)) = ((by8 n k).toNat : Int) := by
  unfold by8
  have e2 : (2 : Nat) ^ (8 * k) = 256 ^ k := by rw [Nat.pow_mul]
  have e : (2 : Int) ^ (8 * k) = ((256 ^ k : Nat) : Int) := by rw [← e2]; simp
  rw [u8n _ (by omega), IntKind.wrap_u8, e]
  simp

theorem Wn.at_ {w : World} {v : Value} {g n cap H : Nat} (hH : w.heap.size ≤ H) (h : v.ownBlock = some g ∨ g = H) : Wn w v (.slice (some ⟨g, 0, none⟩) n cap) := by
  intro b hb
  injection hb with hb
  subst hb
  rcases h with h | h
  · exact .inl h
  · exact .inr (by show w.heap.size ≤ g; omega)

theorem grown_drew {w w1 : World} {row : Option Nat} (h : w.drew.grownBy w1 row) : w.grownBy w1 row := ⟨h.os, h.tape, h.output, h.size, h.block⟩

theorem fixB_len (n k : Nat) : (fixB n k).length = k := by
  induction k with
  | zero => rfl
  | succ k ih => simp [fixB, ih]

set_option maxRecDepth 100000 in
set_option maxHeartbeats 1600000 in
theorem wFixed_calls (w : World) (g : Nat) (v : Value) (bs : List UInt8) (n size : Nat) (hz : size = 1 ∨ size = 2 ∨ size = 4 ∨ size = 8) (hn : n ≤ 2 ^ 63 - 1) (hfit : n < 256 ^ size) (h : Wr w g v bs) (hl : Len bs 10) :
    Calls Try.prog 30 #[.pointer (some ⟨g, 0, none⟩), .int .i64 n, .int .i64 size] w fun e w' => e = .returned (.int .i64 0) ∧ Wrote w w' g v (bs ++ fixB n size) := by
  have HZ := hid hz
  have hz8 : size ≤ 8 := by omega
  clear hz
  have HL := hid hl
  clear hl
  have hq : ((n : Int) / 2 ^ (8 * size) != 0) = false := by
    have e2 : (2 : Nat) ^ (8 * size) = 256 ^ size := by rw [Nat.pow_mul]
    have e : (2 : Int) ^ (8 * size) = ((256 ^ size : Nat) : Int) := by rw [← e2]; simp
    rw [e, ← Int.natCast_ediv, Nat.div_eq_of_lt hfit]
    rfl
  clear hfit
  obtain ⟨i0, hi, hz0, hz1, hz2⟩ := info_parts info_u8
  rcases (show size < 8 ∨ 8 ≤ size by omega) with hs8 | hs8
  all_goals
    go_enter Try.func30, Try.ntmps30
    go_wp2_with (go_at_call 40; refine (sized_yes _ _ HZ.out).mono ?_; rintro e w' ⟨rfl, rfl⟩)
    go_loopw [31] (fun x wr => ∃ (k : Nat) (v1 : Value), x = .int .i64 k ∧ k ≤ size ∧ Wr wr g v1 (bs ++ fixB n k) ∧ Fr w wr (WS g v) ∧ Wn w v v1) (fun x _ => size - (intOf x).toNat)
    case atStart => exact ⟨0, v, rfl, by omega, by simpa [fixB] using h, Fr.refl w _, Wn.refl w v⟩
    case round =>
      obtain ⟨k, v1, rfl, hk, h1, hf, hw⟩ := hrel
      by_cases hlt : k < size
      · have c0 := h1.c0
        have f0 := h1.f0
        have c0a : ∀ o, (wr.alloc o).cell? ⟨g, 0, none⟩ = some v1 := fun o => (h1.alloc o).c0
        have hb : Hid (bs.length + k + 1 ≤ 140737488355328) := hid (by
          have h2 := HL.out
          unfold Len at h2
          omega)
        go_wp2
        have w8 : IntKind.i64.wrap (8 * (k : Int)) = 8 * (k : Int) := IntWalk.i64_in _ (by omega)
        have w9 : (0 : Int) ≤ 8 * (k : Int) := by omega
        have w10 : 8 * (k : Int) ≤ 64 := by omega
        have w11 : (8 * (k : Int)).toNat = 8 * k := by omega
        go_region_law (refine step_append_lies _ rfl (.tmp 38) (.tmp 44) 64 rfl 0 5 i0 (.int .u8 0) 1 1 Try.underlying64 hi hz0 hz1 hz2 rfl (by decide) _ _ _ (by simp [Act.eval, Act.put]) (h1.2.alloc _) ⟨wr.heap.size, 0, none⟩ 1 1 (cellsOf [by8 n k]) (by simp [Act.eval, Act.put]) rfl (cell_new1 wr _ _ _ (val_u8 (fix_byte n k))) (one_u8 _) (by decide) (by have := hb.out; have := fixB_len n k; simp only [List.length_append]; unfold maxLen; omega) (by have := hb.out; have := fixB_len n k; simp only [List.length_append]; omega) (by omega) _ rfl ?_; intro gn capn w1 hown' hgrow hat hlt2; have R := h1.step hf hw (by simp) hown' (grown_drew hgrow) (Wn.at_ (by simp) hat); have hcf := h1.grown_c0 (grown_drew hgrow); have c1 := hcf.1; have f1 := hcf.2; clear hown' hgrow hat hlt2 hcf c0 f0 c0a)
        all_goals
          clear w8 w9 w10 w11
          go_wp2
          go_roundw
          case rel =>
            rw [List.length_append] at R
            exact ⟨k + 1, _, by go_num, by omega, by rw [fixB, ← List.append_assoc]; exact R.1, R.2.1, R.2.2⟩
          case measure => simp [intOf]; omega
      · go_wp2
        go_ret
        obtain rfl : k = size := by omega
        exact ⟨rfl, v1, h1, hf, hw⟩

end Go.Proofs.Ytmbfcnacoijmaaa.Cw
