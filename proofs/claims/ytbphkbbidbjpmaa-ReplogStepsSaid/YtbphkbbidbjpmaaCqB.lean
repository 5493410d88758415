/- The reference's Reader: Uint, Int. Own work. -/
import Derived.Test.YtbphkbbidbjpmaaCqA
import Derived.Deep.QuietTactic
import Derived.BigQuiet
import Derived.WalkSpells
namespace Go.Proofs.Ytbphkbbidbjpmaa.Cw
open Go.RowKit
set_option linter.unusedVariables false
set_option linter.unusedSimpArgs false

theorem lo7_lt63 (s : ByteArray) (h : (sv s 9 127 9 0 0).2.2 = 0) : lo7 s (sv s 9 127 9 0 0).2.1 ≤ 2 ^ 63 - 1 := by
  rw [← sv_val s 9 127 h]
  have := sv_lt s 9 127 9 0 0 (by simp) (by omega)
  omega

theorem Dn.small {s : ByteArray} {k j n : Nat} (h : Dn s k (j + 1) n) (hk : lo7 s k ≤ 2 ^ 63 - 1) : n ≤ 72057594037927935 := by
  have h1 := h.le
  have h2 : n * 128 ≤ n * 128 ^ (j + 1) := Nat.mul_le_mul (Nat.le_refl _) (by rw [Nat.pow_succ]; have : 0 < 128 ^ j := Nat.pow_pos (by decide); omega)
  omega

set_option maxRecDepth 100000 in
set_option maxHeartbeats 3200000 in
theorem qUint_calls (w : World) (g : Nat) (s : ByteArray) (x : Nat) (h : RR w g s x) (hs : s.size ≤ maxLen) :
    Calls Try.prog 45 #[.pointer (some ⟨g, 0, none⟩)] w fun e w' => e = .returned (.tuple #[.int .i64 (rdN 9 127 s x).1, .int .i64 (rdN 9 127 s x).2.1]) ∧ RR w' g (rdN 9 127 s x).2.2.1 (rdN 9 127 s x).2.2.2 ∧ Fr w w' (fun i => i = g) := by
  have h1 := h.c1
  have h0 := h.c0
  have f0 := h.f0
  have f1 := h.f1
  have hs2 := hs
  unfold maxLen at hs2
  by_cases hx : x = 0
  · subst hx
    have H7 := refSeven_calls s 9 127 (by omega) (by omega) (by omega) hs
    by_cases hw : (sv s 9 127 9 0 0).2.2 = 0
    · rw [rdN_ok _ _ _ hw]
      have hval := sv_val s 9 127 hw
      have h63 := lo7_lt63 s hw
      have hf := sv_facts s 9 127 9 0 0 (by simp) (by omega) hw
      generalize sv s 9 127 9 0 0 = r at *
      obtain ⟨n, k, y⟩ := r
      simp only at H7 hw hval h63 hf ⊢
      subst hw
      have hk1 := hf.1
      have hk2 := hf.2.1
      have hk3 := hf.2.2.1
      have H7h := hid H7
      have HV := hid hval
      have H63 := hid h63
      clear H7 hval h63 hf
      go_enter Try.func45, Try.ntmps45
      go_wp2_with (go_at_call 57; refine (H7h.out _).mono ?_; rintro e w' ⟨rfl, rfl⟩)
      go_loop [6, 7] (fun a i => ∃ (m : Nat) (x : Int) (j : Nat), a = .int .i64 m ∧ i = .int .i64 x ∧ Hid (x + 1 = j) ∧ j ≤ k ∧ Dn s k j m) (fun _ i => (intOf i + 1).toNat)
      case atStart => exact ⟨0, (k : Int) - 1, k, rfl, rfl, hid (by omega), Nat.le_refl _, Dn.start s k⟩
      case round =>
        obtain ⟨m, x, j, rfl, rfl, hxj, hjk, hd⟩ := hrel
        cases j with
        | zero =>
          obtain rfl : x = -1 := by have := hxj.out; omega
          have hm : m = n := by
            have h2 := HV.out
            unfold Dn at hd
            simp only [lo7] at hd
            omega
          have HM := hid hm
          clear hm
          go_wp2
          go_ret2
          rw [← HM.out]
          exact ⟨rfl, h.s0 _, Fr.set1 w g 0 _⟩
        | succ j =>
          obtain rfl : x = (j : Int) := by have := hxj.out; omega
          have hjs : j < s.size := by omega
          have hsm := hd.small H63.out
          have hc : s[j].toNat < 256 := UInt8.toNat_lt _
          have hst := hid hd.step
          go_wp2
          go_round
          case rel => exact ⟨m * 128 + byt s j % 128, (j : Int) - 1, j, by rw [byt_eq s j hjs]; simp, rfl, hid (by omega), by omega, hst.out⟩
          case measure => simp [intOf]
    · rw [rdN_wrong _ _ _ hw]
      have hy : (((sv s 9 127 9 0 0).2.2 : Int) != 0) = true := by rw [bne_iff_ne]; omega
      clear hw
      generalize sv s 9 127 9 0 0 = r at *
      obtain ⟨n, k, y⟩ := r
      simp only at H7 hy ⊢
      have H7h := hid H7
      clear H7
      go_enter Try.func45, Try.ntmps45
      go_wp2_with (go_at_call 57; refine (H7h.out _).mono ?_; rintro e w' ⟨rfl, rfl⟩)
      go_ret2
      exact ⟨rfl, h.s1 y, Fr.set1 w g 1 _⟩
  · rw [rdN_failed _ _ _ _ hx]
    have hy : ((x : Int) != 0) = true := by rw [bne_iff_ne]; omega
    clear hx
    go_enter Try.func45, Try.ntmps45
    go_wp2
    go_quiet (fail)
    go_wp2
    go_ret2
    exact ⟨rfl, h, (Fr.refl w _).drewN _⟩
end Go.Proofs.Ytbphkbbidbjpmaa.Cw
