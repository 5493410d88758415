/- The reference's Reader: Uint, Int. Own work. -/
import Derived.Test.YtmnmmmoeeapeiaaJam
import Derived.Deep.QuietTactic
import Derived.BigQuiet
import Derived.WalkSpells
namespace Go.Proofs.Ytmnmmmoeeapeiaa.Cw
open Go.RowKit
set_option linter.unusedVariables false
set_option linter.unusedSimpArgs false

theorem lo7_lt63 (s : ByteArray) (h : (sv s 9 127 9 0 0).2.2 = 0) : lo7 s (sv s 9 127 9 0 0).2.1 ≤ 2 ^ 63 - 1 := by
  rw [← sv_val s 9 127 h]
  have := sv_lt s 9 127 9 0 0 (by simp) (by omega)
  omega

theorem Dn.small {s : ByteArray} {k j n : Nat} (h : Dn s k (j + 1) n) (hk : lo7 s k ≤ 2 ^ 63 - 1) : n ≤ 72057594037927935 := by
  have h1 := h.le
  have h2 : n * 128 ≤ n * 128 ^ (j + 1) := Nat.mul_le_mul (Nat.le_refl _) (by rw [Nat.pow_succ]; have : 0 < 128 ^ j := Nat.pow_pos (by decide); omega)
  omega

set_option maxRecDepth 100000 in
set_option maxHeartbeats 3200000 in
theorem qUint_calls (w : World) (g : Nat) (s : ByteArray) (x : Nat) (h : RR w g s x) (hs : s.size ≤ maxLen) :
    Calls Try.prog 32 #[.pointer (some ⟨g, 0, none⟩)] w fun e w' => e = .returned (.tuple #[.int .i64 (rdN 9 127 s x).1, .int .i64 (rdN 9 127 s x).2.1]) ∧ RR w' g (rdN 9 127 s x).2.2.1 (rdN 9 127 s x).2.2.2 ∧ Fr w w' (fun i => i = g) := by
  have h1 := h.c1
  have h0 := h.c0
  have f0 := h.f0
  have f1 := h.f1
  have hs2 := hs
  unfold maxLen at hs2
  by_cases hx : x = 0
  · subst hx
    have H7 := refSeven_calls s 9 127 (by omega) (by omega) (by omega) hs
    by_cases hw : (sv s 9 127 9 0 0).2.2 = 0
    · rw [rdN_ok _ _ _ hw]
      have hval := sv_val s 9 127 hw
      have h63 := lo7_lt63 s hw
      have hf := sv_facts s 9 127 9 0 0 (by simp) (by omega) hw
      generalize sv s 9 127 9 0 0 = r at *
      obtain ⟨n, k, y⟩ := r
      simp only at H7 hw hval h63 hf ⊢
      subst hw
      have hk1 := hf.1
      have hk2 := hf.2.1
      have hk3 := hf.2.2.1
      have H7h := hid H7
      have HV := hid hval
      have H63 := hid h63
      clear H7 hval h63 hf
      go_enter Try.func32, Try.ntmps32
      go_wp2_with (go_at_call 53; refine (H7h.out _).mono ?_; rintro e w' ⟨rfl, rfl⟩)
      go_loop [6, 7] (fun a i => ∃ (m : Nat) (x : Int) (j : Nat), a = .int .i64 m ∧ i = .int .i64 x ∧ Hid (x + 1 = j) ∧ j ≤ k ∧ Dn s k j m) (fun _ i => (intOf i + 1).toNat)
      case atStart => exact ⟨0, (k : Int) - 1, k, rfl, rfl, hid (by omega), Nat.le_refl _, Dn.start s k⟩
      case round =>
        obtain ⟨m, x, j, rfl, rfl, hxj, hjk, hd⟩ := hrel
        cases j with
        | zero =>
          obtain rfl : x = -1 := by have := hxj.out; omega
          have hm : m = n := by
            have h2 := HV.out
            unfold Dn at hd
            simp only [lo7] at hd
            omega
          have HM := hid hm
          clear hm
          go_wp2
          go_ret2
          rw [← HM.out]
          exact ⟨rfl, h.s0 _, Fr.set1 w g 0 _⟩
        | succ j =>
          obtain rfl : x = (j : Int) := by have := hxj.out; omega
          have hjs : j < s.size := by omega
          have hsm := hd.small H63.out
          have hc : s[j].toNat < 256 := UInt8.toNat_lt _
          have hst := hid hd.step
          go_wp2
          go_round
          case rel => exact ⟨m * 128 + byt s j % 128, (j : Int) - 1, j, by rw [byt_eq s j hjs]; simp, rfl, hid (by omega), by omega, hst.out⟩
          case measure => simp [intOf]
    · rw [rdN_wrong _ _ _ hw]
      have hy : (((sv s 9 127 9 0 0).2.2 : Int) != 0) = true := by rw [bne_iff_ne]; omega
      clear hw
      generalize sv s 9 127 9 0 0 = r at *
      obtain ⟨n, k, y⟩ := r
      simp only at H7 hy ⊢
      have H7h := hid H7
      clear H7
      go_enter Try.func32, Try.ntmps32
      go_wp2_with (go_at_call 53; refine (H7h.out _).mono ?_; rintro e w' ⟨rfl, rfl⟩)
      go_ret2
      exact ⟨rfl, h.s1 y, Fr.set1 w g 1 _⟩
  · rw [rdN_failed _ _ _ _ hx]
    have hy : ((x : Int) != 0) = true := by rw [bne_iff_ne]; omega
    clear hx
    go_enter Try.func32, Try.ntmps32
    go_wp2
    go_quiet (fail)
    go_wp2
    go_ret2
    exact ⟨rfl, h, (Fr.refl w _).drewN _⟩
end Go.Proofs.Ytmnmmmoeeapeiaa.Cw

/- The reference's Reader: Int. Own work. -/
namespace Go.Proofs.Ytmnmmmoeeapeiaa.Cw
open Go.RowKit
set_option linter.unusedVariables false
set_option linter.unusedSimpArgs false

theorem lo7_lt64 (s : ByteArray) (h : (sv s 10 1 10 0 0).2.2 = 0) : lo7 s (sv s 10 1 10 0 0).2.1 ≤ 2 ^ 64 - 1 := by
  rw [← sv_val s 10 1 h]
  have := sv_lt10 s 10 0 0 (by simp) (by omega)
  omega

theorem Dn.small64 {s : ByteArray} {k j n : Nat} (h : Dn s k (j + 1) n) (hk : lo7 s k ≤ 2 ^ 64 - 1) : n ≤ 144115188075855871 := by
  have h1 := h.le
  have h2 : n * 128 ≤ n * 128 ^ (j + 1) := Nat.mul_le_mul (Nat.le_refl _) (by rw [Nat.pow_succ]; have : 0 < 128 ^ j := Nat.pow_pos (by decide); omega)
  omega

theorem Dn.small2 {s : ByteArray} {k j n : Nat} (h : Dn s k (j + 1 + 1) n) (hk : lo7 s k ≤ 2 ^ 64 - 1) : n ≤ 1125899906842623 := by
  have h1 := h.le
  have h2 : n * 16384 ≤ n * 128 ^ (j + 1 + 1) := Nat.mul_le_mul (Nat.le_refl _) (by rw [Nat.pow_succ, Nat.pow_succ]; have : 0 < 128 ^ j := Nat.pow_pos (by decide); omega)
  omega

theorem zz_odd (n m c : Nat) (h : m * 128 + c = n) (hc : c % 2 = 1) : -((m : Int) * 64 + (c : Int) / 2) - 1 = zz n := by
  unfold zz
  rw [if_pos (by omega)]
  omega
theorem zz_even (n m c : Nat) (h : m * 128 + c = n) (hc : ¬ c % 2 = 1) : (m : Int) * 64 + (c : Int) / 2 = zz n := by
  unfold zz
  rw [if_neg (by omega)]
  omega

set_option maxRecDepth 100000 in
set_option maxHeartbeats 3200000 in
theorem qInt_calls (w : World) (g : Nat) (s : ByteArray) (x : Nat) (h : RR w g s x) (hs : s.size ≤ maxLen) :
    Calls Try.prog 54 #[.pointer (some ⟨g, 0, none⟩)] w fun e w' => e = .returned (.tuple #[.int .i64 (zz (rdN 10 1 s x).1), .int .i64 (rdN 10 1 s x).2.1]) ∧ RR w' g (rdN 10 1 s x).2.2.1 (rdN 10 1 s x).2.2.2 ∧ Fr w w' (fun i => i = g) := by
  have h1 := h.c1
  have h0 := h.c0
  have f0 := h.f0
  have f1 := h.f1
  have hs2 := hs
  unfold maxLen at hs2
  by_cases hx : x = 0
  · subst hx
    have H7 := refSeven_calls s 10 1 (by omega) (by omega) (by omega) hs
    by_cases hw : (sv s 10 1 10 0 0).2.2 = 0
    · rw [rdN_ok _ _ _ hw]
      have hval := sv_val s 10 1 hw
      have h63 := lo7_lt64 s hw
      have hf := sv_facts s 10 1 10 0 0 (by simp) (by omega) hw
      generalize sv s 10 1 10 0 0 = r at *
      obtain ⟨n, k, y⟩ := r
      simp only at H7 hw hval h63 hf ⊢
      subst hw
      have hk1 := hf.1
      have hk2 := hf.2.1
      have hk3 := hf.2.2.1
      have H7h := hid H7
      have HV := hid hval
      have H63 := hid h63
      clear H7 hval h63 hf
      have hs0 : 0 < s.size := by omega
      have hc0 : s[0].toNat < 256 := UInt8.toNat_lt _
      by_cases hodd : s[0].toNat % 128 % 2 = 1
      · have hob : ((s[0].toNat : Int) % 128 % 2 == 1) = true := by rw [beq_iff_eq]; omega
        have HO := hid hodd
        clear hodd
        go_enter Try.func54, Try.ntmps54
        go_wp2_with (go_at_call 53; refine (H7h.out _).mono ?_; rintro e w' ⟨rfl, rfl⟩)
        go_loop [7, 8] (fun a i => ∃ (m : Nat) (x : Int) (j : Nat), a = .int .i64 m ∧ i = .int .i64 x ∧ Hid (x = j) ∧ j + 1 ≤ k ∧ Dn s k (j + 1) m) (fun _ i => (intOf i).toNat)
        case atStart => exact ⟨0, (k : Int) - 1, k - 1, rfl, rfl, hid (by omega), by omega, by rw [show k - 1 + 1 = k by omega]; exact Dn.start s k⟩
        case round =>
          obtain ⟨m, x, j, rfl, rfl, hxj, hjk, hd⟩ := hrel
          cases j with
          | zero =>
            have hsm := hd.small64 H63.out
            obtain rfl : x = 0 := by have := hxj.out; omega
            have hm : m * 128 + s[0].toNat % 128 = n := by
              have h2 := HV.out
              unfold Dn at hd
              simp only [lo7] at hd
              rw [byt_eq s 0 hs0] at hd
              omega
            have HZ := hid (zz_odd n m (s[0].toNat % 128) hm HO.out)
            clear hm
            go_wp2
            go_ret2
            exact ⟨ret2e (by rw [← HZ.out]; simp) rfl, h.s0 _, Fr.set1 w g 0 _⟩
          | succ j =>
            have hsm := hd.small2 H63.out
            obtain rfl : x = ((j + 1 : Nat) : Int) := by have := hxj.out; omega
            have hjs : j + 1 < s.size := by omega
            have hc : s[j + 1].toNat < 256 := UInt8.toNat_lt _
            have hst := hid hd.step
            go_wp2
            go_round
            case rel => exact ⟨m * 128 + byt s (j + 1) % 128, (j : Int), j, by rw [byt_eq s (j + 1) hjs]; simp, rfl, hid rfl, by omega, hst.out⟩
            case measure => simp [intOf]
      · have hob : ((s[0].toNat : Int) % 128 % 2 == 1) = false := by rw [beq_eq_false_iff_ne]; omega
        have HO := hid hodd
        clear hodd
        go_enter Try.func54, Try.ntmps54
        go_wp2_with (go_at_call 53; refine (H7h.out _).mono ?_; rintro e w' ⟨rfl, rfl⟩)
        go_loop [7, 8] (fun a i => ∃ (m : Nat) (x : Int) (j : Nat), a = .int .i64 m ∧ i = .int .i64 x ∧ Hid (x = j) ∧ j + 1 ≤ k ∧ Dn s k (j + 1) m) (fun _ i => (intOf i).toNat)
        case atStart => exact ⟨0, (k : Int) - 1, k - 1, rfl, rfl, hid (by omega), by omega, by rw [show k - 1 + 1 = k by omega]; exact Dn.start s k⟩
        case round =>
          obtain ⟨m, x, j, rfl, rfl, hxj, hjk, hd⟩ := hrel
          cases j with
          | zero =>
            have hsm := hd.small64 H63.out
            obtain rfl : x = 0 := by have := hxj.out; omega
            have hm : m * 128 + s[0].toNat % 128 = n := by
              have h2 := HV.out
              unfold Dn at hd
              simp only [lo7] at hd
              rw [byt_eq s 0 hs0] at hd
              omega
            have HZ := hid (zz_even n m (s[0].toNat % 128) hm HO.out)
            clear hm
            go_wp2
            go_ret2
            exact ⟨ret2e (by rw [← HZ.out]; simp) rfl, h.s0 _, Fr.set1 w g 0 _⟩
          | succ j =>
            have hsm := hd.small2 H63.out
            obtain rfl : x = ((j + 1 : Nat) : Int) := by have := hxj.out; omega
            have hjs : j + 1 < s.size := by omega
            have hc : s[j + 1].toNat < 256 := UInt8.toNat_lt _
            have hst := hid hd.step
            go_wp2
            go_round
            case rel => exact ⟨m * 128 + byt s (j + 1) % 128, (j : Int), j, by rw [byt_eq s (j + 1) hjs]; simp, rfl, hid rfl, by omega, hst.out⟩
            case measure => simp [intOf]
    · rw [rdN_wrong _ _ _ hw]
      have hy : (((sv s 10 1 10 0 0).2.2 : Int) != 0) = true := by rw [bne_iff_ne]; omega
      clear hw
      generalize sv s 10 1 10 0 0 = r at *
      obtain ⟨n, k, y⟩ := r
      simp only at H7 hy ⊢
      have H7h := hid H7
      clear H7
      go_enter Try.func54, Try.ntmps54
      go_wp2_with (go_at_call 53; refine (H7h.out _).mono ?_; rintro e w' ⟨rfl, rfl⟩)
      go_ret2
      exact ⟨rfl, h.s1 y, Fr.set1 w g 1 _⟩
  · rw [rdN_failed _ _ _ _ hx]
    have hy : ((x : Int) != 0) = true := by rw [bne_iff_ne]; omega
    clear hx
    go_enter Try.func54, Try.ntmps54
    go_wp2
    go_quiet (fail)
    go_wp2
    go_ret2
    exact ⟨rfl, h, (Fr.refl w _).drewN _⟩
end Go.Proofs.Ytmnmmmoeeapeiaa.Cw

/- The reference's Reader: Fixed, End. Own work. -/
namespace Go.Proofs.Ytmnmmmoeeapeiaa.Cw
open Go.RowKit
set_option linter.unusedVariables false
set_option linter.unusedSimpArgs false

/-- What a loop from above has. -/
def Df (s : ByteArray) (k j n : Nat) : Prop := n * 256 ^ j + le s j = le s k
theorem Df.start (s : ByteArray) (k : Nat) : Df s k k 0 := by unfold Df; omega
theorem Df.step {s : ByteArray} {k j n : Nat} (h : Df s k (j + 1) n) : Df s k j (n * 256 + byt s j) := by
  unfold Df at *
  simp only [le] at h
  rw [Nat.pow_succ] at h
  rw [← h, Nat.add_mul, Nat.mul_assoc, Nat.mul_comm 256 (256 ^ j)]
  omega
theorem Df.small {s : ByteArray} {k j n : Nat} (h : Df s k (j + 1) n) (hk : le s k ≤ 2 ^ 63 - 1) : n ≤ 36028797018963967 := by
  have h1 : n * 256 ^ (j + 1) ≤ le s k := by unfold Df at h; omega
  have h2 : n * 256 ≤ n * 256 ^ (j + 1) := Nat.mul_le_mul (Nat.le_refl _) (by rw [Nat.pow_succ]; have : 0 < 256 ^ j := Nat.pow_pos (by decide); omega)
  omega

theorem le_small (s : ByteArray) (size : Nat) (h : size ≤ 7) : le s size < 72057594037927936 :=
  Nat.lt_of_lt_of_le (le_lt s size) (Nat.le_trans (Nat.pow_le_pow_right (by decide) h) (by decide))
theorem le_eight (s : ByteArray) : 9223372036854775808 ≤ le s 8 ↔ 127 < byt s 7 := by
  have h7 := le_lt s 7
  have hb := byt_lt s 7
  have e : le s 8 = le s 7 + byt s 7 * 256 ^ 7 := rfl
  rw [e]
  constructor <;> intro h <;> omega

end Go.Proofs.Ytmnmmmoeeapeiaa.Cw
