/- The reference's Reader: Int. Own work. -/
import Derived.Test.YtbphkbbidbjpmaaCqB
namespace Go.Proofs.Ytbphkbbidbjpmaa.Cw
open Go.RowKit
set_option linter.unusedVariables false
set_option linter.unusedSimpArgs false

theorem lo7_lt64 (s : ByteArray) (h : (sv s 10 1 10 0 0).2.2 = 0) : lo7 s (sv s 10 1 10 0 0).2.1 ≤ 2 ^ 64 - 1 := by
  rw [← sv_val s 10 1 h]
  have := sv_lt10 s 10 0 0 (by simp) (by omega)
  omega

theorem Dn.small64 {s : ByteArray} {k j n : Nat} (h : Dn s k (j + 1) n) (hk : lo7 s k ≤ 2 ^ 64 - 1) : n ≤ 144115188075855871 := by
  have h1 := h.le
  have h2 : n * 128 ≤ n * 128 ^ (j + 1) := Nat.mul_le_mul (Nat.le_refl _) (by rw [Nat.pow_succ]; have : 0 < 128 ^ j := Nat.pow_pos (by decide); omega)
  omega

theorem Dn.small2 {s : ByteArray} {k j n : Nat} (h : Dn s k (j + 1 + 1) n) (hk : lo7 s k ≤ 2 ^ 64 - 1) : n ≤ 1125899906842623 := by
  have h1 := h.le
  have h2 : n * 16384 ≤ n * 128 ^ (j + 1 + 1) := Nat.mul_le_mul (Nat.le_refl _) (by rw [Nat.pow_succ, Nat.pow_succ]; have : 0 < 128 ^ j := Nat.pow_pos (by decide); omega)
  omega

theorem zz_odd (n m c : Nat) (h : m * 128 + c = n) (hc : c % 2 = 1) : -((m : Int) * 64 + (c : Int) / 2) - 1 = zz n := by
  unfold zz
  rw [if_pos (by omega)]
  omega
theorem zz_even (n m c : Nat) (h : m * 128 + c = n) (hc : ¬ c % 2 = 1) : (m : Int) * 64 + (c : Int) / 2 = zz n := by
  unfold zz
  rw [if_neg (by omega)]
  omega

set_option maxRecDepth 100000 in
set_option maxHeartbeats 3200000 in
theorem qInt_calls (w : World) (g : Nat) (s : ByteArray) (x : Nat) (h : RR w g s x) (hs : s.size ≤ maxLen) :
    Calls Try.prog 46 #[.pointer (some ⟨g, 0, none⟩)] w fun e w' => e = .returned (.tuple #[.int .i64 (zz (rdN 10 1 s x).1), .int .i64 (rdN 10 1 s x).2.1]) ∧ RR w' g (rdN 10 1 s x).2.2.1 (rdN 10 1 s x).2.2.2 ∧ Fr w w' (fun i => i = g) := by
  have h1 := h.c1
  have h0 := h.c0
  have f0 := h.f0
  have f1 := h.f1
  have hs2 := hs
  unfold maxLen at hs2
  by_cases hx : x = 0
  · subst hx
    have H7 := refSeven_calls s 10 1 (by omega) (by omega) (by omega) hs
    by_cases hw : (sv s 10 1 10 0 0).2.2 = 0
    · rw [rdN_ok _ _ _ hw]
      have hval := sv_val s 10 1 hw
      have h63 := lo7_lt64 s hw
      have hf := sv_facts s 10 1 10 0 0 (by simp) (by omega) hw
      generalize sv s 10 1 10 0 0 = r at *
      obtain ⟨n, k, y⟩ := r
      simp only at H7 hw hval h63 hf ⊢
      subst hw
      have hk1 := hf.1
      have hk2 := hf.2.1
      have hk3 := hf.2.2.1
      have H7h := hid H7
      have HV := hid hval
      have H63 := hid h63
      clear H7 hval h63 hf
      have hs0 : 0 < s.size := by omega
      have hc0 : s[0].toNat < 256 := UInt8.toNat_lt _
      by_cases hodd : s[0].toNat % 128 % 2 = 1
      · have hob : ((s[0].toNat : Int) % 128 % 2 == 1) = true := by rw [beq_iff_eq]; omega
        have HO := hid hodd
        clear hodd
        go_enter Try.func46, Try.ntmps46
        go_wp2_with (go_at_call 57; refine (H7h.out _).mono ?_; rintro e w' ⟨rfl, rfl⟩)
        go_loop [7, 8] (fun a i => ∃ (m : Nat) (x : Int) (j : Nat), a = .int .i64 m ∧ i = .int .i64 x ∧ Hid (x = j) ∧ j + 1 ≤ k ∧ Dn s k (j + 1) m) (fun _ i => (intOf i).toNat)
        case atStart => exact ⟨0, (k : Int) - 1, k - 1, rfl, rfl, hid (by omega), by omega, by rw [show k - 1 + 1 = k by omega]; exact Dn.start s k⟩
        case round =>
          obtain ⟨m, x, j, rfl, rfl, hxj, hjk, hd⟩ := hrel
          cases j with
          | zero =>
            have hsm := hd.small64 H63.out
            obtain rfl : x = 0 := by have := hxj.out; omega
            have hm : m * 128 + s[0].toNat % 128 = n := by
              have h2 := HV.out
              unfold Dn at hd
              simp only [lo7] at hd
              rw [byt_eq s 0 hs0] at hd
              omega
            have HZ := hid (zz_odd n m (s[0].toNat % 128) hm HO.out)
            clear hm
            go_wp2
            go_ret2
            exact ⟨ret2e (by rw [← HZ.out]; simp) rfl, h.s0 _, Fr.set1 w g 0 _⟩
          | succ j =>
            have hsm := hd.small2 H63.out
            obtain rfl : x = ((j + 1 : Nat) : Int) := by have := hxj.out; omega
            have hjs : j + 1 < s.size := by omega
            have hc : s[j + 1].toNat < 256 := UInt8.toNat_lt _
            have hst := hid hd.step
            go_wp2
            go_round
            case rel => exact ⟨m * 128 + byt s (j + 1) % 128, (j : Int), j, by rw [byt_eq s (j + 1) hjs]; simp, rfl, hid rfl, by omega, hst.out⟩
            case measure => simp [intOf]
      · have hob : ((s[0].toNat : Int) % 128 % 2 == 1) = false := by rw [beq_eq_false_iff_ne]; omega
        have HO := hid hodd
        clear hodd
        go_enter Try.func46, Try.ntmps46
        go_wp2_with (go_at_call 57; refine (H7h.out _).mono ?_; rintro e w' ⟨rfl, rfl⟩)
        go_loop [7, 8] (fun a i => ∃ (m : Nat) (x : Int) (j : Nat), a = .int .i64 m ∧ i = .int .i64 x ∧ Hid (x = j) ∧ j + 1 ≤ k ∧ Dn s k (j + 1) m) (fun _ i => (intOf i).toNat)
        case atStart => exact ⟨0, (k : Int) - 1, k - 1, rfl, rfl, hid (by omega), by omega, by rw [show k - 1 + 1 = k by omega]; exact Dn.start s k⟩
        case round =>
          obtain ⟨m, x, j, rfl, rfl, hxj, hjk, hd⟩ := hrel
          cases j with
          | zero =>
            have hsm := hd.small64 H63.out
            obtain rfl : x = 0 := by have := hxj.out; omega
            have hm : m * 128 + s[0].toNat % 128 = n := by
              have h2 := HV.out
              unfold Dn at hd
              simp only [lo7] at hd
              rw [byt_eq s 0 hs0] at hd
              omega
            have HZ := hid (zz_even n m (s[0].toNat % 128) hm HO.out)
            clear hm
            go_wp2
            go_ret2
            exact ⟨ret2e (by rw [← HZ.out]; simp) rfl, h.s0 _, Fr.set1 w g 0 _⟩
          | succ j =>
            have hsm := hd.small2 H63.out
            obtain rfl : x = ((j + 1 : Nat) : Int) := by have := hxj.out; omega
            have hjs : j + 1 < s.size := by omega
            have hc : s[j + 1].toNat < 256 := UInt8.toNat_lt _
            have hst := hid hd.step
            go_wp2
            go_round
            case rel => exact ⟨m * 128 + byt s (j + 1) % 128, (j : Int), j, by rw [byt_eq s (j + 1) hjs]; simp, rfl, hid rfl, by omega, hst.out⟩
            case measure => simp [intOf]
    · rw [rdN_wrong _ _ _ hw]
      have hy : (((sv s 10 1 10 0 0).2.2 : Int) != 0) = true := by rw [bne_iff_ne]; omega
      clear hw
      generalize sv s 10 1 10 0 0 = r at *
      obtain ⟨n, k, y⟩ := r
      simp only at H7 hy ⊢
      have H7h := hid H7
      clear H7
      go_enter Try.func46, Try.ntmps46
      go_wp2_with (go_at_call 57; refine (H7h.out _).mono ?_; rintro e w' ⟨rfl, rfl⟩)
      go_ret2
      exact ⟨rfl, h.s1 y, Fr.set1 w g 1 _⟩
  · rw [rdN_failed _ _ _ _ hx]
    have hy : ((x : Int) != 0) = true := by rw [bne_iff_ne]; omega
    clear hx
    go_enter Try.func46, Try.ntmps46
    go_wp2
    go_quiet (fail)
    go_wp2
    go_ret2
    exact ⟨rfl, h, (Fr.refl w _).drewN _⟩
end Go.Proofs.Ytbphkbbidbjpmaa.Cw
