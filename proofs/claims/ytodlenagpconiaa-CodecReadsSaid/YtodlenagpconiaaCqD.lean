/- The reference's Reader: Fixed, End. Own work. -/
import Derived.Test.YtodlenagpconiaaCqC
namespace Go.Proofs.Ytodlenagpconiaa.Cw
open Go.RowKit
set_option linter.unusedVariables false
set_option linter.unusedSimpArgs false

/-- What a loop from above has. -/
def Df (s : ByteArray) (k j n : Nat) : Prop := n * 256 ^ j + le s j = le s k
theorem Df.start (s : ByteArray) (k : Nat) : Df s k k 0 := by unfold Df; omega
theorem Df.step {s : ByteArray} {k j n : Nat} (h : Df s k (j + 1) n) : Df s k j (n * 256 + byt s j) := by
  unfold Df at *
  simp only [le] at h
  rw [Nat.pow_succ] at h
  rw [← h, Nat.add_mul, Nat.mul_assoc, Nat.mul_comm 256 (256 ^ j)]
  omega
theorem Df.small {s : ByteArray} {k j n : Nat} (h : Df s k (j + 1) n) (hk : le s k ≤ 2 ^ 63 - 1) : n ≤ 36028797018963967 := by
  have h1 : n * 256 ^ (j + 1) ≤ le s k := by unfold Df at h; omega
  have h2 : n * 256 ≤ n * 256 ^ (j + 1) := Nat.mul_le_mul (Nat.le_refl _) (by rw [Nat.pow_succ]; have : 0 < 256 ^ j := Nat.pow_pos (by decide); omega)
  omega

theorem le_small (s : ByteArray) (size : Nat) (h : size ≤ 7) : le s size < 72057594037927936 :=
  Nat.lt_of_lt_of_le (le_lt s size) (Nat.le_trans (Nat.pow_le_pow_right (by decide) h) (by decide))
theorem le_eight (s : ByteArray) : 9223372036854775808 ≤ le s 8 ↔ 127 < byt s 7 := by
  have h7 := le_lt s 7
  have hb := byt_lt s 7
  have e : le s 8 = le s 7 + byt s 7 * 256 ^ 7 := rfl
  rw [e]
  constructor <;> intro h <;> omega

theorem qEnd_calls (w : World) (g : Nat) (s : ByteArray) (x : Nat) (h : RR w g s x) :
    Calls Try.prog 28 #[.pointer (some ⟨g, 0, none⟩)] w fun e w' => e = .returned (.int .i64 (endOf s x)) ∧ w = w' := by
  have h0 := h.c0
  have h1 := h.c1
  clear h
  by_cases hx : x = 0
  · by_cases he : s.size = 0
    · subst hx
      have hq : s.toList.isEmpty = true := empty_of s he
      have hr : Hid (endOf s 0 = 0) := hid (by unfold endOf; rw [if_pos rfl, if_pos he])
      clear he
      go_enter Try.func28, Try.ntmps28
      go_wp2
      go_ret
      exact ⟨ret1 (by rw [hr.out]; rfl), rfl⟩
    · subst hx
      have hq := full_of s he
      have hr : Hid (endOf s 0 = 4) := hid (by unfold endOf; rw [if_pos rfl, if_neg he])
      clear he
      go_enter Try.func28, Try.ntmps28
      go_wp2
      go_ret
      exact ⟨ret1 (by rw [hr.out]; rfl), rfl⟩
  · have hy : ((x : Int) != 0) = true := by rw [bne_iff_ne]; omega
    have hr : Hid (endOf s x = x) := hid (if_neg hx)
    clear hx
    go_enter Try.func28, Try.ntmps28
    go_wp2
    go_ret
    exact ⟨ret1 (by rw [hr.out]), rfl⟩

theorem qFixed_no (w : World) (g : Nat) (size : Int) (hz : ¬ (size = 1 ∨ size = 2 ∨ size = 4 ∨ size = 8)) :
    Calls Try.prog 24 #[.pointer (some ⟨g, 0, none⟩), .int .i64 size] w fun e w' => e = .returned (.tuple #[.int .i64 0, .int .i64 1]) ∧ w = w' := by
  have HZ := hid hz
  clear hz
  go_enter Try.func24, Try.ntmps24
  go_wp2_with (go_at_call 29; refine (refSized_no _ _ HZ.out).mono ?_; rintro e w' ⟨rfl, rfl⟩)
  go_ret2
  exact ⟨rfl, rfl⟩

set_option maxRecDepth 100000 in
set_option maxHeartbeats 3200000 in
theorem qFixed_ok (w : World) (g : Nat) (s : ByteArray) (size : Nat) (hz : size = 1 ∨ size = 2 ∨ size = 4 ∨ size = 8) (h : RR w g s 0) (hs : s.size ≤ maxLen) (hc : size ≤ s.size) (h63 : le s size ≤ 2 ^ 63 - 1) (hsz : size < 8 ∨ size = 8 ∧ byt s 7 ≤ 127) :
    Calls Try.prog 24 #[.pointer (some ⟨g, 0, none⟩), .int .i64 size] w fun e w' => e = .returned (.tuple #[.int .i64 (le s size), .int .i64 0]) ∧ RR w' g (s.extract size s.size) 0 ∧ Fr w w' (fun i => i = g) := by
  have h1 := h.c1
  have h0 := h.c0
  have f0 := h.f0
  have f1 := h.f1
  have HZ := hid hz
  have hz8 : size ≤ 8 := by omega
  have hz1 : 1 ≤ size := by omega
  have H63 := hid h63
  clear hz h63
  have hs2 := hs
  unfold maxLen at hs2
  rcases hsz with h8 | ⟨h8, hb7⟩
  · have hb8 : ((size : Int) == 8) = false := by rw [beq_eq_false_iff_ne]; omega
    go_enter Try.func24, Try.ntmps24
    go_wp2_with (go_at_call 29; refine (refSized_yes _ _ HZ.out).mono ?_; rintro e w' ⟨rfl, rfl⟩)
    go_loop [6, 7] (fun a i => ∃ (m : Nat) (x : Int) (j : Nat), a = .int .i64 m ∧ i = .int .i64 x ∧ Hid (x + 1 = j) ∧ j ≤ size ∧ Df s size j m) (fun _ i => (intOf i + 1).toNat)
    case atStart => exact ⟨0, (size : Int) - 1, size, rfl, rfl, hid (by omega), Nat.le_refl _, Df.start s size⟩
    case round =>
      obtain ⟨m, x, j, rfl, rfl, hxj, hjk, hd⟩ := hrel
      cases j with
      | zero =>
        obtain rfl : x = -1 := by have := hxj.out; omega
        have hm : m = le s size := by
          unfold Df at hd
          have e0 : le s 0 = 0 := rfl
          rw [e0] at hd
          omega
        have HM := hid hm
        clear hm
        go_wp2
        go_ret2
        rw [← HM.out]
        exact ⟨rfl, h.s0 _, Fr.set1 w g 0 _⟩
      | succ j =>
        obtain rfl : x = (j : Int) := by have := hxj.out; omega
        have hjs : j < s.size := by omega
        have hsm := hd.small H63.out
        have hc : s[j].toNat < 256 := UInt8.toNat_lt _
        have hst := hid hd.step
        go_wp2
        go_round
        case rel => exact ⟨m * 256 + byt s j, (j : Int) - 1, j, by rw [byt_eq s j hjs]; simp, rfl, hid (by omega), by omega, hst.out⟩
        case measure => simp [intOf]
  · subst h8
    have h7s : 7 < s.size := by omega
    have hb77 : s[7].toNat ≤ 127 := by rw [← byt_eq s 7 h7s]; exact hb7
    have hc77 : s[7].toNat < 256 := UInt8.toNat_lt _
    clear hb7
    go_enter Try.func24, Try.ntmps24
    go_wp2_with (go_at_call 29; refine (refSized_yes _ _ HZ.out).mono ?_; rintro e w' ⟨rfl, rfl⟩)
    go_loop [6, 7] (fun a i => ∃ (m : Nat) (x : Int) (j : Nat), a = .int .i64 m ∧ i = .int .i64 x ∧ Hid (x + 1 = j) ∧ j ≤ 8 ∧ Df s 8 j m) (fun _ i => (intOf i + 1).toNat)
    case atStart => exact ⟨0, 7, 8, rfl, rfl, hid (by omega), Nat.le_refl _, Df.start s 8⟩
    case round =>
      obtain ⟨m, x, j, rfl, rfl, hxj, hjk, hd⟩ := hrel
      cases j with
      | zero =>
        obtain rfl : x = -1 := by have := hxj.out; omega
        have hm : m = le s 8 := by
          unfold Df at hd
          have e0 : le s 0 = 0 := rfl
          rw [e0] at hd
          omega
        have HM := hid hm
        clear hm
        go_wp2
        go_ret2
        rw [← HM.out]
        exact ⟨rfl, h.s0 _, Fr.set1 w g 0 _⟩
      | succ j =>
        obtain rfl : x = (j : Int) := by have := hxj.out; omega
        have hjs : j < s.size := by omega
        have hsm := hd.small H63.out
        have hc : s[j].toNat < 256 := UInt8.toNat_lt _
        have hst := hid hd.step
        go_wp2
        go_round
        case rel => exact ⟨m * 256 + byt s j, (j : Int) - 1, j, by rw [byt_eq s j hjs]; simp, rfl, hid (by omega), by omega, hst.out⟩
        case measure => simp [intOf]

set_option maxRecDepth 100000 in
set_option maxHeartbeats 3200000 in
theorem qFixed_calls (w : World) (g : Nat) (s : ByteArray) (x : Nat) (size : Nat) (hz : size = 1 ∨ size = 2 ∨ size = 4 ∨ size = 8) (h : RR w g s x) (hs : s.size ≤ maxLen) :
    Calls Try.prog 24 #[.pointer (some ⟨g, 0, none⟩), .int .i64 size] w fun e w' => e = .returned (.tuple #[.int .i64 (rdF size s x).1, .int .i64 (rdF size s x).2.1]) ∧ RR w' g (rdF size s x).2.2.1 (rdF size s x).2.2.2 ∧ Fr w w' (fun i => i = g) := by
  by_cases hx : x = 0
  · subst hx
    by_cases hc : s.size < size
    · rw [rdF_cut _ _ hc]
      have h1 := h.c1
      have h0 := h.c0
      have f1 := h.f1
      have HZ := hid hz
      have hz8 : size ≤ 8 := by omega
      clear hz
      have hs2 := hs
      unfold maxLen at hs2
      go_enter Try.func24, Try.ntmps24
      go_wp2_with (go_at_call 29; refine (refSized_yes _ _ HZ.out).mono ?_; rintro e w' ⟨rfl, rfl⟩)
      go_quiet (fail)
      go_wp2
      go_ret2
      exact ⟨rfl, (h.s1 20).drewN _, (Fr.set1 w g 1 _).drewN _⟩
    · by_cases hf : 9223372036854775808 ≤ le s size
      · rw [rdF_form _ _ hc hf]
        have h8 : size = 8 := by
          rcases Nat.lt_or_ge size 8 with h7 | h7
          · have := le_small s size (by omega)
            omega
          · omega
        subst h8
        have hb := (le_eight s).1 hf
        have h7s : 7 < s.size := by omega
        have hb77 : 127 < s[7].toNat := by rw [← byt_eq s 7 h7s]; exact hb
        have hc77 : s[7].toNat < 256 := UInt8.toNat_lt _
        have h1 := h.c1
        have h0 := h.c0
        have f1 := h.f1
        have hs2 := hs
        unfold maxLen at hs2
        clear hb hf hz
        go_enter Try.func24, Try.ntmps24
        go_wp2_with (go_at_call 29; refine (refSized_yes _ 8 (by omega)).mono ?_; rintro e w' ⟨rfl, rfl⟩)
        go_quiet (fail)
        go_wp2
        go_ret2
        exact ⟨rfl, (h.s1 4).drewN _, (Fr.set1 w g 1 _).drewN _⟩
      · rw [rdF_ok _ _ hc hf]
        refine qFixed_ok w g s size hz h hs (by omega) (by omega) ?_
        rcases Nat.lt_or_ge size 8 with h7 | h7
        · exact .inl h7
        · have h8 : size = 8 := by omega
          subst h8
          have := le_eight s
          exact .inr ⟨rfl, by omega⟩
  · rw [rdF_failed _ _ _ hx]
    have h1 := h.c1
    have HZ := hid hz
    have hz8 : size ≤ 8 := by omega
    have hy : ((x : Int) != 0) = true := by rw [bne_iff_ne]; omega
    clear hz hx
    go_enter Try.func24, Try.ntmps24
    go_wp2_with (go_at_call 29; refine (refSized_yes _ _ HZ.out).mono ?_; rintro e w' ⟨rfl, rfl⟩)
    go_quiet (fail)
    go_wp2
    go_ret2
    exact ⟨rfl, h, (Fr.refl w _).drewN _⟩
end Go.Proofs.Ytodlenagpconiaa.Cw
