/- The calls of a nil reader and of a nil writer. Own work. -/
import Derived.Test.YtodlenagpconiaaCrD
import Derived.Test.YtodlenagpconiaaCwS
namespace Go.Proofs.Ytodlenagpconiaa.Cw
open Go.RowKit
set_option linter.unusedVariables false
set_option linter.unusedSimpArgs false

set_option maxRecDepth 100000 in
set_option maxHeartbeats 1600000 in
theorem failed_nil (w : World) :
    Calls Try.prog 40 #[.pointer none] w fun e w' => e = .returned (.int .i64 20) ∧ w = w' := by
  go_enter Try.func40, Try.ntmps40
  go_wp2
  go_ret
  exact ⟨rfl, rfl⟩

set_option maxRecDepth 100000 in
set_option maxHeartbeats 1600000 in
theorem number_nil (w : World) (a b : Int) :
    Calls Try.prog 33 #[.pointer none, .int .i64 a, .int .u8 b] w fun e w' => e = .returned (.tuple #[.int .u64 0, .int .i64 20]) ∧ w = w' := by
  go_enter Try.func33, Try.ntmps33
  go_wp2_with ((go_at_call 40; refine (failed_nil _).mono ?_; rintro e w4 ⟨rfl, rfl⟩))
  go_ret2
  exact ⟨rfl, rfl⟩

set_option maxRecDepth 100000 in
set_option maxHeartbeats 1600000 in
theorem rUint_nil (w : World) :
    Calls Try.prog 14 #[.pointer none] w fun e w' => e = .returned (.tuple #[.int .i64 0, .int .i64 20]) ∧ w = w' := by
  go_enter Try.func14, Try.ntmps14
  go_wp2_with ((go_at_call 33; refine (number_nil _ _ _).mono ?_; rintro e w4 ⟨rfl, rfl⟩))
  go_ret2
  exact ⟨rfl, rfl⟩

set_option maxRecDepth 100000 in
set_option maxHeartbeats 1600000 in
theorem rInt_nil (w : World) :
    Calls Try.prog 17 #[.pointer none] w fun e w' => e = .returned (.tuple #[.int .i64 0, .int .i64 20]) ∧ w = w' := by
  go_enter Try.func17, Try.ntmps17
  go_wp2_with ((go_at_call 33; refine (number_nil _ _ _).mono ?_; rintro e w4 ⟨rfl, rfl⟩))
  go_ret2
  exact ⟨ret2e (by kernel_rfl) rfl, rfl⟩

set_option maxRecDepth 100000 in
set_option maxHeartbeats 1600000 in
theorem rFixed_no (w : World) (p : Option Addr) (size : Int) (h : ¬ (size = 1 ∨ size = 2 ∨ size = 4 ∨ size = 8)) :
    Calls Try.prog 23 #[.pointer p, .int .i64 size] w fun e w' => e = .returned (.tuple #[.int .i64 0, .int .i64 1]) ∧ w = w' := by
  have HZ := hid h
  clear h
  go_enter Try.func23, Try.ntmps23
  go_wp2_with ((go_at_call 39; refine (sized_no _ _ HZ.out).mono ?_; rintro e w4 ⟨rfl, rfl⟩))
  go_ret2
  exact ⟨rfl, rfl⟩

set_option maxRecDepth 100000 in
set_option maxHeartbeats 1600000 in
theorem rFixed_nil (w : World) (size : Nat) (h : size = 1 ∨ size = 2 ∨ size = 4 ∨ size = 8) :
    Calls Try.prog 23 #[.pointer none, .int .i64 size] w fun e w' => e = .returned (.tuple #[.int .i64 0, .int .i64 20]) ∧ w = w' := by
  have HZ := hid h
  clear h
  go_enter Try.func23, Try.ntmps23
  go_wp2_with ((first | (go_at_call 39; refine (sized_yes _ _ HZ.out).mono ?_; rintro e w4 ⟨rfl, rfl⟩) | (go_at_call 40; refine (failed_nil _).mono ?_; rintro e w4 ⟨rfl, rfl⟩)))
  go_ret2
  exact ⟨rfl, rfl⟩

set_option maxRecDepth 100000 in
set_option maxHeartbeats 1600000 in
theorem rText_neg (w : World) (p : Option Addr) (n : Int) (h : n < 0) :
    Calls Try.prog 25 #[.pointer p, .int .i64 n] w fun e w' => e = .returned (.tuple #[.string ⟨#[]⟩, .int .i64 1]) ∧ w = w' := by
  go_enter Try.func25, Try.ntmps25
  go_wp2
  go_ret2
  exact ⟨rfl, rfl⟩

set_option maxRecDepth 100000 in
set_option maxHeartbeats 1600000 in
theorem rText_nil (w : World) (n : Int) (h : 0 ≤ n) :
    Calls Try.prog 25 #[.pointer none, .int .i64 n] w fun e w' => e = .returned (.tuple #[.string ⟨#[]⟩, .int .i64 20]) ∧ w = w' := by
  go_enter Try.func25, Try.ntmps25
  go_wp2_with ((go_at_call 40; refine (failed_nil _).mono ?_; rintro e w4 ⟨rfl, rfl⟩))
  go_ret2
  exact ⟨rfl, rfl⟩

set_option maxRecDepth 100000 in
set_option maxHeartbeats 1600000 in
theorem left_nil (w : World) :
    Calls Try.prog 15 #[.pointer none] w fun e w' => e = .returned (.int .i64 0) ∧ w = w' := by
  go_enter Try.func15, Try.ntmps15
  go_wp2
  go_ret
  exact ⟨rfl, rfl⟩

set_option maxRecDepth 100000 in
set_option maxHeartbeats 1600000 in
theorem end_nil (w : World) :
    Calls Try.prog 27 #[.pointer none] w fun e w' => e = .returned (.int .i64 0) ∧ w = w' := by
  go_enter Try.func27, Try.ntmps27
  go_wp2
  go_ret
  exact ⟨rfl, rfl⟩

set_option maxRecDepth 100000 in
set_option maxHeartbeats 1600000 in
theorem out_nil (w : World) :
    Calls Try.prog 12 #[.pointer none] w fun e w' => e = .returned (.string ⟨#[]⟩) ∧ w = w' := by
  go_enter Try.func12, Try.ntmps12
  go_wp2
  go_ret
  exact ⟨rfl, rfl⟩

set_option maxRecDepth 100000 in
set_option maxHeartbeats 1600000 in
theorem wUint_nil (w : World) (n : Int) (h : 0 ≤ n) :
    Calls Try.prog 10 #[.pointer none, .int .i64 n] w fun e w' => e = .returned (.int .i64 7) ∧ w = w' := by
  go_enter Try.func10, Try.ntmps10
  go_wp2
  go_ret
  exact ⟨rfl, rfl⟩

set_option maxRecDepth 100000 in
set_option maxHeartbeats 1600000 in
theorem wInt_nil (w : World) (n : Int) :
    Calls Try.prog 31 #[.pointer none, .int .i64 n] w fun e w' => e = .returned (.int .i64 7) ∧ w = w' := by
  go_enter Try.func31, Try.ntmps31
  go_wp2
  go_ret
  exact ⟨rfl, rfl⟩

set_option maxRecDepth 100000 in
set_option maxHeartbeats 1600000 in
theorem wFixed_nil (w : World) (n size : Nat) (hz : size = 1 ∨ size = 2 ∨ size = 4 ∨ size = 8) (hn : n ≤ 2 ^ 63 - 1) (hfit : n < 256 ^ size) :
    Calls Try.prog 37 #[.pointer none, .int .i64 n, .int .i64 size] w fun e w' => e = .returned (.int .i64 7) ∧ w = w' := by
  have HZ := hid hz
  have hz8 : size ≤ 8 := by omega
  clear hz
  have hq : ((n : Int) / 2 ^ (8 * size) != 0) = false := by
    have e2 : (2 : Nat) ^ (8 * size) = 256 ^ size := by rw [Nat.pow_mul]
    have e : (2 : Int) ^ (8 * size) = ((256 ^ size : Nat) : Int) := by rw [← e2]; simp
    rw [e, ← Int.natCast_ediv, Nat.div_eq_of_lt hfit]
    rfl
  clear hfit
  rcases (show size < 8 ∨ 8 ≤ size by omega) with hs8 | hs8
  all_goals
    go_enter Try.func37, Try.ntmps37
    go_wp2_with (go_at_call 39; refine (sized_yes _ _ HZ.out).mono ?_; rintro e w' ⟨rfl, rfl⟩)
    go_ret
    exact ⟨rfl, rfl⟩

set_option maxRecDepth 100000 in
set_option maxHeartbeats 1600000 in
theorem wText_nil (w : World) (s : ByteArray) (h : s.size ≤ 65535) :
    Calls Try.prog 32 #[.pointer none, .string s] w fun e w' => e = .returned (.int .i64 7) ∧ w = w' := by
  go_enter Try.func32, Try.ntmps32
  go_wp2_with ((go_at_call 10; refine (wUint_nil _ _ (by omega)).mono ?_; rintro e w4 ⟨rfl, rfl⟩))
  go_ret
  exact ⟨rfl, rfl⟩

set_option maxRecDepth 100000 in
set_option maxHeartbeats 1600000 in
theorem writes_nil (w : World) (kind n size : Int) (s : ByteArray) (h1 : -9223372036854775808 ≤ n) (h2 : n < 9223372036854775808) (hs : s.size ≤ maxLen) :
    Calls Try.prog 20 #[.pointer none, itemV kind n size s] w fun e w' => e = .returned (.int .i64 ((if itemE kind n size s = 0 then 7 else itemE kind n size s : Nat) : Int)) ∧ Fr w w' (fun _ => False) := by
  unfold itemV
  have hs2 := hs
  have HS := hid hs
  unfold maxLen at hs2
  clear hs
  have HN := hid (And.intro h1 h2)
  clear h1 h2
  by_cases k0 : kind = 0
  · subst k0
    by_cases hn : n < 0
    · have I := hid (item0n n size s hn)
      rw [I.out.2]
      go_enter Try.func20, Try.ntmps20
      go_wp2_with (go_at_call 10; refine (wUint_neg _ _ n hn).mono ?_; rintro e w4 ⟨rfl, rfl⟩)
      go_ret
      exact ⟨rfl, (Fr.refl w _).alloc _⟩
    · obtain ⟨m, rfl⟩ := Int.eq_ofNat_of_zero_le (show 0 ≤ n by omega)
      have I := hid (item0p m size s)
      rw [I.out.2]
      clear hn
      go_enter Try.func20, Try.ntmps20
      go_wp2_with (go_at_call 10; refine (wUint_nil _ m (by omega)).mono ?_; rintro e w4 ⟨rfl, rfl⟩)
      go_ret
      exact ⟨rfl, (Fr.refl w _).alloc _⟩
  by_cases k1 : kind = 1
  · subst k1
    have I := hid (item1 n size s)
    rw [I.out.2]
    clear k0
    go_enter Try.func20, Try.ntmps20
    go_wp2_with (go_at_call 31; refine (wInt_nil _ n).mono ?_; rintro e w4 ⟨rfl, rfl⟩)
    go_ret
    exact ⟨rfl, (Fr.refl w _).alloc _⟩
  by_cases k2 : kind = 2
  · subst k2
    clear k0 k1
    by_cases hf : Fit n size
    · obtain ⟨a, b, rfl, rfl, hb, ha, hab⟩ := fit_nat HN.out.2 hf
      have I := hid (item2p a b s hf)
      rw [I.out.2]
      have HB := hid hb
      have HA := hid ha
      have HAB := hid hab
      clear hb hf ha hab
      go_enter Try.func20, Try.ntmps20
      go_wp2_with (go_at_call 37; refine (wFixed_nil _ a b HB.out HA.out HAB.out).mono ?_; rintro e w4 ⟨rfl, rfl⟩)
      go_ret
      exact ⟨rfl, (Fr.refl w _).alloc _⟩
    · have I := hid (item2n n size s hf)
      rw [I.out.2]
      have HF := hid hf
      clear hf
      go_enter Try.func20, Try.ntmps20
      go_wp2_with (go_at_call 37; refine (wFixed_bad _ _ _ _ HN.out.2 HF.out).mono ?_; rintro e w4 ⟨rfl, rfl⟩)
      go_ret
      exact ⟨rfl, (Fr.refl w _).alloc _⟩
  have b0 : (kind == 0) = false := by rw [beq_eq_false_iff_ne]; exact k0
  have b1 : (kind == 1) = false := by rw [beq_eq_false_iff_ne]; exact k1
  have b2 : (kind == 2) = false := by rw [beq_eq_false_iff_ne]; exact k2
  by_cases hl : 65535 < s.size
  · have I := hid (item3l kind n size s k0 k1 k2 hl)
    rw [I.out.2]
    clear k0 k1 k2
    go_enter Try.func20, Try.ntmps20
    go_wp2_with (go_at_call 32; refine (wText_long _ _ s hl HS.out).mono ?_; rintro e w4 ⟨rfl, rfl⟩)
    go_ret
    exact ⟨rfl, (Fr.refl w _).alloc _⟩
  · have I := hid (item3 kind n size s k0 k1 k2 hl)
    rw [I.out.2]
    have hl2 : s.size ≤ 65535 := by omega
    clear k0 k1 k2 hl
    go_enter Try.func20, Try.ntmps20
    go_wp2_with (go_at_call 32; refine (wText_nil _ s hl2).mono ?_; rintro e w4 ⟨rfl, rfl⟩)
    go_ret
    exact ⟨rfl, (Fr.refl w _).alloc _⟩
end Go.Proofs.Ytodlenagpconiaa.Cw
