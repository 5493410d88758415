/- The reader's calls, each by its contract. Own work. -/
import Derived.Test.YtmnmmmoeeapeiaaJae
namespace Go.Proofs.Ytmnmmmoeeapeiaa.Cw
open Go.RowKit
set_option linter.unusedVariables false
set_option linter.unusedSimpArgs false

theorem ret2e {a b : Int} {c d : Int} {k k' : IntKind} (h1 : a = c) (h2 : b = d) : Ending.returned (.tuple #[.int k a, .int k' b]) = .returned (.tuple #[.int k c, .int k' d]) := by subst h1; subst h2; rfl

set_option maxRecDepth 100000 in
set_option maxHeartbeats 1600000 in
theorem number_calls (w : World) (g : Nat) (s : ByteArray) (x : Nat) (most top : Nat) (h : Rd w g s x) (hm1 : 1 ≤ most) (hm2 : most ≤ 9 ∨ most = 10 ∧ top ≤ 1) (ht : top ≤ 127) (hs : s.size ≤ maxLen) :
    Calls Try.prog 61 #[.pointer (some ⟨g, 0, none⟩), .int .i64 most, .int .u8 top] w fun e w' => e = .returned (.tuple #[.int .u64 (rdN most top s x).1, .int .i64 (rdN most top s x).2.1]) ∧ Rd w' g (rdN most top s x).2.2.1 (rdN most top s x).2.2.2 ∧ Fr w w' (fun i => i = g) := by
  have h1 := h.c1
  have h0 := h.c0
  have f0 := h.f0
  have f1 := h.f1
  have hs2 := hs
  unfold maxLen at hs2
  by_cases hx : x = 0
  · subst hx
    by_cases hw : (sv s most top most 0 0).2.2 = 0
    · rw [rdN_ok _ _ _ hw]
      have hf := sv_facts s most top most 0 0 (by simp) (by omega) hw
      have hle := hf.1
      clear hf
      have H7 := seven_calls s most top hm1 hm2 ht hs
      have HW := hid hw
      clear hw
      generalize sv s most top most 0 0 = r at *
      obtain ⟨n, k, y⟩ := r
      have hy : y = 0 := HW.out
      subst hy
      simp only at H7 hle ⊢
      have H7h := hid H7
      clear H7
      go_enter Try.func61, Try.ntmps61
      go_wp2_with (first | (go_at_call 67; refine (failed_some _ _ _ _ h).mono ?_; rintro e w' ⟨rfl, rfl⟩) | (go_at_call 68; refine (H7h.out _).mono ?_; rintro e w' ⟨rfl, rfl⟩))
      go_ret2
      exact ⟨rfl, h.s0 _, Fr.set1 w g 0 _⟩
    · rw [rdN_wrong _ _ _ hw]
      have H7 := seven_calls s most top hm1 hm2 ht hs
      have hy : (((sv s most top most 0 0).2.2 : Int) != 0) = true := by rw [bne_iff_ne]; omega
      clear hw
      generalize sv s most top most 0 0 = r at *
      obtain ⟨n, k, y⟩ := r
      simp only at H7 hy ⊢
      have H7h := hid H7
      clear H7
      go_enter Try.func61, Try.ntmps61
      go_wp2_with (first | (go_at_call 67; refine (failed_some _ _ _ _ h).mono ?_; rintro e w' ⟨rfl, rfl⟩) | (go_at_call 68; refine (H7h.out _).mono ?_; rintro e w' ⟨rfl, rfl⟩) | (go_at_call 69; refine (fail_calls _ _ _ _ _ h).mono ?_; rintro e w' ⟨rfl, rfl⟩))
      go_ret2
      exact ⟨rfl, h.s1 _, Fr.set1 w g 1 _⟩
  · rw [rdN_failed _ _ _ _ hx]
    have hy : ((x : Int) != 0) = true := by rw [bne_iff_ne]; omega
    clear hx
    go_enter Try.func61, Try.ntmps61
    go_wp2_with (first | (go_at_call 67; refine (failed_some _ _ _ _ h).mono ?_; rintro e w' ⟨rfl, rfl⟩))
    go_ret2
    exact ⟨rfl, h, Fr.refl w _⟩

theorem wrap64_in (n : Int) (h : -9223372036854775808 ≤ n) (h2 : n < 9223372036854775808) : wrap64 n = n := by unfold wrap64; omega

theorem sv_lt (s : ByteArray) (most top : Nat) : ∀ f k m, m < 128 ^ k → k + f = most → (sv s most top f k m).1 < 128 ^ most := by
  intro f
  induction f with
  | zero => intro k m hp hk; simpa [sv] using Nat.pow_pos (by decide)
  | succ f ih =>
    intro k m hp hk
    have hpos : 0 < 128 ^ most := Nat.pow_pos (by decide)
    by_cases h1 : k < s.size
    · by_cases h2 : (k + 1 = most ∧ top < s[k].toNat) ∨ (0 < k ∧ s[k].toNat = 0)
      · rw [sv_bad _ _ _ _ _ _ h1 h2]; exact hpos
      · by_cases h3 : s[k].toNat < 128
        · rw [sv_last _ _ _ _ _ _ h1 h2 h3]
          exact Nat.lt_of_lt_of_le (step_lt k m _ hp) (Nat.pow_le_pow_right (by decide) (by omega))
        · rw [sv_more _ _ _ _ _ _ h1 h2 h3]
          exact ih (k + 1) _ (step_lt k m s[k].toNat hp) (by omega)
    · rw [sv_end _ _ _ _ _ _ h1]; exact hpos

theorem rdN_lt (most top : Nat) (s : ByteArray) (e : Nat) : (rdN most top s e).1 < 128 ^ most := by
  have hpos : 0 < 128 ^ most := Nat.pow_pos (by decide)
  unfold rdN
  split
  · split
    · exact sv_lt s most top most 0 0 (by simp) (by omega)
    · exact hpos
  · exact hpos

set_option maxRecDepth 100000 in
set_option maxHeartbeats 1600000 in
theorem rUint_calls (w : World) (g : Nat) (s : ByteArray) (x : Nat) (h : Rd w g s x) (hs : s.size ≤ maxLen) :
    Calls Try.prog 44 #[.pointer (some ⟨g, 0, none⟩)] w fun e w' => e = .returned (.tuple #[.int .i64 (rdN 9 127 s x).1, .int .i64 (rdN 9 127 s x).2.1]) ∧ Rd w' g (rdN 9 127 s x).2.2.1 (rdN 9 127 s x).2.2.2 ∧ Fr w w' (fun i => i = g) := by
  have HN := number_calls w g s x 9 127 h (by omega) (by omega) (by omega) hs
  have hl := rdN_lt 9 127 s x
  generalize rdN 9 127 s x = r at *
  obtain ⟨n, y, s', x'⟩ := r
  simp only at HN hl ⊢
  have HL := hid hl
  clear hl
  have HNh := hid HN
  clear HN
  go_enter Try.func44, Try.ntmps44
  go_wp2_with (first | (go_at_call 61; refine HNh.out.mono ?_; rintro e w' ⟨rfl, hr, hf⟩))
  go_ret2
  exact ⟨ret2e (wrap64_in _ (by omega) (by have := HL.out; omega)) rfl, hr, hf⟩

/-- A number with its sign in its lowest bit. -/
def zz (n : Nat) : Int := if n % 2 = 1 then -((n / 2 : Nat) : Int) - 1 else ((n / 2 : Nat) : Int)

theorem zz_bits (n : Nat) (h : n < 18446744073709551616) : bits .xor .i64 (wrap64 ((n : Int) / 2)) (wrap64 (-wrap64 (bits .and .u64 (n : Int) 1))) = zz n := by
  have e1 : bits .and .u64 (n : Int) 1 = ((n % 2 : Nat) : Int) := by
    have := bits_mask .u64 64 (by decide) wraps_u64 1 (by decide) (n : Int) (by omega) (by omega)
    simpa using this
  have e2 : wrap64 ((n : Int) / 2) = ((n / 2 : Nat) : Int) := by rw [wrap64_in _ (by omega) (by omega)]; simp
  have e3 : (BitVec.ofInt 64 ((n / 2 : Nat) : Int)).toNat = n / 2 := by rw [BitVec.ofInt_natCast, BitVec.toNat_ofNat]; exact Nat.mod_eq_of_lt (by omega)
  rw [e1, e2]
  unfold zz
  by_cases hp : n % 2 = 1
  · rw [if_pos hp, hp, show wrap64 (-wrap64 ((1 : Nat) : Int)) = -1 by unfold wrap64; omega]
    show IntKind.i64.wrap ((BitVec.ofInt 64 ((n / 2 : Nat) : Int) ^^^ BitVec.ofInt 64 (-1)).toNat : Int) = _
    rw [show BitVec.ofInt 64 (-1) = BitVec.allOnes 64 by decide, BitVec.xor_allOnes, BitVec.toNat_not, e3, IntKind.wrap_i64]
    omega
  · rw [if_neg hp, show n % 2 = 0 by omega, show wrap64 (-wrap64 ((0 : Nat) : Int)) = 0 by unfold wrap64; omega]
    show IntKind.i64.wrap ((BitVec.ofInt 64 ((n / 2 : Nat) : Int) ^^^ BitVec.ofInt 64 0).toNat : Int) = _
    rw [show BitVec.ofInt 64 0 = 0#64 by decide, BitVec.xor_zero, e3, IntKind.wrap_i64]
    omega

theorem sv_lt10 (s : ByteArray) : ∀ f k m, m < 128 ^ k → k + f = 10 → (sv s 10 1 f k m).1 < 18446744073709551616 := by
  intro f
  induction f with
  | zero => intro k m hp hk; simp [sv]
  | succ f ih =>
    intro k m hp hk
    by_cases h1 : k < s.size
    · by_cases h2 : (k + 1 = 10 ∧ 1 < s[k].toNat) ∨ (0 < k ∧ s[k].toNat = 0)
      · rw [sv_bad _ _ _ _ _ _ h1 h2]; simp
      · by_cases h3 : s[k].toNat < 128
        · rw [sv_last _ _ _ _ _ _ h1 h2 h3]
          show m + s[k].toNat % 128 * 128 ^ k < _
          by_cases h9 : k = 9
          · subst h9
            have : s[9].toNat % 128 ≤ 1 := by omega
            omega
          · have := step_lt k m s[k].toNat hp
            have h8 : 128 ^ (k + 1) ≤ 128 ^ 9 := Nat.pow_le_pow_right (by decide) (by omega)
            omega
        · rw [sv_more _ _ _ _ _ _ h1 h2 h3]
          exact ih (k + 1) _ (step_lt k m s[k].toNat hp) (by omega)
    · rw [sv_end _ _ _ _ _ _ h1]; simp

theorem rdN_lt10 (s : ByteArray) (e : Nat) : (rdN 10 1 s e).1 < 18446744073709551616 := by
  unfold rdN
  split
  · split
    · exact sv_lt10 s 10 0 0 (by simp) (by omega)
    · simp
  · simp

set_option maxRecDepth 100000 in
set_option maxHeartbeats 1600000 in
theorem rInt_calls (w : World) (g : Nat) (s : ByteArray) (x : Nat) (h : Rd w g s x) (hs : s.size ≤ maxLen) :
    Calls Try.prog 62 #[.pointer (some ⟨g, 0, none⟩)] w fun e w' => e = .returned (.tuple #[.int .i64 (zz (rdN 10 1 s x).1), .int .i64 (rdN 10 1 s x).2.1]) ∧ Rd w' g (rdN 10 1 s x).2.2.1 (rdN 10 1 s x).2.2.2 ∧ Fr w w' (fun i => i = g) := by
  have HN := number_calls w g s x 10 1 h (by omega) (by omega) (by omega) hs
  have hl := rdN_lt10 s x
  generalize rdN 10 1 s x = r at *
  obtain ⟨n, y, s', x'⟩ := r
  simp only at HN hl ⊢
  have HL := hid hl
  clear hl
  have HNh := hid HN
  clear HN
  go_enter Try.func62, Try.ntmps62
  go_wp2_with (first | (go_at_call 61; refine HNh.out.mono ?_; rintro e w' ⟨rfl, hr, hf⟩))
  go_ret2
  exact ⟨ret2e (zz_bits n HL.out) rfl, hr, hf⟩
end Go.Proofs.Ytmnmmmoeeapeiaa.Cw

