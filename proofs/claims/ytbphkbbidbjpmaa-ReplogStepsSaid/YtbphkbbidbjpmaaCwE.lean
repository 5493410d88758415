/- The reader's Text. Own work. -/
import Derived.Test.YtbphkbbidbjpmaaCwD
import Derived.WalkSpells
namespace Go.Proofs.Ytbphkbbidbjpmaa.Cw
open Go.RowKit
set_option linter.unusedVariables false
set_option linter.unusedSimpArgs false

/-- A text is read: the text, what is wrong, what is left, what is wrong from now on. -/
def rdT (most : Int) (s : ByteArray) (e : Nat) : ByteArray × Nat × ByteArray × Nat :=
  if most < 0 then (⟨#[]⟩, 1, s, e)
  else if e = 0 then
    if (sv s 9 127 9 0 0).2.2 = 0 then
      if most < (sv s 9 127 9 0 0).1 then (⟨#[]⟩, 2, s, 2)
      else if s.size < (sv s 9 127 9 0 0).2.1 + (sv s 9 127 9 0 0).1 then (⟨#[]⟩, 20, s, 20)
      else (s.extract (sv s 9 127 9 0 0).2.1 ((sv s 9 127 9 0 0).2.1 + (sv s 9 127 9 0 0).1), 0, s.extract ((sv s 9 127 9 0 0).2.1 + (sv s 9 127 9 0 0).1) s.size, 0)
    else (⟨#[]⟩, (sv s 9 127 9 0 0).2.2, s, (sv s 9 127 9 0 0).2.2)
  else (⟨#[]⟩, e, s, e)

theorem ret2s {s t : ByteArray} {b d : Int} {k' : IntKind} (h1 : s = t) (h2 : b = d) : Ending.returned (.tuple #[.string s, .int k' b]) = .returned (.tuple #[.string t, .int k' d]) := by subst h1; subst h2; rfl

set_option maxRecDepth 100000 in
set_option maxHeartbeats 1600000 in
theorem rText_calls (w : World) (g : Nat) (s : ByteArray) (x : Nat) (most : Int) (hlo : -9223372036854775808 ≤ most) (hhi : most < 9223372036854775808) (h : Rd w g s x) (hs : s.size ≤ maxLen) :
    Calls Try.prog 43 #[.pointer (some ⟨g, 0, none⟩), .int .i64 most] w fun e w' => e = .returned (.tuple #[.string (rdT most s x).1, .int .i64 (rdT most s x).2.1]) ∧ Rd w' g (rdT most s x).2.2.1 (rdT most s x).2.2.2 ∧ Fr w w' (fun i => i = g) := by
  have h1 := h.c1
  have h0 := h.c0
  have f0 := h.f0
  have f1 := h.f1
  have hs2 := hs
  unfold maxLen at hs2
  by_cases hneg : most < 0
  · have HR : Hid (rdT most s x = (⟨#[]⟩, 1, s, x)) := hid (if_pos hneg)
    rw [HR.out]
    go_enter Try.func43, Try.ntmps43
    go_wp2
    go_ret2
    exact ⟨rfl, h, Fr.refl w _⟩
  have hpos : 0 ≤ most := by omega
  obtain ⟨m, rfl⟩ := Int.eq_ofNat_of_zero_le hpos
  have hhi2 : m ≤ 2 ^ 63 - 1 := by omega
  clear hneg hlo hhi
  by_cases hx : x = 0
  · subst hx
    have H7 := seven_calls s 9 127 (by omega) (by omega) (by omega) hs
    have hf := sv_facts s 9 127 9 0 0 (by simp) (by omega)
    have hl := sv_lt s 9 127 9 0 0 (by simp) (by omega)
    have hd : rdT (m : Int) s 0 = if (sv s 9 127 9 0 0).2.2 = 0 then
      if m < (sv s 9 127 9 0 0).1 then (⟨#[]⟩, 2, s, 2)
      else if s.size < (sv s 9 127 9 0 0).2.1 + (sv s 9 127 9 0 0).1 then (⟨#[]⟩, 20, s, 20)
      else (s.extract (sv s 9 127 9 0 0).2.1 ((sv s 9 127 9 0 0).2.1 + (sv s 9 127 9 0 0).1), 0, s.extract ((sv s 9 127 9 0 0).2.1 + (sv s 9 127 9 0 0).1) s.size, 0)
      else (⟨#[]⟩, (sv s 9 127 9 0 0).2.2, s, (sv s 9 127 9 0 0).2.2) := by
      unfold rdT
      rw [if_neg (by omega), if_pos rfl]
      simp only [Int.ofNat_lt]
    rw [hd]
    clear hd
    generalize sv s 9 127 9 0 0 = r at *
    obtain ⟨n, k, y⟩ := r
    simp only at H7 hf hl ⊢
    have H7h := hid H7
    clear H7
    have hl2 : n ≤ 2 ^ 63 - 1 := by omega
    clear hl
    by_cases hw : y = 0
    · subst hw
      have hk := hf rfl
      have hk1 := hk.1
      have hk2 := hk.2.2.1
      clear hk hf
      rw [if_pos rfl]
      by_cases hlong : m < n
      · rw [if_pos hlong]
        go_enter Try.func43, Try.ntmps43
        go_wp2_with (first | (go_at_call 54; refine (failed_some _ _ _ _ h).mono ?_; rintro e w' ⟨rfl, rfl⟩) | (go_at_call 55; refine (H7h.out _).mono ?_; rintro e w' ⟨rfl, rfl⟩) | (go_at_call 56; refine (fail_calls _ _ _ _ 2 h).mono ?_; rintro e w' ⟨rfl, rfl⟩))
        go_ret2
        exact ⟨rfl, h.s1 2, Fr.set1 w g 1 _⟩
      · rw [if_neg hlong]
        have hl3 : n ≤ m := by omega
        clear hlong
        by_cases hcut : s.size < k + n
        · rw [if_pos hcut]
          go_enter Try.func43, Try.ntmps43
          go_wp2_with (first | (go_at_call 54; refine (failed_some _ _ _ _ h).mono ?_; rintro e w' ⟨rfl, rfl⟩) | (go_at_call 55; refine (H7h.out _).mono ?_; rintro e w' ⟨rfl, rfl⟩) | (go_at_call 56; refine (fail_calls _ _ _ _ 20 h).mono ?_; rintro e w' ⟨rfl, rfl⟩))
          go_ret2
          exact ⟨rfl, h.s1 20, Fr.set1 w g 1 _⟩
        · rw [if_neg hcut]
          have hl4 : k + n ≤ s.size := by omega
          clear hcut
          go_enter Try.func43, Try.ntmps43
          go_wp2_with (first | (go_at_call 54; refine (failed_some _ _ _ _ h).mono ?_; rintro e w' ⟨rfl, rfl⟩) | (go_at_call 55; refine (H7h.out _).mono ?_; rintro e w' ⟨rfl, rfl⟩) | (go_at_call 56; refine (fail_calls _ _ _ _ 20 h).mono ?_; rintro e w' ⟨rfl, rfl⟩))
          go_ret2
          exact ⟨rfl, h.s0 _, Fr.set1 w g 0 _⟩
    · rw [if_neg hw]
      have hy : ((y : Int) != 0) = true := by rw [bne_iff_ne]; omega
      clear hw hf
      go_enter Try.func43, Try.ntmps43
      go_wp2_with (first | (go_at_call 54; refine (failed_some _ _ _ _ h).mono ?_; rintro e w' ⟨rfl, rfl⟩) | (go_at_call 55; refine (H7h.out _).mono ?_; rintro e w' ⟨rfl, rfl⟩) | (go_at_call 56; refine (fail_calls _ _ _ _ y h).mono ?_; rintro e w' ⟨rfl, rfl⟩))
      go_ret2
      exact ⟨rfl, h.s1 y, Fr.set1 w g 1 _⟩
  · have HR : Hid (rdT m s x = (⟨#[]⟩, x, s, x)) := hid (by unfold rdT; rw [if_neg (by omega), if_neg hx])
    rw [HR.out]
    have hy : ((x : Int) != 0) = true := by rw [bne_iff_ne]; omega
    clear hx
    go_enter Try.func43, Try.ntmps43
    go_wp2_with (first | (go_at_call 54; refine (failed_some _ _ _ _ h).mono ?_; rintro e w' ⟨rfl, rfl⟩))
    go_ret2
    exact ⟨rfl, h, Fr.refl w _⟩
end Go.Proofs.Ytbphkbbidbjpmaa.Cw
