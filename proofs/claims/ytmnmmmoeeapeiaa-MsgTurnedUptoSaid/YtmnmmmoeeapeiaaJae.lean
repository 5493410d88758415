/- codec.seven by a walk. Own work. -/
import Derived.Test.YtmnmmmoeeapeiaaJaa
import Derived.Test.YtmnmmmoeeapeiaaJab
namespace Go.Proofs.Ytmnmmmoeeapeiaa.Cw
open Go.RowKit
set_option linter.unusedVariables false
set_option linter.unusedSimpArgs false

theorem ret3 {a b c a' b' c' : Int} (h1 : a = a') (h2 : b = b') (h3 : c = c') : Ending.returned (.tuple #[.int .u64 a, .int .i64 b, .int .i64 c]) = .returned (.tuple #[.int .u64 a', .int .i64 b', .int .i64 c']) := by subst h1; subst h2; subst h3; rfl

def Pow (m k : Nat) : Prop := m < 128 ^ k

set_option maxRecDepth 100000 in
set_option maxHeartbeats 1600000 in
theorem seven_calls (s : ByteArray) (most top : Nat) (hm1 : 1 ≤ most) (hm2 : most ≤ 9 ∨ most = 10 ∧ top ≤ 1) (ht : top ≤ 127) (hs : s.size ≤ maxLen) (w : World) :
    Calls Try.prog 68 #[.string s, .int .i64 most, .int .u8 top] w fun e w' => e = .returned (.tuple #[.int .u64 (sv s most top most 0 0).1, .int .i64 (sv s most top most 0 0).2.1, .int .i64 (sv s most top most 0 0).2.2]) ∧ w = w' := by
  unfold maxLen at hs
  generalize hr : sv s most top most 0 0 = r
  have HR := hid hr
  clear hr
  have HM := hid hm2
  clear hm2
  have hm3 : most ≤ 10 := by have := HM.out; omega
  go_enter Try.func68, Try.ntmps68
  go_wp2
  go_loop [9, 10] (fun n i => ∃ (k : Nat) (m : Nat), k ≤ most ∧ k ≤ s.size ∧ i = .int .i64 k ∧ n = .int .u64 m ∧ Pow m k ∧ Hid (sv s most top (most - k) k m = r)) (fun _ i => most - (intOf i).toNat)
  case atStart => exact ⟨0, 0, by omega, by omega, rfl, rfl, by unfold Pow; omega, by simpa using HR⟩
  case round =>
    obtain ⟨k, m, hk, hks, rfl, rfl, hm, hrest⟩ := hrel
    by_cases hlt : k < most
    · obtain ⟨f, hf⟩ : ∃ f, most - k = f + 1 := ⟨most - k - 1, by omega⟩
      have HF := hid hf
      clear hf
      by_cases hend : k = s.size
      · have HE : Hid (r = (0, 0, 20)) := hid (by rw [← hrest.out, HF.out, sv_end _ _ _ _ _ _ (by omega)])
        have hb : ((k : Int) == (s.size : Int)) = true := by simp [hend]
        clear hend hrest HR
        go_wp2
        go_ret3
        rw [HE.out]
        exact ⟨rfl, rfl⟩
      · have hb : ((k : Int) == (s.size : Int)) = false := by simp; omega
        have hks' : k < s.size := by omega
        clear hend
        have hc : s[k].toNat < 256 := s[k].toNat_lt
        have hsv : Hid (sv s most top (f + 1) k m = r) := hid (by rw [← HF.out]; exact hrest.out)
        clear hrest HR
        by_cases hp : k + 1 = most
        · have hpb : ((k : Int) == (most : Int) - 1) = true := by rw [beq_iff_eq]; omega
          have HP : Hid (k + 1 = most) := hid hp
          clear hp
          go_wp2
          all_goals first
            | (go_ret3
               have hp := HP.out
               have hbad : (k + 1 = most ∧ top < s[k].toNat) ∨ (0 < k ∧ s[k].toNat = 0) := by
                 (try simp only [beq_iff_eq, beq_eq_false_iff_ne] at *)
                 omega
               have hv := hsv.out
               rw [sv_bad _ _ _ _ _ _ hks' hbad] at hv
               subst hv
               exact ⟨rfl, rfl⟩)
            | (go_ret3
               have hp := HP.out
               have hl : s[k].toNat < 128 := by omega
               have hbad : ¬ ((k + 1 = most ∧ top < s[k].toNat) ∨ (0 < k ∧ s[k].toNat = 0)) := by
                 (try simp only [beq_iff_eq, beq_eq_false_iff_ne] at *)
                 omega
               have hv := hsv.out
               rw [sv_last _ _ _ _ _ _ hks' hbad hl] at hv
               subst hv
               have h9 := HM.out
               have hor := step_or k m s[k].toNat hm hc (by omega)
               exact ⟨ret3 hor (show (k : Int) + 1 = ((k + 1 : Nat) : Int) by omega) rfl, rfl⟩)
            | (go_round
               case rel =>
                 have hl : ¬ s[k].toNat < 128 := by omega
                 have hp := HP.out
                 have hbad : ¬ ((k + 1 = most ∧ top < s[k].toNat) ∨ (0 < k ∧ s[k].toNat = 0)) := by
                   (try simp only [beq_iff_eq, beq_eq_false_iff_ne] at *)
                   omega
                 have h9 := HM.out
                 have hor := step_or k m s[k].toNat hm hc (by omega)
                 have hrw := sv_more s most top f k m hks' hbad hl
                 exact ⟨k + 1, m + s[k].toNat % 128 * 128 ^ k, by omega, by omega, by go_num, by rw [hor], step_lt k m _ hm, by rw [show most - (k + 1) = f by have := HF.out; omega, ← hrw]; exact hsv⟩
               case measure => simp [intOf]; omega)
        · have hpb : ((k : Int) == (most : Int) - 1) = false := by rw [beq_eq_false_iff_ne]; omega
          have HP : Hid (¬ k + 1 = most) := hid hp
          clear hp
          go_wp2
          all_goals first
            | (go_ret3
               have hp := HP.out
               have hbad : (k + 1 = most ∧ top < s[k].toNat) ∨ (0 < k ∧ s[k].toNat = 0) := by
                 (try simp only [beq_iff_eq, beq_eq_false_iff_ne] at *)
                 omega
               have hv := hsv.out
               rw [sv_bad _ _ _ _ _ _ hks' hbad] at hv
               subst hv
               exact ⟨rfl, rfl⟩)
            | (go_ret3
               have hp := HP.out
               have hl : s[k].toNat < 128 := by omega
               have hbad : ¬ ((k + 1 = most ∧ top < s[k].toNat) ∨ (0 < k ∧ s[k].toNat = 0)) := by
                 (try simp only [beq_iff_eq, beq_eq_false_iff_ne] at *)
                 omega
               have hv := hsv.out
               rw [sv_last _ _ _ _ _ _ hks' hbad hl] at hv
               subst hv
               have h9 := HM.out
               have hor := step_or k m s[k].toNat hm hc (by omega)
               exact ⟨ret3 hor (show (k : Int) + 1 = ((k + 1 : Nat) : Int) by omega) rfl, rfl⟩)
            | (go_round
               case rel =>
                 have hl : ¬ s[k].toNat < 128 := by omega
                 have hp := HP.out
                 have hbad : ¬ ((k + 1 = most ∧ top < s[k].toNat) ∨ (0 < k ∧ s[k].toNat = 0)) := by
                   (try simp only [beq_iff_eq, beq_eq_false_iff_ne] at *)
                   omega
                 have h9 := HM.out
                 have hor := step_or k m s[k].toNat hm hc (by omega)
                 have hrw := sv_more s most top f k m hks' hbad hl
                 exact ⟨k + 1, m + s[k].toNat % 128 * 128 ^ k, by omega, by omega, by go_num, by rw [hor], step_lt k m _ hm, by rw [show most - (k + 1) = f by have := HF.out; omega, ← hrw]; exact hsv⟩
               case measure => simp [intOf]; omega)
    · have HE : Hid (r = (0, 0, 4)) := hid (by rw [← hrest.out, show most - k = 0 by omega]; rfl)
      clear hrest HR
      go_wp2
      go_ret3
      rw [HE.out]
      exact ⟨rfl, rfl⟩
end Go.Proofs.Ytmnmmmoeeapeiaa.Cw

