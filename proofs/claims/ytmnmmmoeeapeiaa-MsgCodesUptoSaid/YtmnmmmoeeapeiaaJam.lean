/- A log in memory. Own work. -/
import Derived.Test.YtmnmmmoeeapeiaaJal
import Derived.Test.YtmnmmmoeeapeiaaJac
import Derived.Deep.MidRow
import Derived.Test.YtmnmmmoeeapeiaaJai
import Derived.Test.YtmnmmmoeeapeiaaJak
namespace Go.Proofs.Ytmnmmmoeeapeiaa.Cw
open Go.RowKit
set_option linter.unusedVariables false
set_option linter.unusedSimpArgs false

/-- An entry. -/
structure En where
  a : Int
  b : Int
  c : Int
  k : Int
  t : Int
  n : Int
  p : ByteArray
  q : ByteArray
  r : ByteArray
def En.V (x : En) : Value := enV x.a x.b x.c x.k x.t x.n x.p x.q x.r
def En.cells (x : En) : List Value := [.int .i64 x.a, .int .i64 x.b, .int .i64 x.c, .int .i64 x.k, .int .i64 x.t, .int .i64 x.n, .string x.p, .string x.q, .string x.r]
def En.R (x : En) : Prop := Rt x.a x.b x.c x.p x.q x.r

theorem en_flat (es : List En) : ∀ (i : Nat) (x : En) (j : Nat), es[i]? = some x → j < 9 → (es.flatMap En.cells)[i * 9 + j]? = x.cells[j]? := by
  induction es with
  | nil => intro i x j h; cases h
  | cons y r ih =>
    intro i x j h hj
    rw [List.flatMap_cons]
    have hl : y.cells.length = 9 := rfl
    cases i with
    | zero =>
      simp only [List.getElem?_cons_zero, Option.some.injEq] at h
      subst h
      rw [List.getElem?_append_left (by omega), Nat.zero_mul, Nat.zero_add]
    | succ i =>
      rw [List.getElem?_cons_succ] at h
      rw [List.getElem?_append_right (by omega), hl, show (i + 1) * 9 + j - 9 = i * 9 + j by omega]
      exact ih i x j h hj
end Go.Proofs.Ytmnmmmoeeapeiaa.Cw

/- What is left is no longer than what was; what a call answers is what is wrong from now on. Plain. Own work. -/
namespace Go.Proofs.Ytmnmmmoeeapeiaa.Cw
set_option linter.unusedVariables false

theorem rdN_size (most top : Nat) (s : ByteArray) (e : Nat) : (rdN most top s e).2.2.1.size ≤ s.size := by
  unfold rdN
  split
  · split
    · simp
    · exact Nat.le_refl _
  · exact Nat.le_refl _
theorem rdF_size (size : Nat) (s : ByteArray) (e : Nat) : (rdF size s e).2.2.1.size ≤ s.size := by
  unfold rdF
  split
  · split
    · exact Nat.le_refl _
    · split
      · exact Nat.le_refl _
      · simp
  · exact Nat.le_refl _
theorem rdT_size (most : Int) (s : ByteArray) (e : Nat) : (rdT most s e).2.2.1.size ≤ s.size := by
  unfold rdT
  split
  · exact Nat.le_refl _
  · split
    · split
      · split
        · exact Nat.le_refl _
        · split
          · exact Nat.le_refl _
          · simp
      · exact Nat.le_refl _
    · exact Nat.le_refl _

theorem rdN_same (most top : Nat) (s : ByteArray) (e : Nat) : (rdN most top s e).2.1 = (rdN most top s e).2.2.2 := by
  unfold rdN
  split
  · split
    · rfl
    · rfl
  · rfl
theorem rdT_same (most : Int) (s : ByteArray) (e : Nat) (h : 0 ≤ most) : (rdT most s e).2.1 = (rdT most s e).2.2.2 := by
  unfold rdT
  rw [if_neg (by omega)]
  split
  · split
    · split
      · rfl
      · split
        · rfl
        · rfl
    · rfl
  · rfl
theorem zz_i64 (n : Nat) (h : n < 18446744073709551616) : -9223372036854775808 ≤ zz n ∧ zz n < 9223372036854775808 := by
  unfold zz
  split <;> omega
end Go.Proofs.Ytmnmmmoeeapeiaa.Cw

/- The reference's seven and Reader. Own work. -/
namespace Go.Proofs.Ytmnmmmoeeapeiaa.Cw
open Go.RowKit
set_option linter.unusedVariables false
set_option linter.unusedSimpArgs false

/-- A reader of the reference at block g. -/
def RR (w : World) (g : Nat) (s : ByteArray) (e : Nat) : Prop := w.heap[g]? = some (.cells #[.string s, .int .i64 e] 72 (0, 0))
theorem RR.c0 {w : World} {g : Nat} {s : ByteArray} {e : Nat} (h : RR w g s e) : w.cell? ⟨g, 0, none⟩ = some (.string s) := cell_blk h 0
theorem RR.c1 {w : World} {g : Nat} {s : ByteArray} {e : Nat} (h : RR w g s e) : w.cell? ⟨g, 1, none⟩ = some (.int .i64 e) := cell_blk h 1
theorem RR.f0 {w : World} {g : Nat} {s : ByteArray} {e : Nat} (h : RR w g s e) : w.frozen? ⟨g, 0, none⟩ = false := free_blk h 0
theorem RR.f1 {w : World} {g : Nat} {s : ByteArray} {e : Nat} (h : RR w g s e) : w.frozen? ⟨g, 1, none⟩ = false := free_blk h 1
theorem RR.s0 {w : World} {g : Nat} {s : ByteArray} {e : Nat} (h : RR w g s e) (s' : ByteArray) : RR (w.setCell ⟨g, 0, none⟩ (.string s')) g s' e := (set_blk h 0 _).trans rfl
theorem RR.s1 {w : World} {g : Nat} {s : ByteArray} {e : Nat} (h : RR w g s e) (e' : Nat) : RR (w.setCell ⟨g, 1, none⟩ (.int .i64 e')) g s e' := (set_blk h 1 _).trans rfl
theorem RR.fr {w W : World} {g : Nat} {s : ByteArray} {e : Nat} {S : Nat → Prop} (h : RR w g s e) (k : Fr w W S) (hs : ¬ S g) : RR W g s e := k.at_ h hs
theorem RR.drewN {w : World} {g : Nat} {s : ByteArray} {e : Nat} (h : RR w g s e) (n : Nat) : RR (w.drewN n) g s e := h
theorem RR.drew {w : World} {g : Nat} {s : ByteArray} {e : Nat} (h : RR w g s e) : RR w.drew g s e := h

/-- The number that the lowest j bytes are, seven bits a byte. -/
def lo7 (s : ByteArray) : Nat → Nat
  | 0 => 0
  | j + 1 => lo7 s j + byt s j % 128 * 128 ^ j

theorem sv_lo7 (s : ByteArray) (most top : Nat) : ∀ f k m, (sv s most top f k m).2.2 = 0 → (sv s most top f k m).1 + lo7 s k = m + lo7 s (sv s most top f k m).2.1 := by
  intro f
  induction f with
  | zero => intro k m h; simp [sv] at h
  | succ f ih =>
    intro k m h
    by_cases h1 : k < s.size
    · by_cases h2 : (k + 1 = most ∧ top < s[k].toNat) ∨ (0 < k ∧ s[k].toNat = 0)
      · rw [sv_bad _ _ _ _ _ _ h1 h2] at h; simp at h
      · by_cases h3 : s[k].toNat < 128
        · rw [sv_last _ _ _ _ _ _ h1 h2 h3]
          simp only [lo7]
          rw [byt_eq s k h1]
          omega
        · rw [sv_more _ _ _ _ _ _ h1 h2 h3] at h ⊢
          have := ih (k + 1) _ h
          simp only [lo7] at this
          rw [byt_eq s k h1] at this
          omega
    · rw [sv_end _ _ _ _ _ _ h1] at h; simp at h

theorem sv_val (s : ByteArray) (most top : Nat) (h : (sv s most top most 0 0).2.2 = 0) : (sv s most top most 0 0).1 = lo7 s (sv s most top most 0 0).2.1 := by
  have := sv_lo7 s most top most 0 0 h
  simp only [lo7] at this
  omega

theorem lo7_mono (s : ByteArray) (i j : Nat) (h : i ≤ j) : lo7 s i ≤ lo7 s j := by
  induction j with
  | zero => obtain rfl : i = 0 := by omega
            exact Nat.le_refl _
  | succ j ih =>
    by_cases he : i = j + 1
    · rw [he]
      exact Nat.le_refl _
    · have := ih (by omega)
      simp only [lo7]
      omega

/-- What a loop from above has: n times its weight, and what is below, are the whole. -/
def Dn (s : ByteArray) (k j n : Nat) : Prop := n * 128 ^ j + lo7 s j = lo7 s k
theorem Dn.start (s : ByteArray) (k : Nat) : Dn s k k 0 := by unfold Dn; omega
theorem Dn.step {s : ByteArray} {k j n : Nat} (h : Dn s k (j + 1) n) : Dn s k j (n * 128 + byt s j % 128) := by
  unfold Dn at *
  simp only [lo7] at h
  rw [Nat.pow_succ] at h
  rw [← h, Nat.add_mul, Nat.mul_assoc, Nat.mul_comm 128 (128 ^ j)]
  omega
theorem Dn.le {s : ByteArray} {k j n : Nat} (h : Dn s k j n) : n * 128 ^ j ≤ lo7 s k := by unfold Dn at h; omega

set_option maxRecDepth 100000 in
set_option maxHeartbeats 1600000 in
theorem refSeven_calls (s : ByteArray) (most top : Nat) (hm1 : 1 ≤ most) (hm2 : most ≤ 9 ∨ most = 10 ∧ top ≤ 1) (ht : top ≤ 127) (hs : s.size ≤ maxLen) (w : World) :
    Calls Try.prog 53 #[.string s, .int .i64 most, .int .i64 top] w fun e w' => e = .returned (.tuple #[.int .i64 (sv s most top most 0 0).2.1, .int .i64 (sv s most top most 0 0).2.2]) ∧ w = w' := by
  unfold maxLen at hs
  generalize hr : sv s most top most 0 0 = r
  have HR := hid hr
  clear hr
  have HM := hid hm2
  clear hm2
  have hm3 : most ≤ 10 := by have := HM.out; omega
  go_enter Try.func53, Try.ntmps53
  go_wp2
  go_loop [8] (fun i => ∃ (k : Nat) (m : Nat), k ≤ most ∧ k ≤ s.size ∧ i = .int .i64 k ∧ Pow m k ∧ Hid (sv s most top (most - k) k m = r)) (fun i => most - (intOf i).toNat)
  case atStart => exact ⟨0, 0, by omega, by omega, rfl, by unfold Pow; omega, by simpa using HR⟩
  case round =>
    obtain ⟨k, m, hk, hks, rfl, hm, hrest⟩ := hrel
    by_cases hlt : k < most
    · obtain ⟨f, hf⟩ : ∃ f, most - k = f + 1 := ⟨most - k - 1, by omega⟩
      have HF := hid hf
      clear hf
      by_cases hend : k = s.size
      · have HE : Hid (r = (0, 0, 20)) := hid (by rw [← hrest.out, HF.out, sv_end _ _ _ _ _ _ (by omega)])
        have hb : ((k : Int) == (s.size : Int)) = true := by simp [hend]
        have hge : s.size ≤ k := by omega
        clear hend hrest HR
        go_wp2
        go_ret2
        rw [HE.out]
        exact ⟨rfl, rfl⟩
      · have hb : ((k : Int) == (s.size : Int)) = false := by simp; omega
        have hks' : k < s.size := by omega
        clear hend
        have hc : s[k].toNat < 256 := s[k].toNat_lt
        have hsv : Hid (sv s most top (f + 1) k m = r) := hid (by rw [← HF.out]; exact hrest.out)
        clear hrest HR
        by_cases hp : k + 1 = most
        · have hpb : ((k : Int) == (most : Int) - 1) = true := by rw [beq_iff_eq]; omega
          have HP : Hid (k + 1 = most) := hid hp
          clear hp
          go_wp2
          all_goals first
            | (go_ret2
               have hp := HP.out
               have hbad : (k + 1 = most ∧ top < s[k].toNat) ∨ (0 < k ∧ s[k].toNat = 0) := by
                 (try simp only [beq_iff_eq, beq_eq_false_iff_ne] at *)
                 omega
               have hv := hsv.out
               rw [sv_bad _ _ _ _ _ _ hks' hbad] at hv
               subst hv
               exact ⟨rfl, rfl⟩)
            | (go_ret2
               have hp := HP.out
               have hl : s[k].toNat < 128 := by omega
               have hbad : ¬ ((k + 1 = most ∧ top < s[k].toNat) ∨ (0 < k ∧ s[k].toNat = 0)) := by
                 (try simp only [beq_iff_eq, beq_eq_false_iff_ne] at *)
                 omega
               have hv := hsv.out
               rw [sv_last _ _ _ _ _ _ hks' hbad hl] at hv
               subst hv
               have h9 := HM.out
               exact ⟨ret2e (show (k : Int) + 1 = ((k + 1 : Nat) : Int) by omega) rfl, rfl⟩)
            | (go_round
               case rel =>
                 have hl : ¬ s[k].toNat < 128 := by omega
                 have hp := HP.out
                 have hbad : ¬ ((k + 1 = most ∧ top < s[k].toNat) ∨ (0 < k ∧ s[k].toNat = 0)) := by
                   (try simp only [beq_iff_eq, beq_eq_false_iff_ne] at *)
                   omega
                 have h9 := HM.out
                 have hrw := sv_more s most top f k m hks' hbad hl
                 exact ⟨k + 1, m + s[k].toNat % 128 * 128 ^ k, by omega, by omega, by go_num, step_lt k m _ hm, by rw [show most - (k + 1) = f by have := HF.out; omega, ← hrw]; exact hsv⟩
               case measure => simp [intOf]; omega)
        · have hpb : ((k : Int) == (most : Int) - 1) = false := by rw [beq_eq_false_iff_ne]; omega
          have HP : Hid (¬ k + 1 = most) := hid hp
          clear hp
          go_wp2
          all_goals first
            | (go_ret2
               have hp := HP.out
               have hbad : (k + 1 = most ∧ top < s[k].toNat) ∨ (0 < k ∧ s[k].toNat = 0) := by
                 (try simp only [beq_iff_eq, beq_eq_false_iff_ne] at *)
                 omega
               have hv := hsv.out
               rw [sv_bad _ _ _ _ _ _ hks' hbad] at hv
               subst hv
               exact ⟨rfl, rfl⟩)
            | (go_ret2
               have hp := HP.out
               have hl : s[k].toNat < 128 := by omega
               have hbad : ¬ ((k + 1 = most ∧ top < s[k].toNat) ∨ (0 < k ∧ s[k].toNat = 0)) := by
                 (try simp only [beq_iff_eq, beq_eq_false_iff_ne] at *)
                 omega
               have hv := hsv.out
               rw [sv_last _ _ _ _ _ _ hks' hbad hl] at hv
               subst hv
               have h9 := HM.out
               exact ⟨ret2e (show (k : Int) + 1 = ((k + 1 : Nat) : Int) by omega) rfl, rfl⟩)
            | (go_round
               case rel =>
                 have hl : ¬ s[k].toNat < 128 := by omega
                 have hp := HP.out
                 have hbad : ¬ ((k + 1 = most ∧ top < s[k].toNat) ∨ (0 < k ∧ s[k].toNat = 0)) := by
                   (try simp only [beq_iff_eq, beq_eq_false_iff_ne] at *)
                   omega
                 have h9 := HM.out
                 have hrw := sv_more s most top f k m hks' hbad hl
                 exact ⟨k + 1, m + s[k].toNat % 128 * 128 ^ k, by omega, by omega, by go_num, step_lt k m _ hm, by rw [show most - (k + 1) = f by have := HF.out; omega, ← hrw]; exact hsv⟩
               case measure => simp [intOf]; omega)
    · have HE : Hid (r = (0, 0, 4)) := hid (by rw [← hrest.out, show most - k = 0 by omega]; rfl)
      clear hrest HR
      go_wp2
      go_ret2
      rw [HE.out]
      exact ⟨rfl, rfl⟩
end Go.Proofs.Ytmnmmmoeeapeiaa.Cw
