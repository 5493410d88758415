/- The reader's calls, more of them. Own work. -/
import Derived.Test.YtmbfcnacoijmaaaCwC
namespace Go.Proofs.Ytmbfcnacoijmaaa.Cw
open Go.RowKit
set_option linter.unusedVariables false
set_option linter.unusedSimpArgs false

theorem ret1 {k : IntKind} {a b : Int} (h : a = b) : Ending.returned (.int k a) = .returned (.int k b) := by rw [h]

/-- What is wrong at the end. -/
def endOf (s : ByteArray) (x : Nat) : Nat := if x = 0 then (if s.size = 0 then 0 else 4) else x

theorem of_calls (w : World) (s : ByteArray) :
    Calls Try.prog 34 #[.string s] w fun e w' => e = .returned (.pointer (some ⟨w.heap.size, 0, none⟩)) ∧ Rd w' w.heap.size s 0 ∧ Fr w w' (fun _ => False) := by
  go_enter Try.func34, Try.ntmps34
  go_wp2
  go_ret
  exact ⟨rfl, alloc_new _ _, (Fr.refl w _).alloc _⟩

theorem new_calls (w : World) :
    Calls Try.prog 29 #[] w fun e w' => e = .returned (.pointer (some ⟨w.heap.size, 0, none⟩)) ∧ w'.heap[w.heap.size]? = some (.cells #[.slice none 0 0] 78 (0, 0)) ∧ Fr w w' (fun _ => False) := by
  go_enter Try.func29, Try.ntmps29
  go_wp2
  go_ret
  exact ⟨rfl, alloc_new _ _, (Fr.refl w _).alloc _⟩

theorem sized_no (w : World) (n : Int) (h : ¬ (n = 1 ∨ n = 2 ∨ n = 4 ∨ n = 8)) :
    Calls Try.prog 40 #[.int .i64 n] w fun e w' => e = .returned (.bool false) ∧ w = w' := by
  have h1 : (n == 1) = false := by rw [beq_eq_false_iff_ne]; omega
  have h2 : (n == 2) = false := by rw [beq_eq_false_iff_ne]; omega
  have h4 : (n == 4) = false := by rw [beq_eq_false_iff_ne]; omega
  have h8 : (n == 8) = false := by rw [beq_eq_false_iff_ne]; omega
  clear h
  go_enter Try.func40, Try.ntmps40
  go_wp2
  go_ret
  exact ⟨rfl, rfl⟩

theorem sized_yes (w : World) (n : Nat) (h : n = 1 ∨ n = 2 ∨ n = 4 ∨ n = 8) :
    Calls Try.prog 40 #[.int .i64 n] w fun e w' => e = .returned (.bool true) ∧ w = w' := by
  rcases h with rfl | rfl | rfl | rfl
  all_goals
    go_enter Try.func40, Try.ntmps40
    go_wp2
    go_ret
    exact ⟨rfl, rfl⟩


/-- A byte of a text. -/
def byt (s : ByteArray) (i : Nat) : Nat := if h : i < s.size then s[i].toNat else 0
theorem byt_lt (s : ByteArray) (i : Nat) : byt s i < 256 := by
  unfold byt
  split
  · exact UInt8.toNat_lt _
  · omega
theorem byt_eq (s : ByteArray) (i : Nat) (h : i < s.size) : byt s i = s[i].toNat := dif_pos h
/-- The number that the first k bytes are, the lowest first. -/
def le (s : ByteArray) : Nat → Nat
  | 0 => 0
  | k + 1 => le s k + byt s k * 256 ^ k
theorem le_lt (s : ByteArray) (k : Nat) : le s k < 256 ^ k := by
  induction k with
  | zero => simp [le]
  | succ k ih =>
    have h1 := byt_lt s k
    have : byt s k * 256 ^ k ≤ 255 * 256 ^ k := Nat.mul_le_mul (by omega) (Nat.le_refl _)
    simp only [le]
    rw [Nat.pow_succ]; omega

theorem two64 : ((2 ^ 64 : Nat) : Int) = 18446744073709551616 := by simp
theorem ofInt_wrap (q : Nat) (h : q < 18446744073709551616) : (BitVec.ofInt 64 (wrap64 (q : Int))).toNat = q := by
  have e : wrap64 (q : Int) % 18446744073709551616 = q := by unfold wrap64; omega
  rw [BitVec.toNat_ofInt, two64, e]
  rfl
theorem ofInt_nat (m : Nat) (h : m < 18446744073709551616) : (BitVec.ofInt 64 (m : Int)).toNat = m := by rw [BitVec.ofInt_natCast, BitVec.toNat_ofNat]; exact Nat.mod_eq_of_lt (by omega)
theorem or_i64 (m q r : Nat) (hm : m < 18446744073709551616) (hq : q < 18446744073709551616) (hr : m ||| q = r) :
    bits .or .i64 (m : Int) (wrap64 (q : Int)) = wrap64 (r : Int) := by
  show IntKind.i64.wrap ((BitVec.ofInt 64 (m : Int) ||| BitVec.ofInt 64 (wrap64 (q : Int))).toNat : Int) = _
  rw [BitVec.toNat_or, ofInt_nat m hm, ofInt_wrap q hq, hr, IntKind.wrap_i64]
  unfold wrap64
  omega

theorem pow256 (k : Nat) (hk : k < 8) : 256 ^ k ≤ 72057594037927936 := Nat.le_trans (Nat.pow_le_pow_right (by decide) (show k ≤ 7 by omega)) (by decide)
theorem fix_or (k m c : Nat) (hk : k < 8) (hm : m < 256 ^ k) (hc : c < 256) :
    bits .or .i64 (m : Int) (wrap64 ((c : Int) * 2 ^ (8 * k))) = wrap64 ((m + c * 256 ^ k : Nat) : Int) := by
  have e2 : (2 : Nat) ^ (8 * k) = 256 ^ k := by rw [Nat.pow_mul]
  have e : (2 : Int) ^ (8 * k) = ((256 ^ k : Nat) : Int) := by rw [← e2]; simp
  have hp := pow256 k hk
  have hsum : m ||| c * 256 ^ k = m + c * 256 ^ k := by
    rw [Nat.or_comm, Nat.mul_comm, ← e2, ← Nat.two_pow_add_eq_or_of_lt (by rw [e2]; exact hm), Nat.add_comm]
  have hb : c * 256 ^ k ≤ 255 * 256 ^ k := Nat.mul_le_mul (by omega) (Nat.le_refl _)
  rw [e, ← Int.natCast_mul]
  exact or_i64 _ _ _ (by omega) (by omega) hsum

/-- A number of a size is read. -/
def rdF (size : Nat) (s : ByteArray) (e : Nat) : Nat × Nat × ByteArray × Nat :=
  if e = 0 then
    if s.size < size then (0, 20, s, 20)
    else if 9223372036854775808 ≤ le s size then (0, 4, s, 4)
    else (le s size, 0, s.extract size s.size, 0)
  else (0, e, s, e)

theorem rdF_failed (size : Nat) (s : ByteArray) (e : Nat) (h : ¬ e = 0) : rdF size s e = (0, e, s, e) := if_neg h
theorem rdF_cut (size : Nat) (s : ByteArray) (h : s.size < size) : rdF size s 0 = (0, 20, s, 20) := by unfold rdF; rw [if_pos rfl, if_pos h]
theorem rdF_form (size : Nat) (s : ByteArray) (h : ¬ s.size < size) (h2 : 9223372036854775808 ≤ le s size) : rdF size s 0 = (0, 4, s, 4) := by unfold rdF; rw [if_pos rfl, if_neg h, if_pos h2]
theorem rdF_ok (size : Nat) (s : ByteArray) (h : ¬ s.size < size) (h2 : ¬ 9223372036854775808 ≤ le s size) : rdF size s 0 = (le s size, 0, s.extract size s.size, 0) := by unfold rdF; rw [if_pos rfl, if_neg h, if_neg h2]

def Le (m : Int) (s : ByteArray) (k : Nat) : Prop := m = wrap64 (le s k : Nat)

theorem Le_step (m : Int) (s : ByteArray) (k : Nat) (hk : k < 8) (h : k < s.size) (hm : Le m s k) : Le (bits .or .i64 m (wrap64 (((s[k].toNat : Nat) : Int) * 2 ^ (8 * k)))) s (k + 1) := by
  unfold Le at *
  have h1 := le_lt s k
  have h2 := pow256 k hk
  rw [hm, ← byt_eq s k h, wrap64_in _ (by omega) (by omega), fix_or k _ _ hk h1 (byt_lt s k)]
  rfl

set_option maxRecDepth 100000 in
set_option maxHeartbeats 1600000 in
theorem rFixed_calls (w : World) (g : Nat) (s : ByteArray) (x : Nat) (size : Nat) (hz : size = 1 ∨ size = 2 ∨ size = 4 ∨ size = 8) (h : Rd w g s x) (hs : s.size ≤ maxLen) :
    Calls Try.prog 35 #[.pointer (some ⟨g, 0, none⟩), .int .i64 size] w fun e w' => e = .returned (.tuple #[.int .i64 (rdF size s x).1, .int .i64 (rdF size s x).2.1]) ∧ Rd w' g (rdF size s x).2.2.1 (rdF size s x).2.2.2 ∧ Fr w w' (fun i => i = g) := by
  have h1 := h.c1
  have h0 := h.c0
  have f0 := h.f0
  have f1 := h.f1
  have HZ := hid hz
  have hz8 : size ≤ 8 := by omega
  clear hz
  have hs2 := hs
  unfold maxLen at hs2
  by_cases hx : x = 0
  · subst hx
    by_cases hc : s.size < size
    · rw [rdF_cut _ _ hc]
      go_enter Try.func35, Try.ntmps35
      go_wp2_with (first | (go_at_call 40; refine (sized_yes _ _ HZ.out).mono ?_; rintro e w' ⟨rfl, rfl⟩) | (go_at_call 41; refine (failed_some _ _ _ _ h).mono ?_; rintro e w' ⟨rfl, rfl⟩) | (go_at_call 42; refine (fail_calls _ _ _ _ 20 h).mono ?_; rintro e w' ⟨rfl, rfl⟩))
      go_ret2
      exact ⟨rfl, h.s1 20, Fr.set1 w g 1 _⟩
    · have hc2 : size ≤ s.size := by omega
      have HC := hid hc
      clear hc
      have hle := le_lt s size
      go_enter Try.func35, Try.ntmps35
      go_wp2_with (first | (go_at_call 40; refine (sized_yes _ _ HZ.out).mono ?_; rintro e w' ⟨rfl, rfl⟩) | (go_at_call 41; refine (failed_some _ _ _ _ h).mono ?_; rintro e w' ⟨rfl, rfl⟩) | (go_at_call 42; refine (fail_calls _ _ _ _ 20 h).mono ?_; rintro e w' ⟨rfl, rfl⟩))
      have hd : decide (s.size < size) = false := by simp; omega
      go_loop [7, 27] (fun n i => ∃ (k : Nat) (m : Int), k ≤ size ∧ i = .int .i64 k ∧ n = .int .i64 m ∧ Le m s k) (fun _ i => size - (intOf i).toNat)
      case atStart => exact ⟨0, 0, by omega, rfl, rfl, by unfold Le; simp [le, wrap64]⟩
      case round =>
        obtain ⟨k, m, hk, rfl, rfl, hm⟩ := hrel
        by_cases hlt : k < size
        · have hks : k < s.size := by omega
          have hc8 : s[k].toNat < 256 := UInt8.toNat_lt _
          go_wp2
          go_round
          case rel => exact ⟨k + 1, _, by omega, by go_num, rfl, Le_step m s k (by omega) hks hm⟩
          case measure => simp [intOf]; omega
        · have hke : k = size := by omega
          by_cases hneg : 9223372036854775808 ≤ le s size
          · have hrd := rdF_form _ _ HC.out hneg
            have hm0 : m < 0 := by
              have h8 : 256 ^ size ≤ 256 ^ 8 := Nat.pow_le_pow_right (by decide) hz8
              unfold Le at hm
              rw [hke] at hm
              rw [hm]
              unfold wrap64
              omega
            have HRD := hid hrd
            clear hrd hke
            go_wp2_with (first | (go_at_call 42; refine (fail_calls _ _ _ _ 4 h).mono ?_; rintro e w' ⟨rfl, rfl⟩))
            go_ret2
            rw [HRD.out]
            exact ⟨rfl, h.s1 4, Fr.set1 w g 1 _⟩
          · have hrd := rdF_ok _ _ HC.out hneg
            have hmm : m = (le s size : Nat) := by
              unfold Le at hm
              rw [hke] at hm
              rw [hm]
              unfold wrap64
              omega
            have hm0 : 0 ≤ m := by omega
            have HM := hid hmm
            have HRD := hid hrd
            clear hrd hke hmm
            go_wp2
            go_ret2
            rw [HRD.out]
            exact ⟨ret2e HM.out rfl, h.s0 _, Fr.set1 w g 0 _⟩
  · rw [rdF_failed _ _ _ hx]
    have hy : ((x : Int) != 0) = true := by rw [bne_iff_ne]; omega
    clear hx
    go_enter Try.func35, Try.ntmps35
    go_wp2_with (first | (go_at_call 40; refine (sized_yes _ _ HZ.out).mono ?_; rintro e w' ⟨rfl, rfl⟩) | (go_at_call 41; refine (failed_some _ _ _ _ h).mono ?_; rintro e w' ⟨rfl, rfl⟩))
    go_ret2
    exact ⟨rfl, h, Fr.refl w _⟩
end Go.Proofs.Ytmbfcnacoijmaaa.Cw
