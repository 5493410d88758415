/- The reader's calls, more of them. Own work. -/
import Derived.Test.YtmnmmmoeeapeiaaJaf
import Derived.Test.YtmnmmmoeeapeiaaJad
import Derived.Deep.AppendLies
import Derived.Deep.RegionLaw
import Derived.Lib.AppendStr
import Derived.IntWalk
namespace Go.Proofs.Ytmnmmmoeeapeiaa.Cw
open Go.RowKit
set_option linter.unusedVariables false
set_option linter.unusedSimpArgs false

theorem ret1 {k : IntKind} {a b : Int} (h : a = b) : Ending.returned (.int k a) = .returned (.int k b) := by rw [h]

theorem left_calls (w : World) (g : Nat) (s : ByteArray) (x : Nat) (h : Rd w g s x) (hs : s.size ≤ maxLen) :
    Calls Try.prog 45 #[.pointer (some ⟨g, 0, none⟩)] w fun e w' => e = .returned (.int .i64 s.size) ∧ w = w' := by
  have h0 := h.c0
  clear h
  go_enter Try.func45, Try.ntmps45
  go_wp2
  go_ret
  exact ⟨rfl, rfl⟩

/-- What is wrong at the end. -/
def endOf (s : ByteArray) (x : Nat) : Nat := if x = 0 then (if s.size = 0 then 0 else 4) else x

theorem of_calls (w : World) (s : ByteArray) :
    Calls Try.prog 42 #[.string s] w fun e w' => e = .returned (.pointer (some ⟨w.heap.size, 0, none⟩)) ∧ Rd w' w.heap.size s 0 ∧ Fr w w' (fun _ => False) := by
  go_enter Try.func42, Try.ntmps42
  go_wp2
  go_ret
  exact ⟨rfl, alloc_new _ _, (Fr.refl w _).alloc _⟩

theorem new_calls (w : World) :
    Calls Try.prog 20 #[] w fun e w' => e = .returned (.pointer (some ⟨w.heap.size, 0, none⟩)) ∧ w'.heap[w.heap.size]? = some (.cells #[.slice none 0 0] 85 (0, 0)) ∧ Fr w w' (fun _ => False) := by
  go_enter Try.func20, Try.ntmps20
  go_wp2
  go_ret
  exact ⟨rfl, alloc_new _ _, (Fr.refl w _).alloc _⟩

theorem sized_no (w : World) (n : Int) (h : ¬ (n = 1 ∨ n = 2 ∨ n = 4 ∨ n = 8)) :
    Calls Try.prog 66 #[.int .i64 n] w fun e w' => e = .returned (.bool false) ∧ w = w' := by
  have h1 : (n == 1) = false := by rw [beq_eq_false_iff_ne]; omega
  have h2 : (n == 2) = false := by rw [beq_eq_false_iff_ne]; omega
  have h4 : (n == 4) = false := by rw [beq_eq_false_iff_ne]; omega
  have h8 : (n == 8) = false := by rw [beq_eq_false_iff_ne]; omega
  clear h
  go_enter Try.func66, Try.ntmps66
  go_wp2
  go_ret
  exact ⟨rfl, rfl⟩

theorem sized_yes (w : World) (n : Nat) (h : n = 1 ∨ n = 2 ∨ n = 4 ∨ n = 8) :
    Calls Try.prog 66 #[.int .i64 n] w fun e w' => e = .returned (.bool true) ∧ w = w' := by
  rcases h with rfl | rfl | rfl | rfl
  all_goals
    go_enter Try.func66, Try.ntmps66
    go_wp2
    go_ret
    exact ⟨rfl, rfl⟩


/-- A byte of a text. -/
def byt (s : ByteArray) (i : Nat) : Nat := if h : i < s.size then s[i].toNat else 0
theorem byt_lt (s : ByteArray) (i : Nat) : byt s i < 256 := by
  unfold byt
  split
  · exact UInt8.toNat_lt _
  · omega
theorem byt_eq (s : ByteArray) (i : Nat) (h : i < s.size) : byt s i = s[i].toNat := dif_pos h
/-- The number that the first k bytes are, the lowest first. -/
def le (s : ByteArray) : Nat → Nat
  | 0 => 0
  | k + 1 => le s k + byt s k * 256 ^ k
theorem le_lt (s : ByteArray) (k : Nat) : le s k < 256 ^ k := by
  induction k with
  | zero => simp [le]
  | succ k ih =>
    have h1 := byt_lt s k
    have : byt s k * 256 ^ k ≤ 255 * 256 ^ k := Nat.mul_le_mul (by omega) (Nat.le_refl _)
    simp only [le]
    rw [Nat.pow_succ]; omega

theorem two64 : ((2 ^ 64 : Nat) : Int) = 18446744073709551616 := by simp
theorem ofInt_wrap (q : Nat) (h : q < 18446744073709551616) : (BitVec.ofInt 64 (wrap64 (q : Int))).toNat = q := by
  have e : wrap64 (q : Int) % 18446744073709551616 = q := by unfold wrap64; omega
  rw [BitVec.toNat_ofInt, two64, e]
  rfl
theorem ofInt_nat (m : Nat) (h : m < 18446744073709551616) : (BitVec.ofInt 64 (m : Int)).toNat = m := by rw [BitVec.ofInt_natCast, BitVec.toNat_ofNat]; exact Nat.mod_eq_of_lt (by omega)
theorem or_i64 (m q r : Nat) (hm : m < 18446744073709551616) (hq : q < 18446744073709551616) (hr : m ||| q = r) :
    bits .or .i64 (m : Int) (wrap64 (q : Int)) = wrap64 (r : Int) := by
  show IntKind.i64.wrap ((BitVec.ofInt 64 (m : Int) ||| BitVec.ofInt 64 (wrap64 (q : Int))).toNat : Int) = _
  rw [BitVec.toNat_or, ofInt_nat m hm, ofInt_wrap q hq, hr, IntKind.wrap_i64]
  unfold wrap64
  omega

theorem pow256 (k : Nat) (hk : k < 8) : 256 ^ k ≤ 72057594037927936 := Nat.le_trans (Nat.pow_le_pow_right (by decide) (show k ≤ 7 by omega)) (by decide)
theorem fix_or (k m c : Nat) (hk : k < 8) (hm : m < 256 ^ k) (hc : c < 256) :
    bits .or .i64 (m : Int) (wrap64 ((c : Int) * 2 ^ (8 * k))) = wrap64 ((m + c * 256 ^ k : Nat) : Int) := by
  have e2 : (2 : Nat) ^ (8 * k) = 256 ^ k := by rw [Nat.pow_mul]
  have e : (2 : Int) ^ (8 * k) = ((256 ^ k : Nat) : Int) := by rw [← e2]; simp
  have hp := pow256 k hk
  have hsum : m ||| c * 256 ^ k = m + c * 256 ^ k := by
    rw [Nat.or_comm, Nat.mul_comm, ← e2, ← Nat.two_pow_add_eq_or_of_lt (by rw [e2]; exact hm), Nat.add_comm]
  have hb : c * 256 ^ k ≤ 255 * 256 ^ k := Nat.mul_le_mul (by omega) (Nat.le_refl _)
  rw [e, ← Int.natCast_mul]
  exact or_i64 _ _ _ (by omega) (by omega) hsum

/-- A number of a size is read. -/
def rdF (size : Nat) (s : ByteArray) (e : Nat) : Nat × Nat × ByteArray × Nat :=
  if e = 0 then
    if s.size < size then (0, 20, s, 20)
    else if 9223372036854775808 ≤ le s size then (0, 4, s, 4)
    else (le s size, 0, s.extract size s.size, 0)
  else (0, e, s, e)

theorem rdF_failed (size : Nat) (s : ByteArray) (e : Nat) (h : ¬ e = 0) : rdF size s e = (0, e, s, e) := if_neg h
theorem rdF_cut (size : Nat) (s : ByteArray) (h : s.size < size) : rdF size s 0 = (0, 20, s, 20) := by unfold rdF; rw [if_pos rfl, if_pos h]
theorem rdF_form (size : Nat) (s : ByteArray) (h : ¬ s.size < size) (h2 : 9223372036854775808 ≤ le s size) : rdF size s 0 = (0, 4, s, 4) := by unfold rdF; rw [if_pos rfl, if_neg h, if_pos h2]
theorem rdF_ok (size : Nat) (s : ByteArray) (h : ¬ s.size < size) (h2 : ¬ 9223372036854775808 ≤ le s size) : rdF size s 0 = (le s size, 0, s.extract size s.size, 0) := by unfold rdF; rw [if_pos rfl, if_neg h, if_neg h2]

def Le (m : Int) (s : ByteArray) (k : Nat) : Prop := m = wrap64 (le s k : Nat)

theorem Le_step (m : Int) (s : ByteArray) (k : Nat) (hk : k < 8) (h : k < s.size) (hm : Le m s k) : Le (bits .or .i64 m (wrap64 (((s[k].toNat : Nat) : Int) * 2 ^ (8 * k)))) s (k + 1) := by
  unfold Le at *
  have h1 := le_lt s k
  have h2 := pow256 k hk
  rw [hm, ← byt_eq s k h, wrap64_in _ (by omega) (by omega), fix_or k _ _ hk h1 (byt_lt s k)]
  rfl

end Go.Proofs.Ytmnmmmoeeapeiaa.Cw

/- The writer's Fixed and Text. Own work. -/
namespace Go.Proofs.Ytmnmmmoeeapeiaa.Cw
open Go.RowKit
set_option linter.unusedVariables false
set_option linter.unusedSimpArgs false

/-- A byte of a number. -/
def by8 (n k : Nat) : UInt8 := UInt8.ofNat (n / 256 ^ k % 256)
/-- A number's bytes, so many. -/
def fixB (n : Nat) : Nat → List UInt8
  | 0 => []
  | k + 1 => fixB n k ++ [by8 n k]

theorem fix_byte (n k : Nat) : IntKind.u8.wrap ((n : Int) / 2 ^ (8 * k)) = ((by8 n k).toNat : Int) := by
  unfold by8
  have e2 : (2 : Nat) ^ (8 * k) = 256 ^ k := by rw [Nat.pow_mul]
  have e : (2 : Int) ^ (8 * k) = ((256 ^ k : Nat) : Int) := by rw [← e2]; simp
  rw [u8n _ (by omega), IntKind.wrap_u8, e]
  simp

theorem Wn.at_ {w : World} {v : Value} {g n cap H : Nat} (hH : w.heap.size ≤ H) (h : v.ownBlock = some g ∨ g = H) : Wn w v (.slice (some ⟨g, 0, none⟩) n cap) := by
  intro b hb
  injection hb with hb
  subst hb
  rcases h with h | h
  · exact .inl h
  · exact .inr (by show w.heap.size ≤ g; omega)

theorem grown_drew {w w1 : World} {row : Option Nat} (h : w.drew.grownBy w1 row) : w.grownBy w1 row := ⟨h.os, h.tape, h.output, h.size, h.block⟩

theorem fixB_len (n k : Nat) : (fixB n k).length = k := by
  induction k with
  | zero => rfl
  | succ k ih => simp [fixB, ih]

set_option maxRecDepth 100000 in
set_option maxHeartbeats 1600000 in
theorem wFixed_calls (w : World) (g : Nat) (v : Value) (bs : List UInt8) (n size : Nat) (hz : size = 1 ∨ size = 2 ∨ size = 4 ∨ size = 8) (hn : n ≤ 2 ^ 63 - 1) (hfit : n < 256 ^ size) (h : Wr w g v bs) (hl : Len bs 10) :
    Calls Try.prog 60 #[.pointer (some ⟨g, 0, none⟩), .int .i64 n, .int .i64 size] w fun e w' => e = .returned (.int .i64 0) ∧ Wrote w w' g v (bs ++ fixB n size) := by
  have HZ := hid hz
  have hz8 : size ≤ 8 := by omega
  clear hz
  have HL := hid hl
  clear hl
  have hq : ((n : Int) / 2 ^ (8 * size) != 0) = false := by
    have e2 : (2 : Nat) ^ (8 * size) = 256 ^ size := by rw [Nat.pow_mul]
    have e : (2 : Int) ^ (8 * size) = ((256 ^ size : Nat) : Int) := by rw [← e2]; simp
    rw [e, ← Int.natCast_ediv, Nat.div_eq_of_lt hfit]
    rfl
  clear hfit
  obtain ⟨i0, hi, hz0, hz1, hz2⟩ := info_parts info_u8
  rcases (show size < 8 ∨ 8 ≤ size by omega) with hs8 | hs8
  all_goals
    go_enter Try.func60, Try.ntmps60
    go_wp2_with (go_at_call 66; refine (sized_yes _ _ HZ.out).mono ?_; rintro e w' ⟨rfl, rfl⟩)
    go_loopw [31] (fun x wr => ∃ (k : Nat) (v1 : Value), x = .int .i64 k ∧ k ≤ size ∧ Wr wr g v1 (bs ++ fixB n k) ∧ Fr w wr (WS g v) ∧ Wn w v v1) (fun x _ => size - (intOf x).toNat)
    case atStart => exact ⟨0, v, rfl, by omega, by simpa [fixB] using h, Fr.refl w _, Wn.refl w v⟩
    case round =>
      obtain ⟨k, v1, rfl, hk, h1, hf, hw⟩ := hrel
      by_cases hlt : k < size
      · have c0 := h1.c0
        have f0 := h1.f0
        have c0a : ∀ o, (wr.alloc o).cell? ⟨g, 0, none⟩ = some v1 := fun o => (h1.alloc o).c0
        have hb : Hid (bs.length + k + 1 ≤ 140737488355328) := hid (by
          have h2 := HL.out
          unfold Len at h2
          omega)
        go_wp2
        have w8 : IntKind.i64.wrap (8 * (k : Int)) = 8 * (k : Int) := IntWalk.i64_in _ (by omega)
        have w9 : (0 : Int) ≤ 8 * (k : Int) := by omega
        have w10 : 8 * (k : Int) ≤ 64 := by omega
        have w11 : (8 * (k : Int)).toNat = 8 * k := by omega
        go_region_law (refine step_append_lies _ rfl (.tmp 38) (.tmp 44) 35 rfl 0 5 i0 (.int .u8 0) 1 1 Try.underlying35 hi hz0 hz1 hz2 rfl (by decide) _ _ _ (by simp [Act.eval, Act.put]) (h1.2.alloc _) ⟨wr.heap.size, 0, none⟩ 1 1 (cellsOf [by8 n k]) (by simp [Act.eval, Act.put]) rfl (cell_new1 wr _ _ _ (val_u8 (fix_byte n k))) (one_u8 _) (by decide) (by have := hb.out; have := fixB_len n k; simp only [List.length_append]; unfold maxLen; omega) (by have := hb.out; have := fixB_len n k; simp only [List.length_append]; omega) (by omega) _ rfl ?_; intro gn capn w1 hown' hgrow hat hlt2; have R := h1.step hf hw (by simp) hown' (grown_drew hgrow) (Wn.at_ (by simp) hat); have hcf := h1.grown_c0 (grown_drew hgrow); have c1 := hcf.1; have f1 := hcf.2; clear hown' hgrow hat hlt2 hcf c0 f0 c0a)
        all_goals
          clear w8 w9 w10 w11
          go_wp2
          go_roundw
          case rel =>
            rw [List.length_append] at R
            exact ⟨k + 1, _, by go_num, by omega, by rw [fixB, ← List.append_assoc]; exact R.1, R.2.1, R.2.2⟩
          case measure => simp [intOf]; omega
      · go_wp2
        go_ret
        obtain rfl : k = size := by omega
        exact ⟨rfl, v1, h1, hf, hw⟩

end Go.Proofs.Ytmnmmmoeeapeiaa.Cw
