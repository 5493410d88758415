/- The reference's Decode of an inode. Own work. -/
import Derived.Test.YtmbfcnacoijmaaaIoF
import Derived.IntWalk
namespace Go.Proofs.Ytmbfcnacoijmaaa.Cw
open Go.RowKit
set_option linter.unusedVariables false
set_option linter.unusedSimpArgs false

/-- The number that two bytes are. -/
def two (s : ByteArray) (i : Nat) : Nat := byt s i + 256 * byt s (i + 1)
theorem two_lt (s : ByteArray) (i : Nat) : two s i < 65536 := by
  unfold two
  have h1 := byt_lt s i
  have h2 := byt_lt s (i + 1)
  omega

set_option maxRecDepth 100000 in
set_option maxHeartbeats 1600000 in
theorem two_calls (w : World) (s : ByteArray) (i : Nat) (h : i + 1 < s.size) (hs : s.size ≤ 1000) :
    Calls Try.prog 36 #[.string s, .int .i64 i] w fun e w' => e = .returned (.int .i64 (two s i)) ∧ ∃ n, w' = w.drewN n := by
  have h0 : (0 : Int) ≤ (i : Int) := by omega
  have h1 : (i : Int) < (s.size : Int) := by omega
  have h2 : (0 : Int) ≤ (i : Int) + 1 := by omega
  have h3 : (i : Int) + 1 < (s.size : Int) := by omega
  have h4 : i < s.size := by omega
  have HT : Hid ((two s i : Int) = (s[i].toNat : Int) + 256 * (s[i + 1].toNat : Int)) := hid (by unfold two; rw [byt_eq s i h4, byt_eq s (i + 1) h]; omega)
  have b1 : s[i].toNat < 256 := s[i].toNat_lt
  have b2 : s[i + 1].toNat < 256 := s[i + 1].toNat_lt
  have w1 : IntKind.i64.wrap ((i : Int) + 1) = (i : Int) + 1 := IntWalk.i64_in _ (by omega)
  have w2 : ((i : Int) + 1).toNat = i + 1 := by omega
  go_enter Try.func36, Try.ntmps36
  go_wp2_with fail
  go_quiet (fail)
  go_wp2
  go_ret
  exact ⟨ret1 HT.out.symm, nq, rfl⟩
theorem two_at (w : World) (s : ByteArray) (x : Int) (i : Nat) (hx : x = i) (h : i + 1 < s.size) (hs : s.size ≤ 1000) :
    Calls Try.prog 36 #[.string s, .int .i64 x] w fun e w' => e = .returned (.int .i64 (two s i)) ∧ Fr w w' (fun _ => False) := by
  subst hx
  exact (two_calls w s i h hs).mono fun e w' ⟨he, n, hn⟩ => ⟨he, by subst hn; exact (Fr.refl w _).drewN n⟩

/-- The numbers, as the reference reads them. -/
def rfv (s : ByteArray) : Nat → Int
  | 0 => byt s 0
  | 1 => byt s 1
  | 2 => two s 2 + 65536 * two s 4
  | j + 3 => two s (6 + 2 * j)
theorem ext_ext (s : ByteArray) (a k : Nat) (h : a ≤ s.size) : (s.extract a s.size).extract k (s.extract a s.size).size = s.extract (a + k) s.size := by
  rw [ByteArray.size_extract, ByteArray.extract_extract]
  congr 1
  omega
theorem byt_ext (s : ByteArray) (a k : Nat) (h : a ≤ s.size) : byt (s.extract a s.size) k = byt s (a + k) := by
  unfold byt
  by_cases hk : a + k < s.size
  · rw [dif_pos hk, dif_pos (show k < (s.extract a s.size).size by rw [ByteArray.size_extract]; omega), ByteArray.getElem_extract]
  · rw [dif_neg hk, dif_neg (show ¬ k < (s.extract a s.size).size by rw [ByteArray.size_extract]; omega)]
theorem le1 (s : ByteArray) : le s 1 = byt s 0 := by simp [le]
theorem le2 (s : ByteArray) : le s 2 = byt s 0 + 256 * byt s 1 := by simp [le]; omega
theorem le4 (s : ByteArray) : le s 4 = byt s 0 + 256 * byt s 1 + 65536 * (byt s 2 + 256 * byt s 3) := by simp [le]; omega
/-- Where each number stands. -/
def foff : Nat → Nat
  | 0 => 0
  | 1 => 1
  | 2 => 2
  | j + 3 => 6 + 2 * j
theorem foff_next (m : Nat) : foff (m + 1) = foff m + fsz m := by
  rcases m with _ | _ | _ | m
  · rfl
  · rfl
  · rfl
  · show 6 + 2 * (m + 1) = 6 + 2 * m + 2
    omega
theorem fsz_le (m : Nat) : fsz m ≤ 4 := by unfold fsz; split <;> omega
theorem rdF_fine (m : Nat) (s : ByteArray) (h : fsz m ≤ s.size) : rdF (fsz m) s 0 = (le s (fsz m), 0, s.extract (fsz m) s.size, 0) := by
  refine rdF_ok _ _ (by omega) ?_
  have h1 := le_lt s (fsz m)
  have h2 : 256 ^ fsz m ≤ 256 ^ 4 := Nat.pow_le_pow_right (by decide) (fsz_le m)
  omega
theorem rst_fine (s : ByteArray) (m : Nat) (h : foff m ≤ s.size) : rst s m = (s.extract (foff m) s.size, 0) := by
  induction m with
  | zero =>
    show (s, 0) = (s.extract 0 s.size, 0)
    rw [ByteArray.extract_zero_size]
  | succ m ih =>
    have hn := foff_next m
    have ih2 := ih (by omega)
    show ((rdF (fsz m) (rst s m).1 (rst s m).2).2.2.1, (rdF (fsz m) (rst s m).1 (rst s m).2).2.2.2) = _
    rw [ih2]
    show ((rdF (fsz m) (s.extract (foff m) s.size) 0).2.2.1, (rdF (fsz m) (s.extract (foff m) s.size) 0).2.2.2) = _
    rw [rdF_fine m _ (by rw [ByteArray.size_extract]; omega), ext_ext _ _ _ (by omega), hn]
theorem rvl_fine (s : ByteArray) (m : Nat) (h : foff (m + 1) ≤ s.size) : rvl s m = rfv s m := by
  have hn := foff_next m
  unfold rvl
  rw [rst_fine s m (by omega)]
  show (((rdF (fsz m) (s.extract (foff m) s.size) 0).1 : Nat) : Int) = _
  rw [rdF_fine m _ (by rw [ByteArray.size_extract]; omega)]
  show ((le (s.extract (foff m) s.size) (fsz m) : Nat) : Int) = _
  have hB := fun k => byt_ext s (foff m) k (by omega)
  rcases m with _ | _ | _ | m
  · show ((le (s.extract (foff 0) s.size) 1 : Nat) : Int) = byt s 0
    rw [le1, hB]
    rfl
  · show ((le (s.extract (foff 1) s.size) 1 : Nat) : Int) = byt s 1
    rw [le1, hB]
    rfl
  · show ((le (s.extract (foff 2) s.size) 4 : Nat) : Int) = two s 2 + 65536 * two s 4
    rw [le4, hB, hB, hB, hB]
    show ((byt s 2 + 256 * byt s 3 + 65536 * (byt s 4 + 256 * byt s 5) : Nat) : Int) = (((byt s 2 + 256 * byt s 3 : Nat) : Int) + 65536 * ((byt s 4 + 256 * byt s 5 : Nat) : Int))
    omega
  · show ((le (s.extract (foff (m + 3)) s.size) 2 : Nat) : Int) = two s (6 + 2 * m)
    rw [le2, hB, hB]
    rfl
theorem rvl_ref (s : ByteArray) (h : s.size = 32) (j : Nat) (hj : j < 11) : rvl s j = rfv s j := by
  refine rvl_fine s j ?_
  have : foff (j + 1) ≤ 22 := by
    rcases (show j = 0 ∨ j = 1 ∨ j = 2 ∨ j = 3 ∨ j = 4 ∨ j = 5 ∨ j = 6 ∨ j = 7 ∨ j = 8 ∨ j = 9 ∨ j = 10 by omega) with rfl | rfl | rfl | rfl | rfl | rfl | rfl | rfl | rfl | rfl | rfl <;> decide
  omega
theorem ofF_ext {f g : Nat → Int} (h : ∀ j, j < 11 → f j = g j) : Nd.ofF f = Nd.ofF g := by
  unfold Nd.ofF
  rw [h 0 (by omega), h 1 (by omega), h 2 (by omega), h 3 (by omega), h 4 (by omega), h 5 (by omega), h 6 (by omega), h 7 (by omega), h 8 (by omega), h 9 (by omega), h 10 (by omega)]
/-- Bytes that are not 32 are none of an inode. -/
theorem ndV_size (y : Nd) (s : ByteArray) (h : ¬ s.size = 32) : ndV y s = .tuple #[Nd.zero.V, .int .i64 120] := by
  refine ndV_no fun hh => h ?_
  rw [← hh.2]
  show (ndB y).toArray.size = 32
  rw [List.size_toArray]
  exact ndB_len y
end Go.Proofs.Ytmbfcnacoijmaaa.Cw
