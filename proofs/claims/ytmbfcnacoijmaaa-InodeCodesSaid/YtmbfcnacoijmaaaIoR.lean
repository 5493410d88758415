/- Tables of inodes and blocks of names: Get, Put, Name, Rename and the reference's. Own work. -/
import Derived.Test.YtmbfcnacoijmaaaIoH
import Derived.IntWalk
namespace Go.Proofs.Ytmbfcnacoijmaaa.Cw
open Go.RowKit
set_option linter.unusedVariables false
set_option linter.unusedSimpArgs false

/-- What is wrong with a block and a place. -/
def askE (b : ByteArray) (k : Int) (many : Int) : Int := if b.size = 128 then (if 0 ≤ k ∧ k < many then 0 else 6) else 4
theorem askE_size {b : ByteArray} {k many : Int} (h : ¬ b.size = 128) : askE b k many = 4 := if_neg h
theorem askE_out {b : ByteArray} {k many : Int} (h : b.size = 128) (h2 : ¬ (0 ≤ k ∧ k < many)) : askE b k many = 6 := by unfold askE; rw [if_pos h, if_neg h2]
theorem askE_in {b : ByteArray} {k many : Int} (h : b.size = 128) (h2 : 0 ≤ k ∧ k < many) : askE b k many = 0 := by unfold askE; rw [if_pos h, if_pos h2]

set_option maxRecDepth 100000 in
set_option maxHeartbeats 1600000 in
theorem asked_calls (w : World) (b : ByteArray) (k many : Int) (hs : b.size ≤ maxLen) :
    Calls Try.prog 38 #[.string b, .int .i64 k, .int .i64 many] w fun e w' => e = .returned (.int .i64 (askE b k many)) ∧ w = w' := by
  unfold maxLen at hs
  by_cases h : b.size = 128
  · have hb : ((b.size : Int) != 128) = false := by rw [h]; rfl
    have H := hid h
    clear h
    by_cases h1 : k < 0
    · rw [askE_out H.out (by omega)]
      go_enter Try.func38, Try.ntmps38
      go_wp2
      go_ret
      exact ⟨rfl, rfl⟩
    · have h1' : 0 ≤ k := by omega
      by_cases h2 : many ≤ k
      · rw [askE_out H.out (by omega)]
        have hd : decide (many ≤ k) = true := decide_eq_true h2
        go_enter Try.func38, Try.ntmps38
        go_wp2
        go_ret
        exact ⟨rfl, rfl⟩
      · rw [askE_in H.out (by omega)]
        have hd : decide (many ≤ k) = false := decide_eq_false h2
        have h2' : k < many := by omega
        go_enter Try.func38, Try.ntmps38
        go_wp2
        go_ret
        exact ⟨rfl, rfl⟩
  · rw [askE_size h]
    have hb : ((b.size : Int) != 128) = true := by rw [bne_iff_ne]; omega
    clear h
    go_enter Try.func38, Try.ntmps38
    go_wp2
    go_ret
    exact ⟨rfl, rfl⟩

set_option maxRecDepth 100000 in
set_option maxHeartbeats 1600000 in
theorem refAsked_calls (w : World) (b : ByteArray) (k many : Int) (hs : b.size ≤ maxLen) :
    Calls Try.prog 39 #[.string b, .int .i64 k, .int .i64 many] w fun e w' => e = .returned (.int .i64 (askE b k many)) ∧ w = w' := by
  unfold maxLen at hs
  by_cases h : b.size = 128
  · have hb : ((b.size : Int) != 128) = false := by rw [h]; rfl
    have H := hid h
    clear h
    by_cases h1 : k < 0
    · rw [askE_out H.out (by omega)]
      go_enter Try.func39, Try.ntmps39
      go_wp2
      go_ret
      exact ⟨rfl, rfl⟩
    · have h1' : 0 ≤ k := by omega
      by_cases h2 : many ≤ k
      · rw [askE_out H.out (by omega)]
        have hd : decide (many ≤ k) = true := decide_eq_true h2
        go_enter Try.func39, Try.ntmps39
        go_wp2
        go_ret
        exact ⟨rfl, rfl⟩
      · rw [askE_in H.out (by omega)]
        have hd : decide (many ≤ k) = false := decide_eq_false h2
        have h2' : k < many := by omega
        go_enter Try.func39, Try.ntmps39
        go_wp2
        go_ret
        exact ⟨rfl, rfl⟩
  · rw [askE_size h]
    have hb : ((b.size : Int) != 128) = true := by rw [bne_iff_ne]; omega
    clear h
    go_enter Try.func39, Try.ntmps39
    go_wp2
    go_ret
    exact ⟨rfl, rfl⟩

/-! ### Names -/
set_option maxRecDepth 100000 in
set_option maxHeartbeats 1600000 in
theorem name_no (w : World) (b : ByteArray) (k : Int) (hs : b.size ≤ maxLen) (h : askE b k 64 ≠ 0) :
    Calls Try.prog 21 #[.string b, .int .i64 k] w fun e w' => e = .returned (.tuple #[.int .i64 0, .int .i64 (askE b k 64)]) ∧ Fr w w' (fun _ => False) := by
  have AC := hid (fun w => asked_calls w b k 64 hs)
  have hb : (askE b k 64 != 0) = true := bne_iff_ne.2 h
  generalize askE b k 64 = E at *
  clear h hs
  go_enter Try.func21, Try.ntmps21
  go_wp2_with (go_at_call 38; refine (AC.out _).mono ?_; rintro e w' ⟨rfl, rfl⟩)
  go_ret2
  exact ⟨rfl, Fr.refl _ _⟩
set_option maxRecDepth 100000 in
set_option maxHeartbeats 1600000 in
theorem refName_no (w : World) (b : ByteArray) (k : Int) (hs : b.size ≤ maxLen) (h : askE b k 64 ≠ 0) :
    Calls Try.prog 22 #[.string b, .int .i64 k] w fun e w' => e = .returned (.tuple #[.int .i64 0, .int .i64 (askE b k 64)]) ∧ Fr w w' (fun _ => False) := by
  have AC := hid (fun w => refAsked_calls w b k 64 hs)
  have hb : (askE b k 64 != 0) = true := bne_iff_ne.2 h
  generalize askE b k 64 = E at *
  clear h hs
  go_enter Try.func22, Try.ntmps22
  go_wp2_with (go_at_call 39; refine (AC.out _).mono ?_; rintro e w' ⟨rfl, rfl⟩)
  go_ret2
  exact ⟨rfl, Fr.refl _ _⟩

theorem or_two (x y : Nat) (hx : x < 256) (hy : y < 256) : bits .or .i64 (x : Int) ((y : Int) * 256) = ((x + 256 * y : Nat) : Int) := by
  have h := fix_or 1 x y (by decide) (by omega) hy
  rw [show wrap64 ((y : Int) * 2 ^ (8 * 1)) = (y : Int) * 256 by unfold wrap64; omega] at h
  rw [h]
  unfold wrap64
  omega

set_option maxRecDepth 100000 in
set_option maxHeartbeats 1600000 in
theorem name_yes (w : World) (b : ByteArray) (k : Nat) (hs : b.size = 128) (hk : k < 64) :
    Calls Try.prog 21 #[.string b, .int .i64 k] w fun e w' => e = .returned (.tuple #[.int .i64 (two b (2 * k)), .int .i64 0]) ∧ Fr w w' (fun _ => False) := by
  have AC := hid (fun w => asked_calls w b k 64 (by unfold maxLen; omega))
  rw [askE_in hs (by omega)] at AC
  have i1 : (0 : Int) ≤ 2 * (k : Int) := by omega
  have i2 : 2 * (k : Int) < (b.size : Int) := by omega
  have i3 : 2 * (k : Int) + 1 < (b.size : Int) := by omega
  have i4 : (0 : Int) ≤ 2 * (k : Int) + 1 := by omega
  have n1 : 2 * k < b.size := by omega
  have n2 : 2 * k + 1 < b.size := by omega
  have w1 : IntKind.i64.wrap (2 * (k : Int)) = 2 * (k : Int) := IntWalk.i64_in _ (by omega)
  have w2 : IntKind.i64.wrap (2 * (k : Int) + 1) = 2 * (k : Int) + 1 := IntWalk.i64_in _ (by omega)
  have t1 : (2 * (k : Int)).toNat = 2 * k := by omega
  have t2 : (2 * (k : Int) + 1).toNat = 2 * k + 1 := by omega
  have b1 := b[2 * k].toNat_lt
  have b2 := b[2 * k + 1].toNat_lt
  have w3 : IntKind.i64.wrap ((b[2 * k + 1].toNat : Int) * 256) = (b[2 * k + 1].toNat : Int) * 256 := IntWalk.i64_in _ (by omega)
  have HO : Hid (bits .or .i64 (b[2 * k].toNat : Int) ((b[2 * k + 1].toNat : Int) * 256) = (two b (2 * k) : Int)) := hid (by
    rw [or_two _ _ b[2 * k].toNat_lt b[2 * k + 1].toNat_lt]
    unfold two
    rw [byt_eq b _ n1, byt_eq b _ n2])
  clear hs hk
  go_enter Try.func21, Try.ntmps21
  go_wp2_with (go_at_call 38; refine (AC.out _).mono ?_; rintro e w' ⟨rfl, rfl⟩)
  go_quiet (fail)
  go_wp2
  go_ret2
  exact ⟨ret2e HO.out rfl, (Fr.refl w _).drewN nq⟩

set_option maxRecDepth 100000 in
set_option maxHeartbeats 1600000 in
theorem refName_yes (w : World) (b : ByteArray) (k : Nat) (hs : b.size = 128) (hk : k < 64) :
    Calls Try.prog 22 #[.string b, .int .i64 k] w fun e w' => e = .returned (.tuple #[.int .i64 (two b (2 * k)), .int .i64 0]) ∧ Fr w w' (fun _ => False) := by
  have AC := hid (fun w => refAsked_calls w b k 64 (by unfold maxLen; omega))
  rw [askE_in hs (by omega)] at AC
  have TC := hid (fun w => two_at w b (2 * (k : Int)) (2 * k) (by omega) (by omega) (by omega))
  clear hs
  go_enter Try.func22, Try.ntmps22
  go_wp2_with (first | (go_at_call 39; refine (AC.out _).mono ?_; rintro e w' ⟨rfl, rfl⟩) | (go_at_call 36; refine (TC.out _).mono ?_; rintro e w' ⟨rfl, hf⟩))
  go_ret2
  exact ⟨rfl, hf⟩

/-! ### Tables -/
theorem dV_split (y : Nd) (s : ByteArray) : ∃ (z : Nd) (e : Int), ndV y s = .tuple #[z.V, .int .i64 e] := by
  by_cases h : y.R ∧ (⟨(ndB y).toArray⟩ : ByteArray) = s
  · exact ⟨y, 0, ndV_yes h⟩
  · exact ⟨Nd.zero, 120, ndV_no h⟩
/-- The bytes of an inode in a table. -/
def cut32 (b : ByteArray) (k : Nat) : ByteArray := b.extract (32 * k) (32 * k + 32)
theorem cut32_size (b : ByteArray) (k : Nat) (hs : b.size = 128) (hk : k < 4) : (cut32 b k).size = 32 := by unfold cut32; rw [ByteArray.size_extract]; omega

set_option maxRecDepth 100000 in
set_option maxHeartbeats 3200000 in
theorem get_no (w : World) (b : ByteArray) (k : Int) (hs : b.size ≤ maxLen) (h : askE b k 4 ≠ 0) :
    Calls Try.prog 25 #[.string b, .int .i64 k] w fun e w' => e = .returned (.tuple #[Nd.zero.V, .int .i64 (askE b k 4)]) ∧ Fr w w' (fun _ => False) := by
  have AC := hid (fun w => asked_calls w b k 4 hs)
  have hb : (askE b k 4 != 0) = true := bne_iff_ne.2 h
  generalize askE b k 4 = E at *
  clear h hs
  go_enter Try.func25, Try.ntmps25
  go_wp2_with (go_at_call 38; refine (AC.out _).mono ?_; rintro e w' ⟨rfl, rfl⟩)
  refine bodyPost_ret (results_node rfl _ _ _ rfl (load11 (v0 := (.int .i64 0)) (v1 := (.int .i64 0)) (v2 := (.int .i64 0)) (v3 := (.int .i64 0)) (v4 := (.int .i64 0)) (v5 := (.int .i64 0)) (v6 := (.int .i64 0)) (v7 := (.int .i64 0)) (v8 := (.int .i64 0)) (v9 := (.int .i64 0)) (v10 := (.int .i64 0)) (t := 24) (alloc_new w _))) rfl ?_
  exact ⟨rfl, (Fr.refl _ _).alloc _⟩
set_option maxRecDepth 100000 in
set_option maxHeartbeats 3200000 in
theorem refGet_no (w : World) (b : ByteArray) (k : Int) (hs : b.size ≤ maxLen) (h : askE b k 4 ≠ 0) :
    Calls Try.prog 26 #[.string b, .int .i64 k] w fun e w' => e = .returned (.tuple #[Nd.zero.V, .int .i64 (askE b k 4)]) ∧ Fr w w' (fun _ => False) := by
  have AC := hid (fun w => refAsked_calls w b k 4 hs)
  have hb : (askE b k 4 != 0) = true := bne_iff_ne.2 h
  generalize askE b k 4 = E at *
  clear h hs
  go_enter Try.func26, Try.ntmps26
  go_wp2_with (go_at_call 39; refine (AC.out _).mono ?_; rintro e w' ⟨rfl, rfl⟩)
  refine bodyPost_ret (results_node rfl _ _ _ rfl (load11 (v0 := (.int .i64 0)) (v1 := (.int .i64 0)) (v2 := (.int .i64 0)) (v3 := (.int .i64 0)) (v4 := (.int .i64 0)) (v5 := (.int .i64 0)) (v6 := (.int .i64 0)) (v7 := (.int .i64 0)) (v8 := (.int .i64 0)) (v9 := (.int .i64 0)) (v10 := (.int .i64 0)) (t := 24) (alloc_new w _))) rfl ?_
  exact ⟨rfl, (Fr.refl _ _).alloc _⟩

set_option maxRecDepth 100000 in
set_option maxHeartbeats 3200000 in
theorem get_yes (w : World) (b : ByteArray) (k : Nat) (hs : b.size = 128) (hk : k < 4) :
    Calls Try.prog 25 #[.string b, .int .i64 k] w fun e w' => e = .returned (ndV (Nd.ofF (rvl (cut32 b k))) (cut32 b k)) ∧ Fr w w' (fun _ => False) := by
  have AC := hid (fun w => asked_calls w b k 4 (by unfold maxLen; omega))
  rw [askE_in hs (by omega)] at AC
  have DC := hid (fun w => decode12_calls w (cut32 b k) (by rw [cut32_size b k hs hk]; unfold maxLen; omega))
  obtain ⟨z, ee, hz⟩ := dV_split (Nd.ofF (rvl (cut32 b k))) (cut32 b k)
  have HZ := hid hz
  rw [hz] at DC
  clear hz
  have DC2 : Hid (∀ w, Calls Try.prog 12 #[.string (b.extract (32 * k) (32 * (k + 1)))] w fun e w' => e = .returned (.tuple #[z.V, .int .i64 ee]) ∧ Fr w w' (fun _ => False)) := hid (fun w => DC.out w)
  unfold Nd.V at DC2
  have i1 : (0 : Int) ≤ 32 * (k : Int) := by omega
  have i2 : 32 * ((k : Int) + 1) ≤ (b.size : Int) := by omega
  have i3 : 32 * (k : Int) ≤ 32 * ((k : Int) + 1) := by omega
  have t1 : (32 * (k : Int)).toNat = 32 * k := by omega
  have t2 : (32 * ((k : Int) + 1)).toNat = 32 * (k + 1) := by omega
  clear hs DC
  go_enter Try.func25, Try.ntmps25
  go_wp2_with (go_at_call 38; refine (AC.out _).mono ?_; rintro e w' ⟨rfl, rfl⟩)
  refine (DC2.out _).mono ?_
  rintro e w9 ⟨rfl, hf9⟩
  have hr2 := hf9.at_ (alloc_new w _) (fun x => x)
  have hA2 := ((Fr.refl w (fun _ => False)).alloc _).trans hf9
  have r0 := (cell_blk hr2 0).trans rfl
  have f0 := free_blk hr2 0
  have r1 := (cell_blk hr2 1).trans rfl
  have f1 := free_blk hr2 1
  have r2 := (cell_blk hr2 2).trans rfl
  have f2 := free_blk hr2 2
  have r3 := (cell_blk hr2 3).trans rfl
  have f3 := free_blk hr2 3
  have r4 := (cell_blk hr2 4).trans rfl
  have f4 := free_blk hr2 4
  have r5 := (cell_blk hr2 5).trans rfl
  have f5 := free_blk hr2 5
  have r6 := (cell_blk hr2 6).trans rfl
  have f6 := free_blk hr2 6
  have r7 := (cell_blk hr2 7).trans rfl
  have f7 := free_blk hr2 7
  have r8 := (cell_blk hr2 8).trans rfl
  have f8 := free_blk hr2 8
  have r9 := (cell_blk hr2 9).trans rfl
  have f9 := free_blk hr2 9
  have r10 := (cell_blk hr2 10).trans rfl
  have f10 := free_blk hr2 10
  go_wp2_with fail
  (try simp only [Exit.inBlock, Exit.then])
  refine bodyPost_ret (results_node rfl _ _ _ rfl (load11 (v0 := (.int .i64 z.k)) (v1 := (.int .i64 z.l)) (v2 := (.int .i64 z.s)) (v3 := (.int .i64 z.d0)) (v4 := (.int .i64 z.d1)) (v5 := (.int .i64 z.d2)) (v6 := (.int .i64 z.d3)) (v7 := (.int .i64 z.d4)) (v8 := (.int .i64 z.d5)) (v9 := (.int .i64 z.a)) (v10 := (.int .i64 z.b)) (t := 24) ?hb)) rfl ?_
  case hb => exact set11 (.int .i64 z.k) (.int .i64 z.l) (.int .i64 z.s) (.int .i64 z.d0) (.int .i64 z.d1) (.int .i64 z.d2) (.int .i64 z.d3) (.int .i64 z.d4) (.int .i64 z.d5) (.int .i64 z.a) (.int .i64 z.b) hr2
  rw [HZ.out]
  exact ⟨rfl, fr11 (.int .i64 z.k) (.int .i64 z.l) (.int .i64 z.s) (.int .i64 z.d0) (.int .i64 z.d1) (.int .i64 z.d2) (.int .i64 z.d3) (.int .i64 z.d4) (.int .i64 z.d5) (.int .i64 z.a) (.int .i64 z.b) hA2 (Nat.le_refl _)⟩

set_option maxRecDepth 100000 in
set_option maxHeartbeats 3200000 in
theorem refGet_yes (w : World) (b : ByteArray) (k : Nat) (hs : b.size = 128) (hk : k < 4) :
    Calls Try.prog 26 #[.string b, .int .i64 k] w fun e w' => e = .returned (ndV (Nd.ofF (rvl (cut32 b k))) (cut32 b k)) ∧ Fr w w' (fun _ => False) := by
  have AC := hid (fun w => refAsked_calls w b k 4 (by unfold maxLen; omega))
  rw [askE_in hs (by omega)] at AC
  have DC := hid (fun w => refDecode12_calls w (cut32 b k) (by rw [cut32_size b k hs hk]; unfold maxLen; omega))
  obtain ⟨z, ee, hz⟩ := dV_split (Nd.ofF (rvl (cut32 b k))) (cut32 b k)
  have HZ := hid hz
  rw [hz] at DC
  clear hz
  have DC2 : Hid (∀ w, Calls Try.prog 13 #[.string (b.extract (32 * k) (32 * k + 32))] w fun e w' => e = .returned (.tuple #[z.V, .int .i64 ee]) ∧ Fr w w' (fun _ => False)) := hid (fun w => DC.out w)
  unfold Nd.V at DC2
  have i1 : (0 : Int) ≤ 32 * (k : Int) := by omega
  have i2 : 32 * (k : Int) + 32 ≤ (b.size : Int) := by omega
  have i3 : 32 * (k : Int) ≤ 32 * (k : Int) + 32 := by omega
  have t1 : (32 * (k : Int)).toNat = 32 * k := by omega
  have t2 : (32 * (k : Int) + 32).toNat = 32 * k + 32 := by omega
  clear hs DC
  go_enter Try.func26, Try.ntmps26
  go_wp2_with (go_at_call 39; refine (AC.out _).mono ?_; rintro e w' ⟨rfl, rfl⟩)
  refine (DC2.out _).mono ?_
  rintro e w9 ⟨rfl, hf9⟩
  have hr2 := hf9.at_ (alloc_new w _) (fun x => x)
  have hA2 := ((Fr.refl w (fun _ => False)).alloc _).trans hf9
  have r0 := (cell_blk hr2 0).trans rfl
  have f0 := free_blk hr2 0
  have r1 := (cell_blk hr2 1).trans rfl
  have f1 := free_blk hr2 1
  have r2 := (cell_blk hr2 2).trans rfl
  have f2 := free_blk hr2 2
  have r3 := (cell_blk hr2 3).trans rfl
  have f3 := free_blk hr2 3
  have r4 := (cell_blk hr2 4).trans rfl
  have f4 := free_blk hr2 4
  have r5 := (cell_blk hr2 5).trans rfl
  have f5 := free_blk hr2 5
  have r6 := (cell_blk hr2 6).trans rfl
  have f6 := free_blk hr2 6
  have r7 := (cell_blk hr2 7).trans rfl
  have f7 := free_blk hr2 7
  have r8 := (cell_blk hr2 8).trans rfl
  have f8 := free_blk hr2 8
  have r9 := (cell_blk hr2 9).trans rfl
  have f9 := free_blk hr2 9
  have r10 := (cell_blk hr2 10).trans rfl
  have f10 := free_blk hr2 10
  go_wp2_with fail
  (try simp only [Exit.inBlock, Exit.then])
  refine bodyPost_ret (results_node rfl _ _ _ rfl (load11 (v0 := (.int .i64 z.k)) (v1 := (.int .i64 z.l)) (v2 := (.int .i64 z.s)) (v3 := (.int .i64 z.d0)) (v4 := (.int .i64 z.d1)) (v5 := (.int .i64 z.d2)) (v6 := (.int .i64 z.d3)) (v7 := (.int .i64 z.d4)) (v8 := (.int .i64 z.d5)) (v9 := (.int .i64 z.a)) (v10 := (.int .i64 z.b)) (t := 24) ?hb)) rfl ?_
  case hb => exact set11 (.int .i64 z.k) (.int .i64 z.l) (.int .i64 z.s) (.int .i64 z.d0) (.int .i64 z.d1) (.int .i64 z.d2) (.int .i64 z.d3) (.int .i64 z.d4) (.int .i64 z.d5) (.int .i64 z.a) (.int .i64 z.b) hr2
  rw [HZ.out]
  exact ⟨rfl, fr11 (.int .i64 z.k) (.int .i64 z.l) (.int .i64 z.s) (.int .i64 z.d0) (.int .i64 z.d1) (.int .i64 z.d2) (.int .i64 z.d3) (.int .i64 z.d4) (.int .i64 z.d5) (.int .i64 z.a) (.int .i64 z.b) hA2 (Nat.le_refl _)⟩

/-- A table's block with an inode. -/
def putB (b : ByteArray) (k : Nat) (x : Nd) : ByteArray := b.extract 0 (32 * k) ++ ⟨(ndB x).toArray⟩ ++ b.extract (32 * k + 32) b.size

set_option maxRecDepth 100000 in
set_option maxHeartbeats 3200000 in
theorem put_ask (w : World) (b : ByteArray) (k : Int) (x : Nd) (hs : b.size ≤ maxLen) (h : askE b k 4 ≠ 0) :
    Calls Try.prog 27 #[.string b, .int .i64 k, x.V] w fun e w' => e = .returned (.tuple #[.string ⟨#[]⟩, .int .i64 (askE b k 4)]) ∧ Fr w w' (fun _ => False) := by
  have AC := hid (fun w => asked_calls w b k 4 hs)
  have hb : (askE b k 4 != 0) = true := bne_iff_ne.2 h
  generalize askE b k 4 = E at *
  unfold Nd.V
  clear h hs
  go_enter Try.func27, Try.ntmps27
  go_wp2_with (go_at_call 38; refine (AC.out _).mono ?_; rintro e w' ⟨rfl, rfl⟩)
  go_ret2
  exact ⟨rfl, (Fr.refl _ _).alloc _⟩
set_option maxRecDepth 100000 in
set_option maxHeartbeats 3200000 in
theorem put_enc (w : World) (b : ByteArray) (k : Int) (x : Nd) (hs : b.size ≤ maxLen) (h : askE b k 4 = 0) (hR : ¬ x.R) :
    Calls Try.prog 27 #[.string b, .int .i64 k, x.V] w fun e w' => e = .returned (.tuple #[.string ⟨#[]⟩, .int .i64 120]) ∧ Fr w w' (fun _ => False) := by
  have AC := hid (fun w => asked_calls w b k 4 hs)
  rw [h] at AC
  have EC := hid (fun w => encode12_no w x hR)
  unfold Nd.V at *
  clear h hs hR
  go_enter Try.func27, Try.ntmps27
  go_wp2_with (first | (go_at_call 38; refine (AC.out _).mono ?_; rintro e w' ⟨rfl, rfl⟩) | (go_at_call 10; refine (EC.out _).mono ?_; rintro e w' ⟨rfl, hf⟩))
  go_ret2
  exact ⟨rfl, ((Fr.refl _ _).alloc _).trans hf⟩
set_option maxRecDepth 100000 in
set_option maxHeartbeats 3200000 in
theorem put_yes (w : World) (b : ByteArray) (k : Nat) (x : Nd) (hs : b.size = 128) (hk : k < 4) (hR : x.R) :
    Calls Try.prog 27 #[.string b, .int .i64 k, x.V] w fun e w' => e = .returned (.tuple #[.string (putB b k x), .int .i64 0]) ∧ Fr w w' (fun _ => False) := by
  have AC := hid (fun w => asked_calls w b k 4 (by unfold maxLen; omega))
  rw [askE_in hs (by omega)] at AC
  have EC := hid (fun w => encode12_yes w x hR)
  have hl := ndB_len x
  have HP : Hid (putB b k x = b.extract 0 (32 * k) ++ ⟨(ndB x).toArray⟩ ++ b.extract (32 * k + 32) b.size) := hid rfl
  rw [HP.out]
  generalize ndB x = l at *
  unfold Nd.V at *
  have i1 : (0 : Int) ≤ 32 * (k : Int) := by omega
  have i2 : 32 * (k : Int) ≤ (b.size : Int) := by omega
  have i3 : (0 : Int) ≤ 32 * ((k : Int) + 1) := by omega
  have i4 : 32 * ((k : Int) + 1) ≤ (b.size : Int) := by omega
  have t1 : (32 * (k : Int)).toNat = 32 * k := by omega
  have t2 : (32 * ((k : Int) + 1)).toNat = 32 * k + 32 := by omega
  have w1 : IntKind.i64.wrap (32 * (k : Int)) = 32 * (k : Int) := IntWalk.i64_in _ (by omega)
  have w2 : IntKind.i64.wrap ((k : Int) + 1) = (k : Int) + 1 := IntWalk.i64_in _ (by omega)
  have w3 : IntKind.i64.wrap (32 * ((k : Int) + 1)) = 32 * ((k : Int) + 1) := IntWalk.i64_in _ (by omega)
  have z1 : (b.extract 0 (32 * k)).size = 32 * k := by rw [ByteArray.size_extract]; omega
  have z2 : (b.extract (32 * k + 32) b.size).size = b.size - (32 * k + 32) := by rw [ByteArray.size_extract]; omega
  generalize q1 : b.extract 0 (32 * k) = p1 at *
  generalize q2 : b.extract (32 * k + 32) b.size = p2 at *
  have s1 : ¬ 9223372036854775807 < p1.size + l.length := by omega
  have s2 : ¬ 9223372036854775807 < p1.size + l.length + p2.size := by omega
  clear hs hR hl z1 z2
  go_enter Try.func27, Try.ntmps27
  go_wp2_with (first | (go_at_call 38; refine (AC.out _).mono ?_; rintro e w' ⟨rfl, rfl⟩) | (go_at_call 10; refine (EC.out _).mono ?_; rintro e w' ⟨rfl, hf⟩))
  go_quiet (fail)
  go_wp2
  go_ret2
  exact ⟨rfl, (((Fr.refl _ _).alloc _).trans hf).drewN nq⟩

set_option maxRecDepth 100000 in
set_option maxHeartbeats 3200000 in
theorem refPut_ask (w : World) (b : ByteArray) (k : Int) (x : Nd) (hs : b.size ≤ maxLen) (h : askE b k 4 ≠ 0) :
    Calls Try.prog 28 #[.string b, .int .i64 k, x.V] w fun e w' => e = .returned (.tuple #[.string ⟨#[]⟩, .int .i64 (askE b k 4)]) ∧ Fr w w' (fun _ => False) := by
  have AC := hid (fun w => refAsked_calls w b k 4 hs)
  have hb : (askE b k 4 != 0) = true := bne_iff_ne.2 h
  generalize askE b k 4 = E at *
  unfold Nd.V
  clear h hs
  go_enter Try.func28, Try.ntmps28
  go_wp2_with (go_at_call 39; refine (AC.out _).mono ?_; rintro e w' ⟨rfl, rfl⟩)
  go_ret2
  exact ⟨rfl, (Fr.refl _ _).alloc _⟩
set_option maxRecDepth 100000 in
set_option maxHeartbeats 3200000 in
theorem refPut_enc (w : World) (b : ByteArray) (k : Int) (x : Nd) (hs : b.size ≤ maxLen) (h : askE b k 4 = 0) (hR : ¬ x.R) :
    Calls Try.prog 28 #[.string b, .int .i64 k, x.V] w fun e w' => e = .returned (.tuple #[.string ⟨#[]⟩, .int .i64 120]) ∧ Fr w w' (fun _ => False) := by
  have AC := hid (fun w => refAsked_calls w b k 4 hs)
  rw [h] at AC
  have EC := hid (fun w => refEncode12_no w x hR)
  unfold Nd.V at *
  clear h hs hR
  go_enter Try.func28, Try.ntmps28
  go_wp2_with (first | (go_at_call 39; refine (AC.out _).mono ?_; rintro e w' ⟨rfl, rfl⟩) | (go_at_call 11; refine (EC.out _).mono ?_; rintro e w' ⟨rfl, hf⟩))
  go_ret2
  exact ⟨rfl, ((Fr.refl _ _).alloc _).trans hf⟩
set_option maxRecDepth 100000 in
set_option maxHeartbeats 3200000 in
theorem refPut_yes (w : World) (b : ByteArray) (k : Nat) (x : Nd) (hs : b.size = 128) (hk : k < 4) (hR : x.R) :
    Calls Try.prog 28 #[.string b, .int .i64 k, x.V] w fun e w' => e = .returned (.tuple #[.string (putB b k x), .int .i64 0]) ∧ Fr w w' (fun _ => False) := by
  have AC := hid (fun w => refAsked_calls w b k 4 (by unfold maxLen; omega))
  rw [askE_in hs (by omega)] at AC
  have EC := hid (fun w => refEncode12_yes w x hR)
  have hl := ndB_len x
  have HP : Hid (putB b k x = b.extract 0 (32 * k) ++ ⟨(ndB x).toArray⟩ ++ b.extract (32 * k + 32) b.size) := hid rfl
  rw [HP.out]
  generalize ndB x = l at *
  unfold Nd.V at *
  have i1 : (0 : Int) ≤ 32 * (k : Int) := by omega
  have i2 : 32 * (k : Int) ≤ (b.size : Int) := by omega
  have i3 : (0 : Int) ≤ 32 * (k : Int) + 32 := by omega
  have i4 : 32 * (k : Int) + 32 ≤ (b.size : Int) := by omega
  have t1 : (32 * (k : Int)).toNat = 32 * k := by omega
  have t2 : (32 * (k : Int) + 32).toNat = 32 * k + 32 := by omega
  have w1 : IntKind.i64.wrap (32 * (k : Int)) = 32 * (k : Int) := IntWalk.i64_in _ (by omega)
  have w3 : IntKind.i64.wrap (32 * (k : Int) + 32) = 32 * (k : Int) + 32 := IntWalk.i64_in _ (by omega)
  have z1 : (b.extract 0 (32 * k)).size = 32 * k := by rw [ByteArray.size_extract]; omega
  have z2 : (b.extract (32 * k + 32) b.size).size = b.size - (32 * k + 32) := by rw [ByteArray.size_extract]; omega
  generalize q1 : b.extract 0 (32 * k) = p1 at *
  generalize q2 : b.extract (32 * k + 32) b.size = p2 at *
  have s1 : ¬ 9223372036854775807 < p1.size + l.length := by omega
  have s2 : ¬ 9223372036854775807 < p1.size + l.length + p2.size := by omega
  clear hs hR hl z1 z2
  go_enter Try.func28, Try.ntmps28
  go_wp2_with (first | (go_at_call 39; refine (AC.out _).mono ?_; rintro e w' ⟨rfl, rfl⟩) | (go_at_call 11; refine (EC.out _).mono ?_; rintro e w' ⟨rfl, hf⟩))
  go_quiet (fail)
  go_wp2
  go_ret2
  exact ⟨rfl, (((Fr.refl _ _).alloc _).trans hf).drewN nq⟩

/-! ### Rename -/
/-- A block of names with another number. -/
def renB (b : ByteArray) (k tn : Nat) : ByteArray := b.extract 0 (2 * k) ++ ⟨(fixB tn 2).toArray⟩ ++ b.extract (2 * k + 2) b.size
set_option maxRecDepth 100000 in
set_option maxHeartbeats 3200000 in
theorem rename_ask (w : World) (b : ByteArray) (k tn : Int) (hs : b.size ≤ maxLen) (h : askE b k 64 ≠ 0) :
    Calls Try.prog 23 #[.string b, .int .i64 k, .int .i64 tn] w fun e w' => e = .returned (.tuple #[.string ⟨#[]⟩, .int .i64 (askE b k 64)]) ∧ Fr w w' (fun _ => False) := by
  have AC := hid (fun w => asked_calls w b k 64 hs)
  have hb : (askE b k 64 != 0) = true := bne_iff_ne.2 h
  generalize askE b k 64 = E at *
  clear h hs
  go_enter Try.func23, Try.ntmps23
  go_wp2_with (go_at_call 38; refine (AC.out _).mono ?_; rintro e w' ⟨rfl, rfl⟩)
  go_ret2
  exact ⟨rfl, Fr.refl _ _⟩
set_option maxRecDepth 100000 in
set_option maxHeartbeats 3200000 in
theorem rename_arg (w : World) (b : ByteArray) (k tn : Int) (hs : b.size ≤ maxLen) (h : askE b k 64 = 0) (ht : ¬ Bk tn) :
    Calls Try.prog 23 #[.string b, .int .i64 k, .int .i64 tn] w fun e w' => e = .returned (.tuple #[.string ⟨#[]⟩, .int .i64 1]) ∧ Fr w w' (fun _ => False) := by
  have AC := hid (fun w => asked_calls w b k 64 hs)
  rw [h] at AC
  have BC := hid (fun w => block_no w tn ht)
  clear h hs ht
  go_enter Try.func23, Try.ntmps23
  go_wp2_with (first | (go_at_call 38; refine (AC.out _).mono ?_; rintro e w' ⟨rfl, rfl⟩) | (go_at_call 37; refine (BC.out _).mono ?_; rintro e w' ⟨rfl, rfl⟩))
  go_ret2
  exact ⟨rfl, Fr.refl _ _⟩
set_option maxRecDepth 100000 in
set_option maxHeartbeats 3200000 in
theorem refRename_ask (w : World) (b : ByteArray) (k tn : Int) (hs : b.size ≤ maxLen) (h : askE b k 64 ≠ 0) :
    Calls Try.prog 24 #[.string b, .int .i64 k, .int .i64 tn] w fun e w' => e = .returned (.tuple #[.string ⟨#[]⟩, .int .i64 (askE b k 64)]) ∧ Fr w w' (fun _ => False) := by
  have AC := hid (fun w => refAsked_calls w b k 64 hs)
  have hb : (askE b k 64 != 0) = true := bne_iff_ne.2 h
  generalize askE b k 64 = E at *
  clear h hs
  go_enter Try.func24, Try.ntmps24
  go_wp2_with (go_at_call 39; refine (AC.out _).mono ?_; rintro e w' ⟨rfl, rfl⟩)
  go_ret2
  exact ⟨rfl, Fr.refl _ _⟩
set_option maxRecDepth 100000 in
set_option maxHeartbeats 3200000 in
theorem refRename_arg (w : World) (b : ByteArray) (k tn : Int) (hs : b.size ≤ maxLen) (h : askE b k 64 = 0) (ht : ¬ Bk tn) :
    Calls Try.prog 24 #[.string b, .int .i64 k, .int .i64 tn] w fun e w' => e = .returned (.tuple #[.string ⟨#[]⟩, .int .i64 1]) ∧ Fr w w' (fun _ => False) := by
  have AC := hid (fun w => refAsked_calls w b k 64 hs)
  rw [h] at AC
  have ht2 : tn < 0 ∨ (0 ≤ tn ∧ 1024 ≤ tn) := by unfold Bk at ht; omega
  clear h hs ht
  rcases ht2 with ht | ⟨ht, ht3⟩
  · go_enter Try.func24, Try.ntmps24
    go_wp2_with (go_at_call 39; refine (AC.out _).mono ?_; rintro e w' ⟨rfl, rfl⟩)
    go_ret2
    exact ⟨rfl, Fr.refl _ _⟩
  · have hd : decide (1024 ≤ tn) = true := decide_eq_true ht3
    go_enter Try.func24, Try.ntmps24
    go_wp2_with (go_at_call 39; refine (AC.out _).mono ?_; rintro e w' ⟨rfl, rfl⟩)
    go_ret2
    exact ⟨rfl, Fr.refl _ _⟩
end Go.Proofs.Ytmbfcnacoijmaaa.Cw
