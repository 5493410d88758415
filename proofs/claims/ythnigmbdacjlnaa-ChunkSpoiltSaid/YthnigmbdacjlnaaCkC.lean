/- Chunks: which are right. Own work. -/
import Derived.Test.YthnigmbdacjlnaaCkB
import Derived.Deep.QuietTactic
import Derived.BigQuiet
namespace Go.Proofs.Ythnigmbdacjlnaa.Cw
open Go.RowKit
set_option linter.unusedVariables false
set_option linter.unusedSimpArgs false

/-- A chunk. -/
structure Ck where
  d : Int
  t : Int
  n : Int
  s : ByteArray
  c : Int
def Ck.V (x : Ck) : Value := .agg #[.int .i64 x.d, .int .i64 x.t, .int .i64 x.n, .string x.s, .int .i64 x.c]
def Ck.cells (x : Ck) : List Value := [.int .i64 x.d, .int .i64 x.t, .int .i64 x.n, .string x.s, .int .i64 x.c]
/-- How many blocks a chunk has. -/
def mn (t n : Int) : Int := if t < 1 ∨ 1024 < t ∨ n < 0 ∨ t ≤ 8 * n then 0 else if t - 8 * n < 8 then t - 8 * n else 8
/-- Is a chunk right? -/
def ckB (x : Ck) : Bool := decide (0 < mn x.t x.n ∧ (x.s.size : Int) = mn x.t x.n * 128 ∧ x.c = (crc x.s.data.toList : Int))

theorem many_calls (w : World) (t : Int) (h0 : 0 ≤ t) (h1 : t ≤ 1099511627776) :
    Calls Try.prog 25 #[.int .i64 t] w fun e w' => e = .returned (.int .i64 ((t + 7) / 8)) ∧ w' = w := by
  go_enter Try.func25, Try.ntmps25
  go_wp2
  go_ret
  exact ⟨by first | rfl | (apply ret_int; omega), rfl⟩

theorem refMany_a (w : World) (t n : Int) (h : t < 1) :
    Calls Try.prog 27 #[.int .i64 t, .int .i64 n] w fun e w' => e = .returned (.int .i64 0) ∧ w' = w := by
  have d1 : decide (t < 1) = true := decide_eq_true (by omega)
  go_enter Try.func27, Try.ntmps27
  go_wp2_with fail
  go_ret
  exact ⟨rfl, rfl⟩
theorem refMany_b (w : World) (t n : Int) (h1 : ¬ t < 1) (h : 1024 < t) :
    Calls Try.prog 27 #[.int .i64 t, .int .i64 n] w fun e w' => e = .returned (.int .i64 0) ∧ w' = w := by
  have d1 : decide (t < 1) = false := decide_eq_false (by omega)
  have d2 : decide ((1024 : Int) < t) = true := decide_eq_true (by omega)
  go_enter Try.func27, Try.ntmps27
  go_wp2_with fail
  go_ret
  exact ⟨rfl, rfl⟩
theorem refMany_c (w : World) (t n : Int) (h1 : ¬ t < 1) (h2 : ¬ 1024 < t) (h : n < 0) :
    Calls Try.prog 27 #[.int .i64 t, .int .i64 n] w fun e w' => e = .returned (.int .i64 0) ∧ w' = w := by
  have d1 : decide (t < 1) = false := decide_eq_false (by omega)
  have d2 : decide ((1024 : Int) < t) = false := decide_eq_false (by omega)
  have d3 : decide (n < 0) = true := decide_eq_true (by omega)
  go_enter Try.func27, Try.ntmps27
  go_wp2_with fail
  go_ret
  exact ⟨rfl, rfl⟩
theorem refMany_d (w : World) (t n : Int) (h1 : ¬ t < 1) (h2 : ¬ 1024 < t) (h3 : ¬ n < 0) (h : 1024 ≤ n) :
    Calls Try.prog 27 #[.int .i64 t, .int .i64 n] w fun e w' => e = .returned (.int .i64 0) ∧ w' = w := by
  have d1 : decide (t < 1) = false := decide_eq_false (by omega)
  have d2 : decide ((1024 : Int) < t) = false := decide_eq_false (by omega)
  have d3 : decide (n < 0) = false := decide_eq_false (by omega)
  have d4 : decide ((1024 : Int) ≤ n) = true := decide_eq_true (by omega)
  go_enter Try.func27, Try.ntmps27
  go_wp2_with fail
  go_ret
  exact ⟨rfl, rfl⟩
set_option maxHeartbeats 1600000 in
theorem refMany_e (w : World) (t n : Nat) (h1 : 1 ≤ t) (h2 : t ≤ 1024) (h : n < 1024) :
    Calls Try.prog 27 #[.int .i64 t, .int .i64 n] w fun e w' => e = .returned (.int .i64 (mn t n)) ∧ w' = w := by
  have HM : Hid (mn t n = ((min 8 (t - 8 * n) : Nat) : Int)) := hid (by
    unfold mn
    split
    · omega
    · split <;> omega)
  generalize mn t n = M at *
  have d1 : decide ((t : Int) < 1) = false := decide_eq_false (by omega)
  have d2 : decide ((1024 : Int) < t) = false := decide_eq_false (by omega)
  have d3 : decide ((n : Int) < 0) = false := decide_eq_false (by omega)
  have d4 : decide ((1024 : Int) ≤ n) = false := decide_eq_false (by omega)
  go_enter Try.func27, Try.ntmps27
  go_wp2_with fail
  go_loop [5, 6] (fun c k => ∃ j : Nat, j ≤ 8 ∧ (j = 0 ∨ n * 8 + j ≤ t) ∧ c = .int .i64 j ∧ k = .int .i64 ((n : Int) * 8 + j)) (fun c _ => 8 - (intOf c).toNat)
  case atStart => exact ⟨0, by omega, .inl rfl, rfl, by simp⟩
  case round =>
    obtain ⟨j, hj, hjt, rfl, rfl⟩ := hrel
    by_cases e1 : j < 8
    · by_cases e2 : n * 8 + j < t
      · have d5 : decide ((n : Int) * 8 + j < (n : Int) * 8 + 8) = true := decide_eq_true (by omega)
        have d6 : decide ((n : Int) * 8 + j < (t : Int)) = true := decide_eq_true (by omega)
        clear hjt
        go_wp2_with fail
        go_round
        case rel => exact ⟨j + 1, by omega, .inr (by omega), by go_num, by rw [show ((j + 1 : Nat) : Int) = (j : Int) + 1 by omega, ← Int.add_assoc]⟩
        case measure => simp [intOf]; omega
      · have d5 : decide ((n : Int) * 8 + j < (n : Int) * 8 + 8) = true := decide_eq_true (by omega)
        have d6 : decide ((n : Int) * 8 + j < (t : Int)) = false := decide_eq_false (by omega)
        have HJ := hid hjt
        clear hjt
        go_wp2_with fail
        go_ret
        exact ⟨by rw [HM.out]; apply ret_int; have := HJ.out; omega, rfl⟩
    · have d5 : decide ((n : Int) * 8 + j < (n : Int) * 8 + 8) = false := decide_eq_false (by omega)
      have HJ := hid hjt
      clear hjt
      go_wp2_with fail
      go_ret
      exact ⟨by rw [HM.out]; apply ret_int; have := HJ.out; omega, rfl⟩
theorem refMany_calls (w : World) (t n : Int) :
    Calls Try.prog 27 #[.int .i64 t, .int .i64 n] w fun e w' => e = .returned (.int .i64 (mn t n)) ∧ w' = w := by
  have hz : t < 1 ∨ 1024 < t ∨ n < 0 ∨ 1024 ≤ n → mn t n = 0 := fun h => by
    unfold mn
    rw [if_pos (by omega)]
  by_cases h1 : t < 1
  · rw [hz (.inl h1)]; exact refMany_a w t n h1
  · by_cases h2 : 1024 < t
    · rw [hz (.inr (.inl h2))]; exact refMany_b w t n h1 h2
    · by_cases h3 : n < 0
      · rw [hz (.inr (.inr (.inl h3)))]; exact refMany_c w t n h1 h2 h3
      · by_cases h4 : 1024 ≤ n
        · rw [hz (.inr (.inr (.inr h4)))]; exact refMany_d w t n h1 h2 h3 h4
        · obtain ⟨t', rfl⟩ : ∃ t' : Nat, t = t' := ⟨t.toNat, by omega⟩
          obtain ⟨n', rfl⟩ : ∃ n' : Nat, n = n' := ⟨n.toNat, by omega⟩
          exact refMany_e w t' n' (by omega) (by omega) (by omega)

set_option maxRecDepth 100000 in
set_option maxHeartbeats 1600000 in
theorem check_a (w : World) (d t n c : Int) (s : ByteArray) (h : t < 1) :
    Calls Try.prog 11 #[.agg #[.int .i64 d, .int .i64 t, .int .i64 n, .string s, .int .i64 c]] w fun e w' => e = .returned (.int .i64 4) ∧ Fr w w' (fun _ => False) := by
  have d1 : decide (t < 1) = true := decide_eq_true (by omega)
  go_enter Try.func11, Try.ntmps11
  go_wp2_with fail
  go_quiet (first | (go_at_call 25; exact Calls.quiet_of_same (many_calls _ _ (by omega) (by omega))))
  go_wp2_with fail
  go_ret
  exact ⟨rfl, ((Fr.refl w _).alloc _).drewN _⟩
set_option maxRecDepth 100000 in
set_option maxHeartbeats 1600000 in
theorem check_b (w : World) (d t n c : Int) (s : ByteArray) (h1 : ¬ t < 1) (h : 1024 < t) :
    Calls Try.prog 11 #[.agg #[.int .i64 d, .int .i64 t, .int .i64 n, .string s, .int .i64 c]] w fun e w' => e = .returned (.int .i64 4) ∧ Fr w w' (fun _ => False) := by
  have d1 : decide (t < 1) = false := decide_eq_false (by omega)
  have d2 : decide ((1024 : Int) < t) = true := decide_eq_true (by omega)
  go_enter Try.func11, Try.ntmps11
  go_wp2_with fail
  go_quiet (first | (go_at_call 25; exact Calls.quiet_of_same (many_calls _ _ (by omega) (by omega))))
  go_wp2_with fail
  go_ret
  exact ⟨rfl, ((Fr.refl w _).alloc _).drewN _⟩
set_option maxRecDepth 100000 in
set_option maxHeartbeats 1600000 in
theorem check_c (w : World) (d t n c : Int) (s : ByteArray) (h1 : ¬ t < 1) (h2 : ¬ 1024 < t) (h : n < 0) :
    Calls Try.prog 11 #[.agg #[.int .i64 d, .int .i64 t, .int .i64 n, .string s, .int .i64 c]] w fun e w' => e = .returned (.int .i64 4) ∧ Fr w w' (fun _ => False) := by
  have d1 : decide (t < 1) = false := decide_eq_false (by omega)
  have d2 : decide ((1024 : Int) < t) = false := decide_eq_false (by omega)
  have d3 : decide (n < 0) = true := decide_eq_true (by omega)
  go_enter Try.func11, Try.ntmps11
  go_wp2_with fail
  go_quiet (first | (go_at_call 25; exact Calls.quiet_of_same (many_calls _ _ (by omega) (by omega))))
  go_wp2_with fail
  go_ret
  exact ⟨rfl, ((Fr.refl w _).alloc _).drewN _⟩
set_option maxRecDepth 100000 in
set_option maxHeartbeats 1600000 in
theorem check_d (w : World) (d t n c : Int) (s : ByteArray) (h1 : ¬ t < 1) (h2 : ¬ 1024 < t) (h3 : ¬ n < 0) (h : t ≤ 8 * n) :
    Calls Try.prog 11 #[.agg #[.int .i64 d, .int .i64 t, .int .i64 n, .string s, .int .i64 c]] w fun e w' => e = .returned (.int .i64 4) ∧ Fr w w' (fun _ => False) := by
  have d1 : decide (t < 1) = false := decide_eq_false (by omega)
  have d2 : decide ((1024 : Int) < t) = false := decide_eq_false (by omega)
  have d3 : decide (n < 0) = false := decide_eq_false (by omega)
  have d4 : decide ((t + 7) / 8 ≤ n) = true := decide_eq_true (by omega)
  go_enter Try.func11, Try.ntmps11
  go_wp2_with fail
  go_quiet (first | (go_at_call 25; exact Calls.quiet_of_same (many_calls _ _ (by omega) (by omega))))
  go_wp2_with fail
  go_ret
  exact ⟨rfl, ((Fr.refl w _).alloc _).drewN _⟩
set_option maxRecDepth 100000 in
set_option maxHeartbeats 1600000 in
theorem check_f1 (w : World) (d t n c : Int) (s : ByteArray) (h1 : ¬ t < 1) (h2 : ¬ 1024 < t) (h3 : ¬ n < 0) (h4 : ¬ t ≤ 8 * n) (h5 : t - 8 * n < 8) (h : ¬ (s.size : Int) = (t - n * 8) * 128) :
    Calls Try.prog 11 #[.agg #[.int .i64 d, .int .i64 t, .int .i64 n, .string s, .int .i64 c]] w fun e w' => e = .returned (.int .i64 4) ∧ Fr w w' (fun _ => False) := by
  have d1 : decide (t < 1) = false := decide_eq_false (by omega)
  have d2 : decide ((1024 : Int) < t) = false := decide_eq_false (by omega)
  have d3 : decide (n < 0) = false := decide_eq_false (by omega)
  have d4 : decide ((t + 7) / 8 ≤ n) = false := decide_eq_false (by omega)
  have hm : t - n * 8 < 8 := by omega
  have hm2 : 0 < t - n * 8 := by omega
  have e1 : ((s.size : Int) != (t - n * 8) * 128) = true := bne_iff_ne.2 h
  have e2 : ((s.size : Int) == (t - n * 8) * 128) = false := beq_eq_false_iff_ne.2 h
  have HSZ : Hid True := hid True.intro
  go_enter Try.func11, Try.ntmps11
  go_wp2_with fail
  go_quiet (first | (go_at_call 25; exact Calls.quiet_of_same (many_calls _ _ (by omega) (by omega))))
  have hx : ((w.alloc (.cells #[.int .i64 d, .int .i64 t, .int .i64 n, .string s, .int .i64 c] 24)).drewN nq).heap[w.heap.size]? = some (.cells #[.int .i64 d, .int .i64 t, .int .i64 n, .string s, .int .i64 c] 24) := alloc_new w _
  have x1 := cell_blk hx 1
  have x2 := cell_blk hx 2
  have x3 := cell_blk hx 3
  have x4 := cell_blk hx 4
  simp only [List.getElem?_toArray, List.getElem?_cons_zero, List.getElem?_cons_succ] at x1 x2 x3 x4
  have HF := hid (((Fr.refl w (fun _ => False)).alloc (.cells #[.int .i64 d, .int .i64 t, .int .i64 n, .string s, .int .i64 c] 24)).drewN nq)
  clear hx
  generalize (w.alloc (.cells #[.int .i64 d, .int .i64 t, .int .i64 n, .string s, .int .i64 c] 24)).drewN nq = w2 at *
  generalize w.heap.size = B at *
  go_wp2_with fail
  go_quiet (fail)
  go_wp2_with fail
  go_ret
  exact ⟨rfl, HF.out.drewN _⟩
set_option maxRecDepth 100000 in
set_option maxHeartbeats 1600000 in
theorem check_f2 (w : World) (d t n c : Int) (s : ByteArray) (h1 : ¬ t < 1) (h2 : ¬ 1024 < t) (h3 : ¬ n < 0) (h4 : ¬ t ≤ 8 * n) (h5 : t - 8 * n < 8) (h : (s.size : Int) = (t - n * 8) * 128) (hc : ¬ c = (crc s.data.toList : Int)) :
    Calls Try.prog 11 #[.agg #[.int .i64 d, .int .i64 t, .int .i64 n, .string s, .int .i64 c]] w fun e w' => e = .returned (.int .i64 4) ∧ Fr w w' (fun _ => False) := by
  have d1 : decide (t < 1) = false := decide_eq_false (by omega)
  have d2 : decide ((1024 : Int) < t) = false := decide_eq_false (by omega)
  have d3 : decide (n < 0) = false := decide_eq_false (by omega)
  have d4 : decide ((t + 7) / 8 ≤ n) = false := decide_eq_false (by omega)
  have hm : t - n * 8 < 8 := by omega
  have hm2 : 0 < t - n * 8 := by omega
  have e1 : ((s.size : Int) != (t - n * 8) * 128) = false := by rw [h]; simp
  have e2 : ((s.size : Int) == (t - n * 8) * 128) = true := beq_iff_eq.2 h
  have HSZ : Hid (s.size ≤ maxLen) := hid (by unfold maxLen; omega)
  have HSE := hid h
  clear h
  have e3 : (c != (crc s.data.toList : Int)) = true := bne_iff_ne.2 hc
  have e4 : (c == (crc s.data.toList : Int)) = false := beq_eq_false_iff_ne.2 hc
  clear hc
  go_enter Try.func11, Try.ntmps11
  go_wp2_with fail
  go_quiet (first | (go_at_call 25; exact Calls.quiet_of_same (many_calls _ _ (by omega) (by omega))))
  have hx : ((w.alloc (.cells #[.int .i64 d, .int .i64 t, .int .i64 n, .string s, .int .i64 c] 24)).drewN nq).heap[w.heap.size]? = some (.cells #[.int .i64 d, .int .i64 t, .int .i64 n, .string s, .int .i64 c] 24) := alloc_new w _
  have x1 := cell_blk hx 1
  have x2 := cell_blk hx 2
  have x3 := cell_blk hx 3
  have x4 := cell_blk hx 4
  simp only [List.getElem?_toArray, List.getElem?_cons_zero, List.getElem?_cons_succ] at x1 x2 x3 x4
  have HF := hid (((Fr.refl w (fun _ => False)).alloc (.cells #[.int .i64 d, .int .i64 t, .int .i64 n, .string s, .int .i64 c] 24)).drewN nq)
  clear hx
  generalize (w.alloc (.cells #[.int .i64 d, .int .i64 t, .int .i64 n, .string s, .int .i64 c] 24)).drewN nq = w2 at *
  generalize w.heap.size = B at *
  go_wp2_with fail
  go_quiet (first | (go_at_call 23; exact Calls.quiet_of_same (sumOf_calls _ _ HSZ.out)))
  go_wp2_with fail
  go_ret
  exact ⟨rfl, HF.out.drewN _⟩
set_option maxRecDepth 100000 in
set_option maxHeartbeats 1600000 in
theorem check_f3 (w : World) (d t n c : Int) (s : ByteArray) (h1 : ¬ t < 1) (h2 : ¬ 1024 < t) (h3 : ¬ n < 0) (h4 : ¬ t ≤ 8 * n) (h5 : t - 8 * n < 8) (h : (s.size : Int) = (t - n * 8) * 128) (hc : c = (crc s.data.toList : Int)) :
    Calls Try.prog 11 #[.agg #[.int .i64 d, .int .i64 t, .int .i64 n, .string s, .int .i64 c]] w fun e w' => e = .returned (.int .i64 0) ∧ Fr w w' (fun _ => False) := by
  have d1 : decide (t < 1) = false := decide_eq_false (by omega)
  have d2 : decide ((1024 : Int) < t) = false := decide_eq_false (by omega)
  have d3 : decide (n < 0) = false := decide_eq_false (by omega)
  have d4 : decide ((t + 7) / 8 ≤ n) = false := decide_eq_false (by omega)
  have hm : t - n * 8 < 8 := by omega
  have hm2 : 0 < t - n * 8 := by omega
  have e1 : ((s.size : Int) != (t - n * 8) * 128) = false := by rw [h]; simp
  have e2 : ((s.size : Int) == (t - n * 8) * 128) = true := beq_iff_eq.2 h
  have HSZ : Hid (s.size ≤ maxLen) := hid (by unfold maxLen; omega)
  have HSE := hid h
  clear h
  subst hc
  go_enter Try.func11, Try.ntmps11
  go_wp2_with fail
  go_quiet (first | (go_at_call 25; exact Calls.quiet_of_same (many_calls _ _ (by omega) (by omega))))
  have hx : ((w.alloc (.cells #[.int .i64 d, .int .i64 t, .int .i64 n, .string s, .int .i64 (crc s.data.toList)] 24)).drewN nq).heap[w.heap.size]? = some (.cells #[.int .i64 d, .int .i64 t, .int .i64 n, .string s, .int .i64 (crc s.data.toList)] 24) := alloc_new w _
  have x1 := cell_blk hx 1
  have x2 := cell_blk hx 2
  have x3 := cell_blk hx 3
  have x4 := cell_blk hx 4
  simp only [List.getElem?_toArray, List.getElem?_cons_zero, List.getElem?_cons_succ] at x1 x2 x3 x4
  have HF := hid (((Fr.refl w (fun _ => False)).alloc (.cells #[.int .i64 d, .int .i64 t, .int .i64 n, .string s, .int .i64 (crc s.data.toList)] 24)).drewN nq)
  clear hx
  generalize (w.alloc (.cells #[.int .i64 d, .int .i64 t, .int .i64 n, .string s, .int .i64 (crc s.data.toList)] 24)).drewN nq = w2 at *
  generalize w.heap.size = B at *
  go_wp2_with fail
  go_quiet (first | (go_at_call 23; exact Calls.quiet_of_same (sumOf_calls _ _ HSZ.out)))
  go_wp2_with fail
  go_ret
  exact ⟨rfl, HF.out.drewN _⟩
set_option maxRecDepth 100000 in
set_option maxHeartbeats 1600000 in
theorem check_g1 (w : World) (d t n c : Int) (s : ByteArray) (h1 : ¬ t < 1) (h2 : ¬ 1024 < t) (h3 : ¬ n < 0) (h4 : ¬ t ≤ 8 * n) (h5 : ¬ t - 8 * n < 8) (h : ¬ (s.size : Int) = 1024) :
    Calls Try.prog 11 #[.agg #[.int .i64 d, .int .i64 t, .int .i64 n, .string s, .int .i64 c]] w fun e w' => e = .returned (.int .i64 4) ∧ Fr w w' (fun _ => False) := by
  have d1 : decide (t < 1) = false := decide_eq_false (by omega)
  have d2 : decide ((1024 : Int) < t) = false := decide_eq_false (by omega)
  have d3 : decide (n < 0) = false := decide_eq_false (by omega)
  have d4 : decide ((t + 7) / 8 ≤ n) = false := decide_eq_false (by omega)
  have hm : ¬ (t - n * 8 < 8) := by omega
  have e1 : ((s.size : Int) != 1024) = true := bne_iff_ne.2 h
  have e2 : ((s.size : Int) == 1024) = false := beq_eq_false_iff_ne.2 h
  have HSZ : Hid True := hid True.intro
  go_enter Try.func11, Try.ntmps11
  go_wp2_with fail
  go_quiet (first | (go_at_call 25; exact Calls.quiet_of_same (many_calls _ _ (by omega) (by omega))))
  have hx : ((w.alloc (.cells #[.int .i64 d, .int .i64 t, .int .i64 n, .string s, .int .i64 c] 24)).drewN nq).heap[w.heap.size]? = some (.cells #[.int .i64 d, .int .i64 t, .int .i64 n, .string s, .int .i64 c] 24) := alloc_new w _
  have x1 := cell_blk hx 1
  have x2 := cell_blk hx 2
  have x3 := cell_blk hx 3
  have x4 := cell_blk hx 4
  simp only [List.getElem?_toArray, List.getElem?_cons_zero, List.getElem?_cons_succ] at x1 x2 x3 x4
  have HF := hid (((Fr.refl w (fun _ => False)).alloc (.cells #[.int .i64 d, .int .i64 t, .int .i64 n, .string s, .int .i64 c] 24)).drewN nq)
  clear hx
  generalize (w.alloc (.cells #[.int .i64 d, .int .i64 t, .int .i64 n, .string s, .int .i64 c] 24)).drewN nq = w2 at *
  generalize w.heap.size = B at *
  go_wp2_with fail
  go_quiet (fail)
  go_wp2_with fail
  go_ret
  exact ⟨rfl, HF.out.drewN _⟩
set_option maxRecDepth 100000 in
set_option maxHeartbeats 1600000 in
theorem check_g2 (w : World) (d t n c : Int) (s : ByteArray) (h1 : ¬ t < 1) (h2 : ¬ 1024 < t) (h3 : ¬ n < 0) (h4 : ¬ t ≤ 8 * n) (h5 : ¬ t - 8 * n < 8) (h : (s.size : Int) = 1024) (hc : ¬ c = (crc s.data.toList : Int)) :
    Calls Try.prog 11 #[.agg #[.int .i64 d, .int .i64 t, .int .i64 n, .string s, .int .i64 c]] w fun e w' => e = .returned (.int .i64 4) ∧ Fr w w' (fun _ => False) := by
  have d1 : decide (t < 1) = false := decide_eq_false (by omega)
  have d2 : decide ((1024 : Int) < t) = false := decide_eq_false (by omega)
  have d3 : decide (n < 0) = false := decide_eq_false (by omega)
  have d4 : decide ((t + 7) / 8 ≤ n) = false := decide_eq_false (by omega)
  have hm : ¬ (t - n * 8 < 8) := by omega
  have e1 : ((s.size : Int) != 1024) = false := by rw [h]; simp
  have e2 : ((s.size : Int) == 1024) = true := beq_iff_eq.2 h
  have HSZ : Hid (s.size ≤ maxLen) := hid (by unfold maxLen; omega)
  have HSE := hid h
  clear h
  have e3 : (c != (crc s.data.toList : Int)) = true := bne_iff_ne.2 hc
  have e4 : (c == (crc s.data.toList : Int)) = false := beq_eq_false_iff_ne.2 hc
  clear hc
  go_enter Try.func11, Try.ntmps11
  go_wp2_with fail
  go_quiet (first | (go_at_call 25; exact Calls.quiet_of_same (many_calls _ _ (by omega) (by omega))))
  have hx : ((w.alloc (.cells #[.int .i64 d, .int .i64 t, .int .i64 n, .string s, .int .i64 c] 24)).drewN nq).heap[w.heap.size]? = some (.cells #[.int .i64 d, .int .i64 t, .int .i64 n, .string s, .int .i64 c] 24) := alloc_new w _
  have x1 := cell_blk hx 1
  have x2 := cell_blk hx 2
  have x3 := cell_blk hx 3
  have x4 := cell_blk hx 4
  simp only [List.getElem?_toArray, List.getElem?_cons_zero, List.getElem?_cons_succ] at x1 x2 x3 x4
  have HF := hid (((Fr.refl w (fun _ => False)).alloc (.cells #[.int .i64 d, .int .i64 t, .int .i64 n, .string s, .int .i64 c] 24)).drewN nq)
  clear hx
  generalize (w.alloc (.cells #[.int .i64 d, .int .i64 t, .int .i64 n, .string s, .int .i64 c] 24)).drewN nq = w2 at *
  generalize w.heap.size = B at *
  go_wp2_with fail
  go_quiet (first | (go_at_call 23; exact Calls.quiet_of_same (sumOf_calls _ _ HSZ.out)))
  go_wp2_with fail
  go_ret
  exact ⟨rfl, HF.out.drewN _⟩
set_option maxRecDepth 100000 in
set_option maxHeartbeats 1600000 in
theorem check_g3 (w : World) (d t n c : Int) (s : ByteArray) (h1 : ¬ t < 1) (h2 : ¬ 1024 < t) (h3 : ¬ n < 0) (h4 : ¬ t ≤ 8 * n) (h5 : ¬ t - 8 * n < 8) (h : (s.size : Int) = 1024) (hc : c = (crc s.data.toList : Int)) :
    Calls Try.prog 11 #[.agg #[.int .i64 d, .int .i64 t, .int .i64 n, .string s, .int .i64 c]] w fun e w' => e = .returned (.int .i64 0) ∧ Fr w w' (fun _ => False) := by
  have d1 : decide (t < 1) = false := decide_eq_false (by omega)
  have d2 : decide ((1024 : Int) < t) = false := decide_eq_false (by omega)
  have d3 : decide (n < 0) = false := decide_eq_false (by omega)
  have d4 : decide ((t + 7) / 8 ≤ n) = false := decide_eq_false (by omega)
  have hm : ¬ (t - n * 8 < 8) := by omega
  have e1 : ((s.size : Int) != 1024) = false := by rw [h]; simp
  have e2 : ((s.size : Int) == 1024) = true := beq_iff_eq.2 h
  have HSZ : Hid (s.size ≤ maxLen) := hid (by unfold maxLen; omega)
  have HSE := hid h
  clear h
  subst hc
  go_enter Try.func11, Try.ntmps11
  go_wp2_with fail
  go_quiet (first | (go_at_call 25; exact Calls.quiet_of_same (many_calls _ _ (by omega) (by omega))))
  have hx : ((w.alloc (.cells #[.int .i64 d, .int .i64 t, .int .i64 n, .string s, .int .i64 (crc s.data.toList)] 24)).drewN nq).heap[w.heap.size]? = some (.cells #[.int .i64 d, .int .i64 t, .int .i64 n, .string s, .int .i64 (crc s.data.toList)] 24) := alloc_new w _
  have x1 := cell_blk hx 1
  have x2 := cell_blk hx 2
  have x3 := cell_blk hx 3
  have x4 := cell_blk hx 4
  simp only [List.getElem?_toArray, List.getElem?_cons_zero, List.getElem?_cons_succ] at x1 x2 x3 x4
  have HF := hid (((Fr.refl w (fun _ => False)).alloc (.cells #[.int .i64 d, .int .i64 t, .int .i64 n, .string s, .int .i64 (crc s.data.toList)] 24)).drewN nq)
  clear hx
  generalize (w.alloc (.cells #[.int .i64 d, .int .i64 t, .int .i64 n, .string s, .int .i64 (crc s.data.toList)] 24)).drewN nq = w2 at *
  generalize w.heap.size = B at *
  go_wp2_with fail
  go_quiet (first | (go_at_call 23; exact Calls.quiet_of_same (sumOf_calls _ _ HSZ.out)))
  go_wp2_with fail
  go_ret
  exact ⟨rfl, HF.out.drewN _⟩

theorem mn_zero {t n : Int} (h : t < 1 ∨ 1024 < t ∨ n < 0 ∨ t ≤ 8 * n) : mn t n = 0 := if_pos h
theorem ckB_zero {x : Ck} (h : mn x.t x.n = 0) : ckB x = false := decide_eq_false (fun e => by rw [h] at e; omega)
/-- What Check answers. -/
def ckE (x : Ck) : Int := if ckB x then 0 else 4
theorem check_calls (w : World) (x : Ck) :
    Calls Try.prog 11 #[x.V] w fun e w' => e = .returned (.int .i64 (ckE x)) ∧ Fr w w' (fun _ => False) := by
  obtain ⟨d, t, n, s, c⟩ := x
  have no : ckB ⟨d, t, n, s, c⟩ = false → ckE ⟨d, t, n, s, c⟩ = 4 := fun h => by unfold ckE; rw [h]; rfl
  have nz : (t < 1 ∨ 1024 < t ∨ n < 0 ∨ t ≤ 8 * n) → ckE ⟨d, t, n, s, c⟩ = 4 := fun h => no (ckB_zero (mn_zero h))
  by_cases h1 : t < 1
  · rw [nz (.inl h1)]; exact check_a w d t n c s h1
  · by_cases h2 : 1024 < t
    · rw [nz (.inr (.inl h2))]; exact check_b w d t n c s h1 h2
    · by_cases h3 : n < 0
      · rw [nz (.inr (.inr (.inl h3)))]; exact check_c w d t n c s h1 h2 h3
      · by_cases h4 : t ≤ 8 * n
        · rw [nz (.inr (.inr (.inr h4)))]; exact check_d w d t n c s h1 h2 h3 h4
        · have hm : mn t n = if t - 8 * n < 8 then t - 8 * n else 8 := if_neg (by omega)
          have yes : (s.size : Int) = mn t n * 128 → c = (crc s.data.toList : Int) → ckE ⟨d, t, n, s, c⟩ = 0 := fun a b => by
            unfold ckE
            rw [show ckB ⟨d, t, n, s, c⟩ = true from decide_eq_true ⟨by show 0 < mn t n; rw [hm]; split <;> omega, a, b⟩]
            rfl
          by_cases h5 : t - 8 * n < 8
          · rw [if_pos h5] at hm
            by_cases h6 : (s.size : Int) = (t - n * 8) * 128
            · by_cases h7 : c = (crc s.data.toList : Int)
              · rw [yes (by rw [hm]; omega) h7]; exact check_f3 w d t n c s h1 h2 h3 h4 h5 h6 h7
              · rw [no (decide_eq_false (fun e => h7 e.2.2))]; exact check_f2 w d t n c s h1 h2 h3 h4 h5 h6 h7
            · rw [no (decide_eq_false (fun e => h6 (by have := e.2.1; simp only at this; rw [hm] at this; omega)))]; exact check_f1 w d t n c s h1 h2 h3 h4 h5 h6
          · rw [if_neg h5] at hm
            by_cases h6 : (s.size : Int) = 1024
            · by_cases h7 : c = (crc s.data.toList : Int)
              · rw [yes (by rw [hm]; omega) h7]; exact check_g3 w d t n c s h1 h2 h3 h4 h5 h6 h7
              · rw [no (decide_eq_false (fun e => h7 e.2.2))]; exact check_g2 w d t n c s h1 h2 h3 h4 h5 h6 h7
            · rw [no (decide_eq_false (fun e => h6 (by have := e.2.1; simp only at this; rw [hm] at this; omega)))]; exact check_g1 w d t n c s h1 h2 h3 h4 h5 h6

set_option maxRecDepth 100000 in
set_option maxHeartbeats 1600000 in
theorem right_a (w : World) (d t n c : Int) (s : ByteArray) (h : ¬ 0 < mn t n) :
    Calls Try.prog 12 #[.agg #[.int .i64 d, .int .i64 t, .int .i64 n, .string s, .int .i64 c]] w fun e w' => e = .returned (.bool false) ∧ Fr w w' (fun _ => False) := by
  have d1 : decide (0 < mn t n) = false := decide_eq_false h
  clear h
  have HSZ : Hid True := hid True.intro
  have MC := hid (fun (W : World) => refMany_calls W t n)
  generalize mn t n = m at *
  go_enter Try.func12, Try.ntmps12
  go_wp2_with fail
  refine (MC.out _).mono ?_
  rintro e w1 ⟨rfl, rfl⟩
  go_wp2_with fail
  go_quiet (first | (go_at_call 26; exact Calls.quiet_of_same (refOf_calls _ _ (by unfold maxLen; omega))))
  go_wp2_with fail
  go_ret
  exact ⟨rfl, ((Fr.refl w _).alloc _).drewN _⟩
set_option maxRecDepth 100000 in
set_option maxHeartbeats 1600000 in
theorem right_b (w : World) (d t n c : Int) (s : ByteArray) (h0 : 0 < mn t n) (h : ¬ (s.size : Int) = mn t n * 128) :
    Calls Try.prog 12 #[.agg #[.int .i64 d, .int .i64 t, .int .i64 n, .string s, .int .i64 c]] w fun e w' => e = .returned (.bool false) ∧ Fr w w' (fun _ => False) := by
  have hb : mn t n ≤ 8 := by unfold mn; split; omega; split <;> omega
  have d1 : decide (0 < mn t n) = true := decide_eq_true h0
  have d2 : ((s.size : Int) == mn t n * 128) = false := beq_eq_false_iff_ne.2 h
  clear h
  have HSZ : Hid True := hid True.intro
  have MC := hid (fun (W : World) => refMany_calls W t n)
  generalize mn t n = m at *
  go_enter Try.func12, Try.ntmps12
  go_wp2_with fail
  refine (MC.out _).mono ?_
  rintro e w1 ⟨rfl, rfl⟩
  go_wp2_with fail
  go_quiet (first | (go_at_call 26; exact Calls.quiet_of_same (refOf_calls _ _ (by unfold maxLen; omega))))
  go_wp2_with fail
  go_ret
  exact ⟨rfl, ((Fr.refl w _).alloc _).drewN _⟩
set_option maxRecDepth 100000 in
set_option maxHeartbeats 1600000 in
theorem right_c (w : World) (d t n c : Int) (s : ByteArray) (h0 : 0 < mn t n) (h : (s.size : Int) = mn t n * 128) (hc : ¬ c = (crc s.data.toList : Int)) :
    Calls Try.prog 12 #[.agg #[.int .i64 d, .int .i64 t, .int .i64 n, .string s, .int .i64 c]] w fun e w' => e = .returned (.bool false) ∧ Fr w w' (fun _ => False) := by
  have hb : mn t n ≤ 8 := by unfold mn; split; omega; split <;> omega
  have d1 : decide (0 < mn t n) = true := decide_eq_true h0
  have d2 : ((s.size : Int) == mn t n * 128) = true := beq_iff_eq.2 h
  have HSZ : Hid (s.size ≤ maxLen) := hid (by unfold maxLen; omega)
  have e4 : (c == (crc s.data.toList : Int)) = false := beq_eq_false_iff_ne.2 hc
  clear hc h
  have MC := hid (fun (W : World) => refMany_calls W t n)
  generalize mn t n = m at *
  go_enter Try.func12, Try.ntmps12
  go_wp2_with fail
  refine (MC.out _).mono ?_
  rintro e w1 ⟨rfl, rfl⟩
  go_wp2_with fail
  go_quiet (first | (go_at_call 26; exact Calls.quiet_of_same (refOf_calls _ _ HSZ.out)))
  go_wp2_with fail
  go_ret
  exact ⟨rfl, ((Fr.refl w _).alloc _).drewN _⟩
set_option maxRecDepth 100000 in
set_option maxHeartbeats 1600000 in
theorem right_d (w : World) (d t n c : Int) (s : ByteArray) (h0 : 0 < mn t n) (h : (s.size : Int) = mn t n * 128) (hc : c = (crc s.data.toList : Int)) :
    Calls Try.prog 12 #[.agg #[.int .i64 d, .int .i64 t, .int .i64 n, .string s, .int .i64 c]] w fun e w' => e = .returned (.bool true) ∧ Fr w w' (fun _ => False) := by
  have hb : mn t n ≤ 8 := by unfold mn; split; omega; split <;> omega
  have d1 : decide (0 < mn t n) = true := decide_eq_true h0
  have d2 : ((s.size : Int) == mn t n * 128) = true := beq_iff_eq.2 h
  have HSZ : Hid (s.size ≤ maxLen) := hid (by unfold maxLen; omega)
  subst hc
  clear h
  have MC := hid (fun (W : World) => refMany_calls W t n)
  generalize mn t n = m at *
  go_enter Try.func12, Try.ntmps12
  go_wp2_with fail
  refine (MC.out _).mono ?_
  rintro e w1 ⟨rfl, rfl⟩
  go_wp2_with fail
  go_quiet (first | (go_at_call 26; exact Calls.quiet_of_same (refOf_calls _ _ HSZ.out)))
  go_wp2_with fail
  go_ret
  exact ⟨rfl, ((Fr.refl w _).alloc _).drewN _⟩

theorem refRight25_calls (w : World) (x : Ck) :
    Calls Try.prog 12 #[x.V] w fun e w' => e = .returned (.bool (ckB x)) ∧ Fr w w' (fun _ => False) := by
  obtain ⟨d, t, n, s, c⟩ := x
  by_cases h0 : 0 < mn t n
  · by_cases h : (s.size : Int) = mn t n * 128
    · by_cases hc : c = (crc s.data.toList : Int)
      · rw [show ckB ⟨d, t, n, s, c⟩ = true from decide_eq_true ⟨h0, h, hc⟩]; exact right_d w d t n c s h0 h hc
      · rw [show ckB ⟨d, t, n, s, c⟩ = false from decide_eq_false (fun e => hc e.2.2)]; exact right_c w d t n c s h0 h hc
    · rw [show ckB ⟨d, t, n, s, c⟩ = false from decide_eq_false (fun e => h e.2.1)]; exact right_b w d t n c s h0 h
  · rw [show ckB ⟨d, t, n, s, c⟩ = false from decide_eq_false (fun e => h0 e.1)]; exact right_a w d t n c s h0
end Go.Proofs.Ythnigmbdacjlnaa.Cw
