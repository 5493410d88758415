/- Calls on a nil collector; a chunk turned to the reference's; are two of the reference's chunks the same. Own work. -/
import Derived.Test.YthnigmbdacjlnaaCkV
namespace Go.Proofs.Ythnigmbdacjlnaa.Cw
open Go.RowKit
set_option linter.unusedVariables false
set_option linter.unusedSimpArgs false

theorem ba_inj25 {p q : ByteArray} (h : p.toList = q.toList) : p = q := by
  rw [ByteArray.toList_eq, ByteArray.toList_eq] at h
  apply ByteArray.ext
  exact Array.toList_inj.1 h

theorem missing_nil (w : World) : Calls Try.prog 20 #[.pointer none] w fun e w' => e = .returned (.slice none 0 0) ∧ Fr w w' (fun _ => False) := by
  go_enter Try.func20, Try.ntmps20
  go_wp2_with fail
  go_ret
  exact ⟨rfl, Fr.refl w _⟩
theorem blocks_nil (w : World) : Calls Try.prog 17 #[.pointer none] w fun e w' => e = .returned (.tuple #[.slice none 0 0, .int .i64 7]) ∧ Fr w w' (fun _ => False) := by
  go_enter Try.func17, Try.ntmps17
  go_wp2_with fail
  go_ret2
  exact ⟨rfl, Fr.refl w _⟩
set_option maxRecDepth 100000 in
theorem add_nil25 (w : World) (c : Ck) :
    Calls Try.prog 15 #[.pointer none, c.V] w fun e w' => e = .returned (.tuple #[.bool false, .int .i64 (if ckB c = true then 7 else 4)]) ∧ Fr w w' (fun _ => False) := by
  have CC := hid (fun (W : World) => check_calls W c)
  by_cases hc : ckB c = true
  · have he : ckE c = 0 := by unfold ckE; rw [hc]; rfl
    rw [he] at CC
    rw [if_pos hc]
    obtain ⟨d, t, n, s, q⟩ := c
    unfold Ck.V at *
    simp only at CC ⊢
    clear hc he
    go_enter Try.func15, Try.ntmps15
    go_wp2_with fail
    refine (CC.out _).mono ?_
    rintro e w1 ⟨rfl, hf1⟩
    go_wp2_with fail
    go_ret2
    exact ⟨rfl, ((Fr.refl w _).alloc _).trans hf1⟩
  · have he : ckE c = 4 := by unfold ckE; rw [Bool.not_eq_true] at hc; rw [hc]; rfl
    rw [he] at CC
    rw [if_neg hc]
    obtain ⟨d, t, n, s, q⟩ := c
    unfold Ck.V at *
    simp only at CC ⊢
    clear hc he
    go_enter Try.func15, Try.ntmps15
    go_wp2_with fail
    refine (CC.out _).mono ?_
    rintro e w1 ⟨rfl, hf1⟩
    go_wp2_with fail
    go_ret2
    exact ⟨rfl, ((Fr.refl w _).alloc _).trans hf1⟩

set_option maxRecDepth 100000 in
theorem ref25_calls (w : World) (c : Ck) :
    Calls Try.prog 13 #[c.V] w fun e w' => e = .returned c.V ∧ Fr w w' (fun _ => False) := by
  obtain ⟨d, t, n, s, q⟩ := c
  unfold Ck.V
  go_enter Try.func13, Try.ntmps13
  go_wp2_with fail
  have hq := alloc_new (w.alloc (.cells #[.int .i64 d, .int .i64 t, .int .i64 n, .string s, .int .i64 q] 24)) (.cells #[.int .i64 d, .int .i64 t, .int .i64 n, .string s, .int .i64 q] 35)
  rw [show (w.alloc (.cells #[.int .i64 d, .int .i64 t, .int .i64 n, .string s, .int .i64 q] 24)).heap.size = w.heap.size + 1 by simp] at hq
  refine bodyPost_ret (results_ck1 rfl _ _ _ rfl (load5 hq)) rfl ?_
  exact ⟨rfl, ((Fr.refl w _).alloc _).alloc _⟩

def eqc5 (a0 a1 a2 : Int) (p : ByteArray) (a3 : Int) (b0 b1 b2 : Int) (q : ByteArray) (b3 : Int) : Bool := decide (a0 = b0 ∧ a1 = b1 ∧ a2 = b2 ∧ p = q ∧ a3 = b3)
set_option maxRecDepth 100000 in
set_option maxHeartbeats 1600000 in
theorem eqCk (a0 a1 a2 : Int) (p : ByteArray) (a3 : Int) (b0 b1 b2 : Int) (q : ByteArray) (b3 : Int) (w : World) : (Op.equalIn 10000 35 (.agg #[.int .i64 a0, .int .i64 a1, .int .i64 a2, .string p, .int .i64 a3]) (.agg #[.int .i64 b0, .int .i64 b1, .int .i64 b2, .string q, .int .i64 b3])).run Try.prog w = .ok (eqc5 a0 a1 a2 p a3 b0 b1 b2 q b3) w := by
  have u3 := Try.underlying3
  have z3 := Try.sizeOf3
  have a33 := Try.isAgg3
  have u9 := Try.underlying9
  have z9 := Try.sizeOf9
  have a99 := Try.isAgg9
  have hS : Try.prog.underlying 35 = some (.struct (Try.prog.fieldsOf 35)) := by kernel_rfl
  have hp : Try.prog.stoodInHeld 35 = false := by kernel_rfl
  rw [show (10000 : Nat) = 9999 + 1 from rfl, run_equalIn_agg w 9999 35 _ _ hS hp]
  simp only [Program.fieldsOf, Try.underlying35]
  go_simp
  by_cases h : a0 = b0 ∧ a1 = b1 ∧ a2 = b2 ∧ p = q ∧ a3 = b3
  · obtain ⟨rfl, rfl, rfl, rfl, rfl⟩ := h
    rw [show eqc5 a0 a1 a2 p a3 a0 a1 a2 p a3 = true from decide_eq_true ⟨rfl, rfl, rfl, rfl, rfl⟩]
    simp
  · rw [show eqc5 a0 a1 a2 p a3 b0 b1 b2 q b3 = false from decide_eq_false h]
    repeat' split
    all_goals first
      | rfl
      | (exfalso; apply h; refine ⟨?_, ?_, ?_, ?_, ?_⟩ <;> first | assumption | (apply ba_inj25; assumption))
end Go.Proofs.Ythnigmbdacjlnaa.Cw
