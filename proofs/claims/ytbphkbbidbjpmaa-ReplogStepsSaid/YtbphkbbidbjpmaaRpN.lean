/- Calls on a nil log; ReplogNil. Own work. -/
import Derived.Test.YtbphkbbidbjpmaaRpI
namespace Go.Proofs.Ytbphkbbidbjpmaa.Cw
open Go.RowKit
set_option linter.unusedVariables false
set_option linter.unusedSimpArgs false

theorem view_nil (w : World) : Calls Try.prog 27 #[.pointer none] w fun e w' => e = .returned (.int .i64 0) ∧ w' = w := by
  go_enter Try.func27, Try.ntmps27
  go_wp2_with (go_at_call 18; refine (len_nil _).mono ?_; rintro e w' ⟨rfl, rfl⟩)
  go_ret
  exact ⟨rfl, rfl⟩

set_option maxRecDepth 100000 in
set_option maxHeartbeats 1600000 in
theorem append_nil_no (w : World) (a b c k t n : Int) (p q r : ByteArray) (h : ¬ Rt a b c p q r) :
    Calls Try.prog 22 #[.pointer none, enV a b c k t n p q r] w fun e w' => e = .returned (.tuple #[.int .i64 0, .int .i64 4]) ∧ Fr w w' (fun _ => False) := by
  have RC := hid (fun w => right_calls w a b c k t n p q r)
  rw [decide_eq_false h] at RC
  unfold enV at *
  clear h
  go_enter Try.func22, Try.ntmps22
  go_wp2_with fail
  refine (RC.out _).mono ?_
  rintro e w1 ⟨rfl, hf1⟩
  go_wp2_with fail
  go_ret2
  exact ⟨rfl, ((Fr.refl w _).alloc _).trans hf1⟩
set_option maxRecDepth 100000 in
set_option maxHeartbeats 1600000 in
theorem append_nil_yes (w : World) (a b c k t n : Int) (p q r : ByteArray) (h : Rt a b c p q r) :
    Calls Try.prog 22 #[.pointer none, enV a b c k t n p q r] w fun e w' => e = .returned (.tuple #[.int .i64 0, .int .i64 5]) ∧ Fr w w' (fun _ => False) := by
  have RC := hid (fun w => right_calls w a b c k t n p q r)
  rw [decide_eq_true h] at RC
  have ha : 0 ≤ a := h.1.1
  have hd : decide (a < 0) = false := decide_eq_false (by omega)
  unfold enV at *
  clear h
  go_enter Try.func22, Try.ntmps22
  go_wp2_with fail
  refine (RC.out _).mono ?_
  rintro e w1 ⟨rfl, hf1⟩
  have hx1 := hf1.at_ (alloc_new w _) (fun x => x)
  have c0 := (cell_blk hx1 0).trans rfl
  go_wp2_with fail
  go_quiet (first | (go_at_call 27; exact Calls.quiet_of_same (view_nil _)))
  go_wp2_with fail
  go_ret2
  exact ⟨rfl, (((Fr.refl w _).alloc _).trans hf1).drewN _⟩

theorem results_entry2 {fn : Func} {u x : Tmp} (h : fn.results = #[.cell u 25, .tmp x]) (tmps : Array Value) (w : World) (b : Nat) (hb : tmps.getD u undef = .pointer (some ⟨b, 0, none⟩)) {cs : Value}
    (hl : (loadVar 25 ⟨b, 0, none⟩).run Try.prog w = .ok cs w) :
    (results fn tmps).run Try.prog w = .ok (.tuple #[cs, tmps.getD x undef]) w := by
  have hb' : tmps[u]?.getD undef = .pointer (some ⟨b, 0, none⟩) := by simpa using hb
  simp [results, h, hb', hl, Sem.run_bind, asAddr]
set_option maxRecDepth 100000 in
set_option maxHeartbeats 1600000 in
theorem get_nil (w : World) (n : Int) :
    Calls Try.prog 25 #[.pointer none, .int .i64 n] w fun e w' => e = .returned (.tuple #[enV 0 0 0 0 0 0 ⟨#[]⟩ ⟨#[]⟩ ⟨#[]⟩, .int .i64 6]) ∧ Fr w w' (fun _ => False) := by
  by_cases h : n < 1
  · go_enter Try.func25, Try.ntmps25
    go_wp2_with (go_at_call 18; refine (len_nil _).mono ?_; rintro e w' ⟨rfl, rfl⟩)
    refine bodyPost_ret (results_entry2 rfl _ _ _ rfl (load9 (v0 := (.int .i64 0)) (v1 := (.int .i64 0)) (v2 := (.int .i64 0)) (v3 := (.int .i64 0)) (v4 := (.int .i64 0)) (v5 := (.int .i64 0)) (v6 := (.string ⟨#[]⟩)) (v7 := (.string ⟨#[]⟩)) (v8 := (.string ⟨#[]⟩)) (t := 25) (alloc_new w _))) rfl ?_
    exact ⟨rfl, (Fr.refl w _).alloc _⟩
  · have h1 : 1 ≤ n := by omega
    have hd : decide (0 < n) = true := decide_eq_true (by omega)
    go_enter Try.func25, Try.ntmps25
    go_wp2_with (go_at_call 18; refine (len_nil _).mono ?_; rintro e w' ⟨rfl, rfl⟩)
    refine bodyPost_ret (results_entry2 rfl _ _ _ rfl (load9 (v0 := (.int .i64 0)) (v1 := (.int .i64 0)) (v2 := (.int .i64 0)) (v3 := (.int .i64 0)) (v4 := (.int .i64 0)) (v5 := (.int .i64 0)) (v6 := (.string ⟨#[]⟩)) (v7 := (.string ⟨#[]⟩)) (v8 := (.string ⟨#[]⟩)) (t := 25) (alloc_new w _))) rfl ?_
    exact ⟨rfl, (Fr.refl w _).alloc _⟩

set_option maxRecDepth 100000 in
set_option maxHeartbeats 1600000 in
theorem from_nil (w : World) (n m : Int) (h1 : -9223372036854775808 ≤ n) (h2 : n < 9223372036854775808) :
    Calls Try.prog 15 #[.pointer none, .int .i64 n, .int .i64 m] w fun e w' => e = .returned (.slice none 0 0) ∧ w = w' := by
  by_cases h : n < 1
  · go_enter Try.func15, Try.ntmps15
    go_wp2_with (go_at_call 18; refine (len_nil _).mono ?_; rintro e w' ⟨rfl, rfl⟩)
    go_ret
    exact ⟨rfl, rfl⟩
  · have h3 : 1 ≤ n := by omega
    have hd : decide (0 < n) = true := decide_eq_true (by omega)
    go_enter Try.func15, Try.ntmps15
    go_wp2_with (go_at_call 18; refine (len_nil _).mono ?_; rintro e w' ⟨rfl, rfl⟩)
    go_ret
    exact ⟨rfl, rfl⟩

set_option maxRecDepth 100000 in
set_option maxHeartbeats 1600000 in
theorem replace_nil0 (w : World) : Calls Try.prog 20 #[.pointer none, .int .i64 0, .slice none 0 0] w fun e w' => e = .returned (.int .i64 0) ∧ w = w' := by
  go_enter Try.func20, Try.ntmps20
  go_wp2_with (go_at_call 18; refine (len_nil _).mono ?_; rintro e w' ⟨rfl, rfl⟩)
  refine wp_loop_rounds 1 ?_
  rw [rounds_succ]
  go_wp2_with fail
  go_ret
  exact ⟨rfl, rfl⟩
set_option maxRecDepth 100000 in
set_option maxHeartbeats 1600000 in
theorem replace_nil_arg (w : World) (m : Int) (v : Value) (h : ¬ m = 0) : Calls Try.prog 20 #[.pointer none, .int .i64 m, v] w fun e w' => e = .returned (.int .i64 1) ∧ w = w' := by
  by_cases h1 : m < 0
  · clear h
    go_enter Try.func20, Try.ntmps20
    go_wp2_with (go_at_call 18; refine (len_nil _).mono ?_; rintro e w' ⟨rfl, rfl⟩)
    go_ret
    exact ⟨rfl, rfl⟩
  · have h2 : 0 ≤ m := by omega
    have hd : decide (0 < m) = true := decide_eq_true (by omega)
    clear h
    go_enter Try.func20, Try.ntmps20
    go_wp2_with (go_at_call 18; refine (len_nil _).mono ?_; rintro e w' ⟨rfl, rfl⟩)
    go_ret
    exact ⟨rfl, rfl⟩
set_option maxRecDepth 100000 in
set_option maxHeartbeats 3200000 in
theorem replace_nil1 (w : World) (g : Nat) (a b c k t n : Int) (p q r : ByteArray) (hg : w.heap[g]? = some (.cells #[.int .i64 a, .int .i64 b, .int .i64 c, .int .i64 k, .int .i64 t, .int .i64 n, .string p, .string q, .string r] 25 (0, 0))) :
    Calls Try.prog 20 #[.pointer none, .int .i64 0, .slice (some ⟨g, 0, none⟩) 1 1] w fun e w' => e = .returned (.int .i64 (if Rt a b c p q r then 7 else 4)) ∧ Fr w w' (fun _ => False) := by
  have RC := hid (fun w => right_calls w a b c k t n p q r)
  have c0 := (cell_blk hg 0).trans rfl
  have c1 := (cell_blk hg 1).trans rfl
  have c2 := (cell_blk hg 2).trans rfl
  have c3 := (cell_blk hg 3).trans rfl
  have c4 := (cell_blk hg 4).trans rfl
  have c5 := (cell_blk hg 5).trans rfl
  have c6 := (cell_blk hg 6).trans rfl
  have c7 := (cell_blk hg 7).trans rfl
  have c8 := (cell_blk hg 8).trans rfl
  unfold enV at *
  by_cases h : Rt a b c p q r
  · rw [decide_eq_true h] at RC
    rw [if_pos h]
    clear h
    go_enter Try.func20, Try.ntmps20
    go_wp2_with (go_at_call 18; refine (len_nil _).mono ?_; rintro e w' ⟨rfl, rfl⟩)
    refine wp_loop_rounds 2 ?_
    rw [rounds_succ]
    go_wp2_with fail
    refine (RC.out _).mono ?_
    rintro e w1 ⟨rfl, hf1⟩
    go_wp2_with fail
    rw [rounds_succ]
    go_wp2_with fail
    go_ret
    exact ⟨rfl, ((Fr.refl w _).alloc _).trans hf1⟩
  · rw [decide_eq_false h] at RC
    rw [if_neg h]
    clear h
    go_enter Try.func20, Try.ntmps20
    go_wp2_with (go_at_call 18; refine (len_nil _).mono ?_; rintro e w' ⟨rfl, rfl⟩)
    refine wp_loop_rounds 2 ?_
    rw [rounds_succ]
    go_wp2_with fail
    refine (RC.out _).mono ?_
    rintro e w1 ⟨rfl, hf1⟩
    go_wp2_with fail
    go_ret
    exact ⟨rfl, ((Fr.refl w _).alloc _).trans hf1⟩
set_option maxRecDepth 100000 in
set_option maxHeartbeats 1600000 in
theorem begins_nil (w : World) (g2 : Nat) (v2 : Value) (h2 : Lg w g2 v2 []) :
    Calls Try.prog 16 #[.pointer none, .pointer (some ⟨g2, 0, none⟩)] w fun e w' => e = .returned (.bool true) ∧ w = w' := by
  have L2 := hid (len_calls w g2 v2 [] h2)
  rw [List.length_nil] at L2
  go_enter Try.func16, Try.ntmps16
  go_wp2_with (first | (go_at_call_of 18 (Value.pointer (some ⟨g2, 0, none⟩)); refine (L2.out).mono ?_; rintro e w' ⟨rfl, rfl⟩) | (go_at_call_of 18 (Value.pointer none); refine (len_nil _).mono ?_; rintro e w' ⟨rfl, rfl⟩))
  refine wp_loop_rounds 1 ?_
  rw [rounds_succ]
  go_wp2_with fail
  go_ret
  exact ⟨rfl, rfl⟩
end Go.Proofs.Ytbphkbbidbjpmaa.Cw
