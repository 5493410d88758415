/- The program's Encode of a message that is not right. Own work. -/
import Derived.Test.YtmnmmmoeeapeiaaJbc
namespace Go.Proofs.Ytmnmmmoeeapeiaa.Cw
open Go.RowKit
set_option linter.unusedVariables false
set_option linter.unusedSimpArgs false

theorem srw_any {l : List En} (h : rs 0 l = false) : (arB l = false ∧ jnE l = 4) ∨ (arB l = true ∧ jnE l = 0 ∧ srw l = false) := by
  rw [rs_arB] at h
  unfold jnE
  cases ha : arB l with
  | false => exact .inl ⟨rfl, rfl⟩
  | true =>
    rw [ha, Bool.true_and] at h
    exact .inr ⟨rfl, rfl, h⟩
theorem okM_no {k v n a c : Int} {l : List En} (h : okM k v n a c l = false) : okN k v n a c = false ∨ (okN k v n a c = true ∧ rs 0 l = false) := by
  unfold okM at h
  cases hn : okN k v n a c with
  | false => exact .inl rfl
  | true =>
    rw [hn, Bool.and_true] at h
    exact .inr ⟨rfl, h⟩

set_option maxRecDepth 100000 in
set_option maxHeartbeats 12800000 in
theorem encode23_no (w : World) (k v n a c : Int) (u : Value) (l : List En) (hl : Sv w u l) (hok : ∀ x ∈ l, x.Ok) (hn : l.length ≤ 1466015503701) (hb : Hb l) (h : okM k v n a c l = false) :
    Calls Try.prog 7 #[.agg #[.int .i64 k, .int .i64 v, .int .i64 n, .int .i64 a, .int .i64 c, u]] w fun e w' => e = .returned (.tuple #[.string ⟨#[]⟩, .int .i64 4]) ∧ Fr w w' (fun _ => False) := by
  have JC := hid (fun (W : World) (hf : Fr w W (fun _ => False)) => joined_calls W u l (hl.fr hf) hok hn hb)
  have SO := hid (fun (W : World) (hf : Fr w W (fun _ => False)) => sorted23_calls W u l (hl.fr hf) (by omega))
  have hno := okM_no h
  have HC := okN_cases k v n a c
  have hrs := fun h => srw_any (l := l) h
  have HRS := hid hrs
  have HNO := hid hno
  obtain ⟨A, cap, rfl, h1, _⟩ := hl
  have I1 := hid (fun (W : World) => in23_calls W v)
  have I2 := hid (fun (W : World) => in23_calls W n)
  have I3 := hid (fun (W : World) => in23_calls W a)
  have I4 := hid (fun (W : World) => in23_calls W c)
  clear h hno hrs hb hok
  generalize hN : l.length = N at *
  clear hN
  go_enter Try.func7, Try.ntmps7
  go_wp2_with fail
  have hP := alloc_new w (.cells #[.int .i64 k, .int .i64 v, .int .i64 n, .int .i64 a, .int .i64 c, .slice A N cap] 24)
  refine (JC.out _ ((Fr.refl w _).alloc _)).mono ?_
  rintro e w1 ⟨rfl, hf1⟩
  have hA1 := ((Fr.refl w (fun _ => False)).alloc (.cells #[.int .i64 k, .int .i64 v, .int .i64 n, .int .i64 a, .int .i64 c, .slice A N cap] 24)).trans hf1
  have hP1 := hf1.at_ hP (fun x => x)
  have q5 := cell_blk hP1 5
  simp only [List.getElem?_toArray, List.getElem?_cons_zero, List.getElem?_cons_succ] at q5
  clear hf1 hP
  go_wp2_with fail
  refine (SO.out _ hA1).mono ?_
  rintro e w2 ⟨rfl, hf2⟩
  have HA2 := hid (hA1.trans hf2)
  have hP2 := hf2.at_ hP1 (fun x => x)
  have q0 := cell_blk hP2 0
  have q1 := cell_blk hP2 1
  have q2 := cell_blk hP2 2
  have q3 := cell_blk hP2 3
  have q4 := cell_blk hP2 4
  simp only [List.getElem?_toArray, List.getElem?_cons_zero, List.getElem?_cons_succ] at q0 q1 q2 q3 q4
  clear hf2 hA1 hP1 hP2 q5 JC SO
  generalize w.heap.size = P at *
  generalize jnS l = JS at *
  rcases HC with ⟨hz, d1, d2⟩ | ⟨hz, ⟨d1, d2⟩, d3, d4⟩ | ⟨⟨⟨d1, d2⟩, d3, d4⟩, HC⟩
  · clear hz HRS HNO
    generalize jnE l = JE at *
    generalize srw l = RB at *
    go_wp2_with (first
      | (go_at_call_of 19 (Value.int .i64 v); refine (I1.out _).mono ?_; rintro e w' ⟨rfl, rfl⟩)
      | (go_at_call_of 19 (Value.int .i64 n); refine (I2.out _).mono ?_; rintro e w' ⟨rfl, rfl⟩)
      | (go_at_call_of 19 (Value.int .i64 a); refine (I3.out _).mono ?_; rintro e w' ⟨rfl, rfl⟩)
      | (go_at_call_of 19 (Value.int .i64 c); refine (I4.out _).mono ?_; rintro e w' ⟨rfl, rfl⟩))
    go_ret2
    exact ⟨rfl, HA2.out⟩
  · clear hz HRS HNO
    generalize jnE l = JE at *
    generalize srw l = RB at *
    go_wp2_with (first
      | (go_at_call_of 19 (Value.int .i64 v); refine (I1.out _).mono ?_; rintro e w' ⟨rfl, rfl⟩)
      | (go_at_call_of 19 (Value.int .i64 n); refine (I2.out _).mono ?_; rintro e w' ⟨rfl, rfl⟩)
      | (go_at_call_of 19 (Value.int .i64 a); refine (I3.out _).mono ?_; rintro e w' ⟨rfl, rfl⟩)
      | (go_at_call_of 19 (Value.int .i64 c); refine (I4.out _).mono ?_; rintro e w' ⟨rfl, rfl⟩))
    go_ret2
    exact ⟨rfl, HA2.out⟩
  · rcases HC with ⟨hz, e1⟩ | ⟨hz, e1, e2⟩ | ⟨hz, e1, e2, e3⟩ | ⟨hz, e1, e2, e3, e4⟩ | ⟨hz, e1, e2, e3, e4⟩
    · rw [e1] at I1
      clear hz HRS HNO e1
      generalize jnE l = JE at *
      generalize srw l = RB at *
      go_wp2_with (first
        | (go_at_call_of 19 (Value.int .i64 v); refine (I1.out _).mono ?_; rintro e w' ⟨rfl, rfl⟩)
        | (go_at_call_of 19 (Value.int .i64 n); refine (I2.out _).mono ?_; rintro e w' ⟨rfl, rfl⟩)
        | (go_at_call_of 19 (Value.int .i64 a); refine (I3.out _).mono ?_; rintro e w' ⟨rfl, rfl⟩)
        | (go_at_call_of 19 (Value.int .i64 c); refine (I4.out _).mono ?_; rintro e w' ⟨rfl, rfl⟩))
      go_ret2
      exact ⟨rfl, HA2.out⟩
    · rw [e1] at I1
      rw [e2] at I2
      clear hz HRS HNO e1 e2
      generalize jnE l = JE at *
      generalize srw l = RB at *
      go_wp2_with (first
        | (go_at_call_of 19 (Value.int .i64 v); refine (I1.out _).mono ?_; rintro e w' ⟨rfl, rfl⟩)
        | (go_at_call_of 19 (Value.int .i64 n); refine (I2.out _).mono ?_; rintro e w' ⟨rfl, rfl⟩)
        | (go_at_call_of 19 (Value.int .i64 a); refine (I3.out _).mono ?_; rintro e w' ⟨rfl, rfl⟩)
        | (go_at_call_of 19 (Value.int .i64 c); refine (I4.out _).mono ?_; rintro e w' ⟨rfl, rfl⟩))
      go_ret2
      exact ⟨rfl, HA2.out⟩
    · rw [e1] at I1
      rw [e2] at I2
      rw [e3] at I3
      clear hz HRS HNO e1 e2 e3
      generalize jnE l = JE at *
      generalize srw l = RB at *
      go_wp2_with (first
        | (go_at_call_of 19 (Value.int .i64 v); refine (I1.out _).mono ?_; rintro e w' ⟨rfl, rfl⟩)
        | (go_at_call_of 19 (Value.int .i64 n); refine (I2.out _).mono ?_; rintro e w' ⟨rfl, rfl⟩)
        | (go_at_call_of 19 (Value.int .i64 a); refine (I3.out _).mono ?_; rintro e w' ⟨rfl, rfl⟩)
        | (go_at_call_of 19 (Value.int .i64 c); refine (I4.out _).mono ?_; rintro e w' ⟨rfl, rfl⟩))
      go_ret2
      exact ⟨rfl, HA2.out⟩
    · rw [e1] at I1
      rw [e2] at I2
      rw [e3] at I3
      rw [e4] at I4
      clear hz HRS HNO e1 e2 e3 e4
      generalize jnE l = JE at *
      generalize srw l = RB at *
      go_wp2_with (first
        | (go_at_call_of 19 (Value.int .i64 v); refine (I1.out _).mono ?_; rintro e w' ⟨rfl, rfl⟩)
        | (go_at_call_of 19 (Value.int .i64 n); refine (I2.out _).mono ?_; rintro e w' ⟨rfl, rfl⟩)
        | (go_at_call_of 19 (Value.int .i64 a); refine (I3.out _).mono ?_; rintro e w' ⟨rfl, rfl⟩)
        | (go_at_call_of 19 (Value.int .i64 c); refine (I4.out _).mono ?_; rintro e w' ⟨rfl, rfl⟩))
      go_ret2
      exact ⟨rfl, HA2.out⟩
    · have hr := HRS.out (by
        rcases HNO.out with h9 | h9
        · rw [hz] at h9; cases h9
        · exact h9.2)
      rw [e1] at I1
      rw [e2] at I2
      rw [e3] at I3
      rw [e4] at I4
      clear hz e1 e2 e3 e4 HRS HNO
      rcases hr with ⟨_, hj⟩ | ⟨_, hj, hs⟩
      · rw [hj]
        clear hj
        generalize srw l = RB at *
        go_wp2_with (first
          | (go_at_call_of 19 (Value.int .i64 v); refine (I1.out _).mono ?_; rintro e w' ⟨rfl, rfl⟩)
          | (go_at_call_of 19 (Value.int .i64 n); refine (I2.out _).mono ?_; rintro e w' ⟨rfl, rfl⟩)
          | (go_at_call_of 19 (Value.int .i64 a); refine (I3.out _).mono ?_; rintro e w' ⟨rfl, rfl⟩)
          | (go_at_call_of 19 (Value.int .i64 c); refine (I4.out _).mono ?_; rintro e w' ⟨rfl, rfl⟩))
        go_ret2
        exact ⟨rfl, HA2.out⟩
      · rw [hj, hs]
        clear hj hs
        go_wp2_with (first
          | (go_at_call_of 19 (Value.int .i64 v); refine (I1.out _).mono ?_; rintro e w' ⟨rfl, rfl⟩)
          | (go_at_call_of 19 (Value.int .i64 n); refine (I2.out _).mono ?_; rintro e w' ⟨rfl, rfl⟩)
          | (go_at_call_of 19 (Value.int .i64 a); refine (I3.out _).mono ?_; rintro e w' ⟨rfl, rfl⟩)
          | (go_at_call_of 19 (Value.int .i64 c); refine (I4.out _).mono ?_; rintro e w' ⟨rfl, rfl⟩))
        go_ret2
        exact ⟨rfl, HA2.out⟩
end Go.Proofs.Ytmnmmmoeeapeiaa.Cw

