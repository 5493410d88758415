/- Which messages are right: plain, and the reference's Right. Own work. -/
import Derived.Test.YtmnmmmoeeapeiaaJay
import Derived.Test.YtmnmmmoeeapeiaaJba
namespace Go.Proofs.Ytmnmmmoeeapeiaa.Cw
open Go.RowKit
set_option linter.unusedVariables false
set_option linter.unusedSimpArgs false

def inB (n : Int) : Bool := decide (0 ≤ n ∧ n ≤ 1099511627776)
def okN (k v n a c : Int) : Bool := decide (1 ≤ k ∧ k ≤ 7) && inB v && inB n && inB a && inB c
/-- Entries that are right, from a view on. -/
def rs : Int → List En → Bool
  | _, [] => true
  | last, x :: r => decide x.R && !decide (x.a < last) && rs x.a r
def okM (k v n a c : Int) (l : List En) : Bool := rs 0 l && okN k v n a c
theorem R_view {x : En} (h : x.R) : 0 ≤ x.a ∧ x.a ≤ 1099511627776 := h.1
theorem rs_iff (l : List En) : ∀ last : Int, 0 ≤ last → last ≤ 1099511627776 → rs last l = (arB l && (match l with | x :: _ => !decide (x.a < last) | [] => true) && srw l) := by
  induction l with
  | nil => intro last _ _; rfl
  | cons x r ih =>
    intro last h0 h1
    unfold rs
    by_cases hr : x.R
    · have hv := R_view hr
      rw [ih x.a hv.1 hv.2]
      cases r with
      | nil =>
        unfold arB srw
        simp [hr]
      | cons y r =>
        by_cases hy : y.R
        · have hw := R_view hy
          have e1 : srw (x :: y :: r) = (decide (0 ≤ wrap64 (y.a - x.a)) && srw (y :: r)) := rfl
          have e2 : wrap64 (y.a - x.a) = y.a - x.a := by unfold wrap64; omega
          have e3 : decide (0 ≤ y.a - x.a) = !decide (y.a < x.a) := by
            by_cases h9 : y.a < x.a
            · rw [decide_eq_true h9, decide_eq_false (by omega)]; rfl
            · rw [decide_eq_false h9, decide_eq_true (by omega)]; rfl
          rw [e1, e2, e3]
          unfold arB
          simp only [List.all_cons, hr, hy, decide_true, Bool.true_and]
          cases decide (x.a < last) <;> cases decide (y.a < x.a) <;> cases (List.all r fun x => decide x.R) <;> cases srw (y :: r) <;> rfl
        · unfold arB
          simp [hy]
    · unfold arB
      simp [hr]
theorem rs_arB (l : List En) : rs 0 l = (arB l && srw l) := by
  rw [rs_iff l 0 (by omega) (by omega)]
  cases l with
  | nil => rfl
  | cons x r =>
    by_cases hr : x.R
    · have := R_view hr
      simp only
      rw [decide_eq_false (by omega)]
      simp
    · unfold arB
      simp [hr]
theorem rs_step {l : List En} {i : Nat} {x : En} {last : Int} (h : l[i]? = some x) : rs last (l.drop i) = (decide x.R && !decide (x.a < last) && rs x.a (l.drop (i + 1))) := by
  obtain ⟨hi, e⟩ := List.getElem?_eq_some_iff.1 h
  rw [List.drop_eq_getElem_cons hi, e]
  rfl

theorem in23_calls (w : World) (n : Int) : Calls Try.prog 19 #[.int .i64 n] w fun e w' => e = .returned (.bool (inB n)) ∧ w' = w := by
  by_cases h0 : n < 0
  · have hr : inB n = false := decide_eq_false (by omega)
    have d1 : decide (0 ≤ n) = false := decide_eq_false (by omega)
    rw [hr]
    clear hr
    go_enter Try.func19, Try.ntmps19
    go_wp2_with fail
    go_ret
    exact ⟨rfl, rfl⟩
  · by_cases h1 : 1099511627776 < n
    · have hr : inB n = false := decide_eq_false (by omega)
      have d1 : decide (0 ≤ n) = true := decide_eq_true (by omega)
      have d2 : decide (n ≤ 1099511627776) = false := decide_eq_false (by omega)
      rw [hr]
      clear hr
      go_enter Try.func19, Try.ntmps19
      go_wp2_with fail
      go_ret
      exact ⟨rfl, rfl⟩
    · have hr : inB n = true := decide_eq_true (by omega)
      have d1 : decide (0 ≤ n) = true := decide_eq_true (by omega)
      have d2 : decide (n ≤ 1099511627776) = true := decide_eq_true (by omega)
      rw [hr]
      clear hr
      go_enter Try.func19, Try.ntmps19
      go_wp2_with fail
      go_ret
      exact ⟨rfl, rfl⟩
theorem refIn23_calls (w : World) (n : Int) : Calls Try.prog 48 #[.int .i64 n] w fun e w' => e = .returned (.bool (inB n)) ∧ w' = w := by
  by_cases h0 : n < 0
  · have hr : inB n = false := decide_eq_false (by omega)
    have d1 : decide (0 ≤ n) = false := decide_eq_false (by omega)
    rw [hr]
    clear hr
    go_enter Try.func48, Try.ntmps48
    go_wp2_with fail
    go_ret
    exact ⟨rfl, rfl⟩
  · by_cases h1 : 1099511627776 < n
    · have hr : inB n = false := decide_eq_false (by omega)
      have d1 : decide (0 ≤ n) = true := decide_eq_true (by omega)
      have d2 : decide (n ≤ 1099511627776) = false := decide_eq_false (by omega)
      rw [hr]
      clear hr
      go_enter Try.func48, Try.ntmps48
      go_wp2_with fail
      go_ret
      exact ⟨rfl, rfl⟩
    · have hr : inB n = true := decide_eq_true (by omega)
      have d1 : decide (0 ≤ n) = true := decide_eq_true (by omega)
      have d2 : decide (n ≤ 1099511627776) = true := decide_eq_true (by omega)
      rw [hr]
      clear hr
      go_enter Try.func48, Try.ntmps48
      go_wp2_with fail
      go_ret
      exact ⟨rfl, rfl⟩

/-- The numbers of a message, one by one: which is the first that is not so. -/
theorem okN_cases (k v n a c : Int) : (okN k v n a c = false ∧ decide (k < 1) = true ∧ decide (1 ≤ k) = false) ∨ (okN k v n a c = false ∧ (decide (k < 1) = false ∧ decide (1 ≤ k) = true) ∧ decide (7 < k) = true ∧ decide (k ≤ 7) = false) ∨
    (((decide (k < 1) = false ∧ decide (1 ≤ k) = true) ∧ decide (7 < k) = false ∧ decide (k ≤ 7) = true) ∧ ((okN k v n a c = false ∧ inB v = false) ∨ (okN k v n a c = false ∧ inB v = true ∧ inB n = false) ∨ (okN k v n a c = false ∧ inB v = true ∧ inB n = true ∧ inB a = false) ∨ (okN k v n a c = false ∧ inB v = true ∧ inB n = true ∧ inB a = true ∧ inB c = false) ∨ (okN k v n a c = true ∧ inB v = true ∧ inB n = true ∧ inB a = true ∧ inB c = true))) := by
  unfold okN
  by_cases h1 : k < 1
  · left
    rw [decide_eq_false (by omega : ¬ (1 ≤ k ∧ k ≤ 7))]
    exact ⟨rfl, decide_eq_true h1, decide_eq_false (by omega)⟩
  · right
    by_cases h2 : 7 < k
    · left
      rw [decide_eq_false (by omega : ¬ (1 ≤ k ∧ k ≤ 7))]
      exact ⟨rfl, ⟨decide_eq_false h1, decide_eq_true (by omega)⟩, decide_eq_true h2, decide_eq_false (by omega)⟩
    · right
      rw [decide_eq_true (by omega : (1 ≤ k ∧ k ≤ 7))]
      refine ⟨⟨⟨decide_eq_false h1, decide_eq_true (by omega)⟩, decide_eq_false h2, decide_eq_true (by omega)⟩, ?_⟩
      cases inB v <;> cases inB n <;> cases inB a <;> cases inB c <;> simp

set_option maxRecDepth 100000 in
set_option maxHeartbeats 6400000 in
theorem refRight23_calls (w : World) (k v n a c : Int) (u : Value) (l : List En) (hl : Sv w u l) (hn : l.length ≤ 1466015503701) :
    Calls Try.prog 27 #[.agg #[.int .i64 k, .int .i64 v, .int .i64 n, .int .i64 a, .int .i64 c, u]] w fun e w' => e = .returned (.bool (okM k v n a c l)) ∧ Fr w w' (fun _ => False) := by
  obtain ⟨A, cap, rfl, h1, h2, h3⟩ := hl
  have HA := hid (fun hn => h3 hn)
  have HX := hid (fun (i : Nat) (hi : i < l.length) => (⟨l[i], List.getElem?_eq_getElem hi⟩ : ∃ x, l[i]? = some x))
  have HNN := hid (fun (i : Nat) (x : En) (hx : l[i]? = some x) => (fun e => by rw [e] at hx; simp at hx : ¬ l = []))
  clear h3 h2
  generalize hN : l.length = N at *
  have HN := hid hN
  clear hN
  go_enter Try.func27, Try.ntmps27
  go_wp2_with fail
  have HP := hid (alloc_new w (.cells #[.int .i64 k, .int .i64 v, .int .i64 n, .int .i64 a, .int .i64 c, .slice A N cap] 31))
  have HW2 := hid ((Fr.refl w (fun _ => False)).alloc (.cells #[.int .i64 k, .int .i64 v, .int .i64 n, .int .i64 a, .int .i64 c, .slice A N cap] 31))
  generalize w.alloc (.cells #[.int .i64 k, .int .i64 v, .int .i64 n, .int .i64 a, .int .i64 c, .slice A N cap] 31) = w2 at *
  obtain ⟨P, hP⟩ : ∃ P, w.heap.size = P := ⟨_, rfl⟩
  rw [hP] at HP
  rw [hP]
  have HPW : Hid (w.heap.size = P) := hid hP
  clear hP
  go_loopw [3, 9] (fun lv t wr => ∃ i : Nat, i ≤ N ∧ t = .int .i64 i ∧ Fr w2 wr (fun _ => False) ∧ ∃ last : Int, lv = .int .i64 last ∧ rs 0 l = rs last (l.drop i)) (fun _ t _ => N - (intOf t).toNat)
  case atStart => exact ⟨0, by omega, rfl, Fr.refl _ _, 0, rfl, by rw [List.drop_zero]⟩
  case round =>
    obtain ⟨i, hi, rfl, hf, last, rfl, hrs⟩ := hrel
    by_cases hlt : i < N
    · obtain ⟨x, hx⟩ := HX.out i hlt
      obtain ⟨b, off, rfl, hbb, hat⟩ := HA.out (HNN.out i x hx)
      obtain ⟨c0, c1, c2, c3, c4, c5, c6, c7, c8⟩ := (hat.fr (HW2.out.trans hf)).nine hx
      have hst := rs_step (last := last) hx
      have HF := hid hf
      have RC := hid (fun (W : World) => refRight_calls W x.a x.b x.c x.k x.t x.n x.p x.q x.r)
      have HOK : Hid (rs 0 l = false → okM k v n a c l = false) := hid (fun e => by unfold okM; rw [e]; rfl)
      by_cases hr : x.R
      · rw [decide_eq_true (show Rt x.a x.b x.c x.p x.q x.r from hr)] at RC
        rw [decide_eq_true hr, Bool.true_and] at hst
        by_cases hlow : x.a < last
        · have HRS : Hid (okM k v n a c l = false) := hid (HOK.out (by rw [hrs, hst, decide_eq_true hlow]; rfl))
          have d9 : decide (x.a < last) = true := decide_eq_true hlow
          clear hst hrs hr hlow hx hat hf
          obtain ⟨xa, xb, xc, xk, xt, xn, xp, xq, xr⟩ := x
          unfold enV at RC
          simp only at c0 c1 c2 c3 c4 c5 c6 c7 c8 RC d9
          go_wp2_with (first
            | (go_at_call 47
               refine (RC.out _).mono ?_
               rintro e w3 ⟨rfl, hf3⟩
               have hx3 := hf3.at_ (alloc_new wr (.cells #[.int .i64 xa, .int .i64 xb, .int .i64 xc, .int .i64 xk, .int .i64 xt, .int .i64 xn, .string xp, .string xq, .string xr] 52)) (fun x => x)
               have z0 := cell_blk hx3 0
               simp only [List.getElem?_toArray, List.getElem?_cons_zero, List.getElem?_cons_succ] at z0))
          go_ret
          exact ⟨ret_b HRS.out.symm, HW2.out.trans (HF.out.trans (Fr.trans (Fr.alloc (Fr.refl wr _) _) hf3))⟩
        · have HRS : Hid (rs 0 l = rs x.a (l.drop (i + 1))) := hid (by rw [hrs, hst, decide_eq_false hlow]; rfl)
          have d9 : decide (x.a < last) = false := decide_eq_false hlow
          clear hst hrs hr hlow hx hat hf
          obtain ⟨xa, xb, xc, xk, xt, xn, xp, xq, xr⟩ := x
          unfold enV at RC
          simp only at c0 c1 c2 c3 c4 c5 c6 c7 c8 RC d9 HRS
          go_wp2_with (first
            | (go_at_call 47
               refine (RC.out _).mono ?_
               rintro e w3 ⟨rfl, hf3⟩
               have hx3 := hf3.at_ (alloc_new wr (.cells #[.int .i64 xa, .int .i64 xb, .int .i64 xc, .int .i64 xk, .int .i64 xt, .int .i64 xn, .string xp, .string xq, .string xr] 52)) (fun x => x)
               have z0 := cell_blk hx3 0
               simp only [List.getElem?_toArray, List.getElem?_cons_zero, List.getElem?_cons_succ] at z0))
          go_roundw
          case rel => exact ⟨i + 1, by omega, by go_num, HF.out.trans (Fr.trans (Fr.alloc (Fr.refl wr _) _) hf3), xa, rfl, HRS.out⟩
          case measure => simp [intOf]; omega
      · rw [decide_eq_false (show ¬ Rt x.a x.b x.c x.p x.q x.r from hr)] at RC
        have HRS : Hid (okM k v n a c l = false) := hid (HOK.out (by rw [hrs, hst, decide_eq_false hr]; rfl))
        clear hst hrs hr hx hat hf
        obtain ⟨xa, xb, xc, xk, xt, xn, xp, xq, xr⟩ := x
        unfold enV at RC
        simp only at c0 c1 c2 c3 c4 c5 c6 c7 c8 RC
        go_wp2_with (first
          | (go_at_call 47
             refine (RC.out _).mono ?_
             rintro e w3 ⟨rfl, hf3⟩))
        go_ret
        exact ⟨ret_b HRS.out.symm, HW2.out.trans (HF.out.trans (Fr.trans (Fr.alloc (Fr.refl wr _) _) hf3))⟩
    · have he : i = N := by omega
      subst he
      have htrue : rs 0 l = true := by
        rw [hrs, List.drop_of_length_le (by rw [HN.out]; exact Nat.le_refl _)]
        rfl
      have HOK : Hid (okM k v n a c l = okN k v n a c) := hid (by unfold okM; rw [htrue]; rfl)
      have hp := hf.at_ HP.out (fun x => x)
      have q0 := cell_blk hp 0
      have q1 := cell_blk hp 1
      have q2 := cell_blk hp 2
      have q3 := cell_blk hp 3
      have q4 := cell_blk hp 4
      simp only [List.getElem?_toArray, List.getElem?_cons_zero, List.getElem?_cons_succ] at q0 q1 q2 q3 q4
      have HF := hid hf
      have I1 := hid (fun (W : World) => refIn23_calls W v)
      have I2 := hid (fun (W : World) => refIn23_calls W n)
      have I3 := hid (fun (W : World) => refIn23_calls W a)
      have I4 := hid (fun (W : World) => refIn23_calls W c)
      have HC := okN_cases k v n a c
      clear hf hrs htrue hp
      rcases HC with ⟨hz, d1, d2⟩ | ⟨hz, ⟨d1, d2⟩, d3, d4⟩ | ⟨⟨⟨d1, d2⟩, d3, d4⟩, ⟨hz, e1⟩ | ⟨hz, e1, e2⟩ | ⟨hz, e1, e2, e3⟩ | ⟨hz, e1, e2, e3, e4⟩ | ⟨hz, e1, e2, e3, e4⟩⟩
      all_goals
        have HZ := hid (HOK.out.trans hz)
        (try rw [e1] at I1)
        (try rw [e2] at I2)
        (try rw [e3] at I3)
        (try rw [e4] at I4)
        clear hz
        (try clear e1)
        (try clear e2)
        (try clear e3)
        (try clear e4)
        go_wp2_with (first
          | (go_at_call 48; first | ((with_reducible refine (I1.out _).mono ?_); rintro e w' ⟨rfl, rfl⟩) | ((with_reducible refine (I2.out _).mono ?_); rintro e w' ⟨rfl, rfl⟩) | ((with_reducible refine (I3.out _).mono ?_); rintro e w' ⟨rfl, rfl⟩) | ((with_reducible refine (I4.out _).mono ?_); rintro e w' ⟨rfl, rfl⟩)))
        go_ret
        exact ⟨ret_b HZ.out.symm, HW2.out.trans HF.out⟩
end Go.Proofs.Ytmnmmmoeeapeiaa.Cw

