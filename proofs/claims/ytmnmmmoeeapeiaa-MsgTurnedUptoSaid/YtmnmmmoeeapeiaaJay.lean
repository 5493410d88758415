/- slices.IsSortedFunc over entries, by the machine's differences of their views; a message's order. Written by mkmgc.py. Own work. -/
import Derived.Test.YtmnmmmoeeapeiaaJax
import Derived.Deep.RegionHeld3
namespace Go.Proofs.Ytmnmmmoeeapeiaa.Cw
open Go.RowKit
set_option linter.unusedVariables false
set_option linter.unusedSimpArgs false

/-- What slices.IsSortedFunc answers: differences of views, as the machine has them. -/
def srw : List En → Bool
  | x :: y :: r => decide (0 ≤ wrap64 (y.a - x.a)) && srw (y :: r)
  | _ => true
theorem srw_tail (x : En) (l : List En) (h : srw (x :: l) = true) : srw l = true := by
  cases l with
  | nil => rfl
  | cons y r =>
    simp only [srw, Bool.and_eq_true] at h
    exact h.2
theorem srw_drop (l : List En) : ∀ n, srw l = true → srw (l.drop n) = true := by
  intro n
  induction n generalizing l with
  | zero => intro h; exact h
  | succ n ih =>
    intro h
    cases l with
    | nil => rfl
    | cons x r => exact ih r (srw_tail x r h)
theorem srw_step {l : List En} {t : Nat} {x y : En} (hx : l[t]? = some x) (hy : l[t + 1]? = some y) : srw (l.drop t) = (decide (0 ≤ wrap64 (y.a - x.a)) && srw (l.drop (t + 1))) := by
  obtain ⟨h1, e1⟩ := List.getElem?_eq_some_iff.1 hx
  obtain ⟨h2, e2⟩ := List.getElem?_eq_some_iff.1 hy
  rw [List.drop_eq_getElem_cons h1, List.drop_eq_getElem_cons h2, e1, e2]
  rfl
theorem srw_no {l : List En} {t : Nat} {x y : En} (hx : l[t]? = some x) (hy : l[t + 1]? = some y) (h : wrap64 (y.a - x.a) < 0) : srw l = false := by
  rw [← Bool.not_eq_true]
  intro hs
  have := srw_drop l t hs
  rw [srw_step hx hy, Bool.and_eq_true, decide_eq_true_eq] at this
  omega
theorem srw_last {n : Nat} (l : List En) (h : l.length ≤ n + 1) : srw (l.drop n) = true := by
  have hl : (l.drop n).length ≤ 1 := by rw [List.length_drop]; omega
  match hm : l.drop n with
  | [] => rfl
  | [x] => rfl
  | x :: y :: r => rw [hm] at hl; simp at hl


set_option maxRecDepth 100000 in
set_option maxHeartbeats 1600000 in
theorem cmp23_calls (w : World) (x y : En) :
    Calls Try.prog 18 #[x.V, y.V] w fun e w' => e = .returned (.int .i64 (wrap64 (x.a - y.a))) ∧ Fr w w' (fun _ => False) := by
  obtain ⟨a, b, c, k, t, n, p, q, r⟩ := x
  obtain ⟨a2, b2, c2, k2, t2, n2, p2, q2, r2⟩ := y
  unfold En.V enV
  simp only
  go_enter Try.func18, Try.ntmps18
  go_wp2
  go_ret
  exact ⟨rfl, ((Fr.refl w _).alloc _).alloc _⟩

theorem keep18b {w0 w w' : World} {b o o2 : Nat} {v0 v1 v2 v3 v4 v5 v6 v7 v8 u0 u1 u2 u3 u4 u5 u6 u7 u8 : Value} (hf : Fr w w' (fun _ => False))
    (h : w.cell? ⟨b, o, none⟩ = some v0 ∧ w.cell? ⟨b, o + 1, none⟩ = some v1 ∧ w.cell? ⟨b, o + 2, none⟩ = some v2 ∧ w.cell? ⟨b, o + 3, none⟩ = some v3 ∧ w.cell? ⟨b, o + 4, none⟩ = some v4 ∧ w.cell? ⟨b, o + 5, none⟩ = some v5 ∧ w.cell? ⟨b, o + 6, none⟩ = some v6 ∧ w.cell? ⟨b, o + 7, none⟩ = some v7 ∧ w.cell? ⟨b, o + 8, none⟩ = some v8 ∧
      w.cell? ⟨b, o2, none⟩ = some u0 ∧ w.cell? ⟨b, o2 + 1, none⟩ = some u1 ∧ w.cell? ⟨b, o2 + 2, none⟩ = some u2 ∧ w.cell? ⟨b, o2 + 3, none⟩ = some u3 ∧ w.cell? ⟨b, o2 + 4, none⟩ = some u4 ∧ w.cell? ⟨b, o2 + 5, none⟩ = some u5 ∧ w.cell? ⟨b, o2 + 6, none⟩ = some u6 ∧ w.cell? ⟨b, o2 + 7, none⟩ = some u7 ∧ w.cell? ⟨b, o2 + 8, none⟩ = some u8 ∧ Fr w0 w (fun _ => False)) :
    w'.cell? ⟨b, o, none⟩ = some v0 ∧ w'.cell? ⟨b, o + 1, none⟩ = some v1 ∧ w'.cell? ⟨b, o + 2, none⟩ = some v2 ∧ w'.cell? ⟨b, o + 3, none⟩ = some v3 ∧ w'.cell? ⟨b, o + 4, none⟩ = some v4 ∧ w'.cell? ⟨b, o + 5, none⟩ = some v5 ∧ w'.cell? ⟨b, o + 6, none⟩ = some v6 ∧ w'.cell? ⟨b, o + 7, none⟩ = some v7 ∧ w'.cell? ⟨b, o + 8, none⟩ = some v8 ∧
      w'.cell? ⟨b, o2, none⟩ = some u0 ∧ w'.cell? ⟨b, o2 + 1, none⟩ = some u1 ∧ w'.cell? ⟨b, o2 + 2, none⟩ = some u2 ∧ w'.cell? ⟨b, o2 + 3, none⟩ = some u3 ∧ w'.cell? ⟨b, o2 + 4, none⟩ = some u4 ∧ w'.cell? ⟨b, o2 + 5, none⟩ = some u5 ∧ w'.cell? ⟨b, o2 + 6, none⟩ = some u6 ∧ w'.cell? ⟨b, o2 + 7, none⟩ = some u7 ∧ w'.cell? ⟨b, o2 + 8, none⟩ = some u8 ∧ Fr w0 w' (fun _ => False) := by
  obtain ⟨h0, h1, h2, h3, h4, h5, h6, h7, h8, g0, g1, g2, g3, g4, g5, g6, g7, g8, h9⟩ := h
  exact ⟨cell_fr h0 hf, cell_fr h1 hf, cell_fr h2 hf, cell_fr h3 hf, cell_fr h4 hf, cell_fr h5 hf, cell_fr h6 hf, cell_fr h7 hf, cell_fr h8 hf, cell_fr g0 hf, cell_fr g1 hf, cell_fr g2 hf, cell_fr g3 hf, cell_fr g4 hf, cell_fr g5 hf, cell_fr g6 hf, cell_fr g7 hf, cell_fr g8 hf, h9.trans hf⟩

set_option maxRecDepth 100000 in
set_option maxHeartbeats 6400000 in
theorem sorted23_calls (w : World) (v : Value) (l : List En) (hl : Sv w v l) (hn : l.length ≤ 4611686018427387904) :
    Calls Try.prog 17 #[v, .func (.func 18) #[] #[]] w fun e w' => e = .returned (.bool (srw l)) ∧ Fr w w' (fun _ => False) := by
  obtain ⟨A, cap, rfl, h1, h2, h3⟩ := hl
  by_cases he : l = []
  · subst he
    clear h1 h2 h3
    simp only [List.length_nil, srw]
    go_enter Try.func17, Try.ntmps17
    go_wp2_with fail
    refine wp_loop_rounds 1 ?_
    rw [rounds_succ]
    go_wp2_with fail
    go_ret
    exact ⟨rfl, Fr.refl w _⟩
  · obtain ⟨b, off, rfl, hb, HA⟩ := h3 he
    have HA := hid HA
    have hp : 0 < l.length := by
      rcases Nat.eq_zero_or_pos l.length with h0 | h0
      · exact absurd (List.eq_nil_of_length_eq_zero h0) he
      · exact h0
    have HX := hid (fun (i : Nat) (hi : i < l.length) => (⟨l[i], List.getElem?_eq_getElem hi⟩ : ∃ x, l[i]? = some x))
    have HS := hid (fun (i : Nat) (x y : En) (hx : l[i]? = some x) (hy : l[i + 1]? = some y) (h : srw (l.drop (i + 1)) = true) (h2 : 0 ≤ wrap64 (y.a - x.a)) => (by rw [srw_step hx hy, h, decide_eq_true h2]; rfl : srw (l.drop i) = true))
    have HNO := hid (fun (i : Nat) (x y : En) (hx : l[i]? = some x) (hy : l[i + 1]? = some y) (h2 : wrap64 (y.a - x.a) < 0) => srw_no hx hy h2)
    have HST := hid (srw_last (n := l.length - 1) l (by omega))
    have HEN := hid (fun (h : srw (l.drop 0) = true) => (by rwa [List.drop_zero] at h : srw l = true))
    generalize srw l = Q at *
    clear h3 he
    generalize l.length = N at *
    have hw1 : IntKind.i64.wrap ((N : Int) - 1) = ((N - 1 : Nat) : Int) := by rw [IntWalk.i64_in _ (by omega)]; omega
    have HW1 := hid hw1
    clear hw1
    have hNe : ((N - 1 : Nat) : Int) = (N : Int) - 1 := by omega
    have HNe := hid hNe
    clear hNe
    go_enter Try.func17, Try.ntmps17
    go_wp2_with fail
    go_loopw [5] (fun t wr => ∃ i : Nat, i < N ∧ t = .int .i64 i ∧ srw (l.drop i) = true ∧ Fr w wr (fun _ => False)) (fun t _ => (intOf t).toNat)
    case atStart => exact ⟨N - 1, by omega, by rw [HNe.out], HST.out, Fr.refl w _⟩
    case round =>
      obtain ⟨i, hi, rfl, hs, hf⟩ := hrel
      by_cases h0 : i = 0
      · subst h0
        have HQ := hid (HEN.out hs)
        have HF := hid hf
        clear hs hf
        go_wp2_with fail
        go_ret
        exact ⟨ret_b HQ.out.symm, HF.out⟩
      · obtain ⟨t, rfl⟩ : ∃ t, i = t + 1 := ⟨i - 1, by omega⟩
        obtain ⟨x, hx⟩ := HX.out t (by omega)
        obtain ⟨y, hy⟩ := HX.out (t + 1) hi
        obtain ⟨c0, c1, c2, c3, c4, c5, c6, c7, c8⟩ := (HA.out.fr hf).nine hx
        obtain ⟨d0, d1, d2, d3, d4, d5, d6, d7, d8⟩ := (HA.out.fr hf).nine hy
        have HM := hid (fun (W : World) => cmp23_calls W y x)
        have HF := hid hf
        have hF0 := Fr.refl wr (fun _ => False)
        obtain ⟨iN, hiN⟩ : ∃ q, q = t + 1 := ⟨_, rfl⟩
        rw [← hiN] at d0 d1 d2 d3 d4 d5 d6 d7 d8
        have hqz : ((t + 1 : Nat) : Int) = (t : Int) + 1 := by omega
        rw [hqz]
        have ea : ((t : Int) + 1).toNat = iN := by omega
        have pa : (0 : Int) ≤ (t : Int) + 1 := by omega
        have pb : (0 : Int) < (t : Int) + 1 := by omega
        have ba : (t : Int) + 1 < (N : Int) := by omega
        have ra : IntKind.i64.wrap ((t : Int) + 1) = (t : Int) + 1 := IntWalk.i64_in _ (by omega)
        have rb : IntKind.i64.wrap (t : Int) = (t : Int) := IntWalk.i64_in _ (by omega)
        have bb : (t : Int) < (N : Int) := by omega
        have pc : (0 : Int) ≤ (t : Int) := by omega
        have HIN := hid hiN
        by_cases hc : wrap64 (y.a - x.a) < 0
        · have HQ := hid (HNO.out t x y hx hy (by omega))
          have hd : decide (wrap64 (y.a - x.a) < 0) = true := decide_eq_true hc
          clear hs hx hy hf hqz hiN hc
          obtain ⟨xa, xb, xc, xk, xt, xn, xp, xq, xr⟩ := x
          obtain ⟨ya, yb, yc, yk, yt, yn, yp, yq, yr⟩ := y
          unfold En.V enV at HM
          simp only at c0 c1 c2 c3 c4 c5 c6 c7 c8 d0 d1 d2 d3 d4 d5 d6 d7 d8 HM hd
          go_wp2_with fail
          go_region_held3 (fun W => W.cell? ⟨b, off + t * 9, none⟩ = some (.int .i64 xa) ∧ W.cell? ⟨b, off + t * 9 + 1, none⟩ = some (.int .i64 xb) ∧ W.cell? ⟨b, off + t * 9 + 2, none⟩ = some (.int .i64 xc) ∧ W.cell? ⟨b, off + t * 9 + 3, none⟩ = some (.int .i64 xk) ∧ W.cell? ⟨b, off + t * 9 + 4, none⟩ = some (.int .i64 xt) ∧ W.cell? ⟨b, off + t * 9 + 5, none⟩ = some (.int .i64 xn) ∧ W.cell? ⟨b, off + t * 9 + 6, none⟩ = some (.string xp) ∧ W.cell? ⟨b, off + t * 9 + 7, none⟩ = some (.string xq) ∧ W.cell? ⟨b, off + t * 9 + 8, none⟩ = some (.string xr) ∧
              W.cell? ⟨b, off + iN * 9, none⟩ = some (.int .i64 ya) ∧ W.cell? ⟨b, off + iN * 9 + 1, none⟩ = some (.int .i64 yb) ∧ W.cell? ⟨b, off + iN * 9 + 2, none⟩ = some (.int .i64 yc) ∧ W.cell? ⟨b, off + iN * 9 + 3, none⟩ = some (.int .i64 yk) ∧ W.cell? ⟨b, off + iN * 9 + 4, none⟩ = some (.int .i64 yt) ∧ W.cell? ⟨b, off + iN * 9 + 5, none⟩ = some (.int .i64 yn) ∧ W.cell? ⟨b, off + iN * 9 + 6, none⟩ = some (.string yp) ∧ W.cell? ⟨b, off + iN * 9 + 7, none⟩ = some (.string yq) ∧ W.cell? ⟨b, off + iN * 9 + 8, none⟩ = some (.string yr) ∧ Fr wr W (fun _ => False))
            (first | assumption | exact ⟨c0, c1, c2, c3, c4, c5, c6, c7, c8, d0, d1, d2, d3, d4, d5, d6, d7, d8, hF0⟩ | exact ⟨c0, c1, c2, c3, c4, c5, c6, c7, c8, d0, d1, d2, d3, d4, d5, d6, d7, d8, hF0.drew⟩ | exact keep18b (by assumption) (by assumption))
            (first | (go_at_call 18; refine (HM.out _).mono ?_; rintro e w9 ⟨rfl, hf9⟩))
          go_wp2_with fail
          go_ret
          exact ⟨ret_b HQ.out.symm, HF.out.trans (by first | exact hf9 | exact hF0.drew.trans hf9)⟩
        · have HT := hid (HS.out t x y hx hy hs (by omega))
          have hd : decide (wrap64 (y.a - x.a) < 0) = false := decide_eq_false hc
          clear hs hx hy hf hqz hiN hc
          obtain ⟨xa, xb, xc, xk, xt, xn, xp, xq, xr⟩ := x
          obtain ⟨ya, yb, yc, yk, yt, yn, yp, yq, yr⟩ := y
          unfold En.V enV at HM
          simp only at c0 c1 c2 c3 c4 c5 c6 c7 c8 d0 d1 d2 d3 d4 d5 d6 d7 d8 HM hd
          go_wp2_with fail
          go_region_held3 (fun W => W.cell? ⟨b, off + t * 9, none⟩ = some (.int .i64 xa) ∧ W.cell? ⟨b, off + t * 9 + 1, none⟩ = some (.int .i64 xb) ∧ W.cell? ⟨b, off + t * 9 + 2, none⟩ = some (.int .i64 xc) ∧ W.cell? ⟨b, off + t * 9 + 3, none⟩ = some (.int .i64 xk) ∧ W.cell? ⟨b, off + t * 9 + 4, none⟩ = some (.int .i64 xt) ∧ W.cell? ⟨b, off + t * 9 + 5, none⟩ = some (.int .i64 xn) ∧ W.cell? ⟨b, off + t * 9 + 6, none⟩ = some (.string xp) ∧ W.cell? ⟨b, off + t * 9 + 7, none⟩ = some (.string xq) ∧ W.cell? ⟨b, off + t * 9 + 8, none⟩ = some (.string xr) ∧
              W.cell? ⟨b, off + iN * 9, none⟩ = some (.int .i64 ya) ∧ W.cell? ⟨b, off + iN * 9 + 1, none⟩ = some (.int .i64 yb) ∧ W.cell? ⟨b, off + iN * 9 + 2, none⟩ = some (.int .i64 yc) ∧ W.cell? ⟨b, off + iN * 9 + 3, none⟩ = some (.int .i64 yk) ∧ W.cell? ⟨b, off + iN * 9 + 4, none⟩ = some (.int .i64 yt) ∧ W.cell? ⟨b, off + iN * 9 + 5, none⟩ = some (.int .i64 yn) ∧ W.cell? ⟨b, off + iN * 9 + 6, none⟩ = some (.string yp) ∧ W.cell? ⟨b, off + iN * 9 + 7, none⟩ = some (.string yq) ∧ W.cell? ⟨b, off + iN * 9 + 8, none⟩ = some (.string yr) ∧ Fr wr W (fun _ => False))
            (first | assumption | exact ⟨c0, c1, c2, c3, c4, c5, c6, c7, c8, d0, d1, d2, d3, d4, d5, d6, d7, d8, hF0⟩ | exact ⟨c0, c1, c2, c3, c4, c5, c6, c7, c8, d0, d1, d2, d3, d4, d5, d6, d7, d8, hF0.drew⟩ | exact keep18b (by assumption) (by assumption))
            (first | (go_at_call 18; refine (HM.out _).mono ?_; rintro e w9 ⟨rfl, hf9⟩))
          go_wp2_with fail
          go_round
          case rel => exact ⟨t, by omega, by go_num, HT.out, HF.out.trans (by first | exact hf9 | exact hF0.drew.trans hf9)⟩
          case measure => simp [intOf]
end Go.Proofs.Ytmnmmmoeeapeiaa.Cw

