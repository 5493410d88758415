/- Which log begins with which. Own work. -/
import Derived.Test.YtbphkbbidbjpmaaReC
import Derived.Test.YtbphkbbidbjpmaaRpH
namespace Go.Proofs.Ytbphkbbidbjpmaa.Cw
open Go.RowKit
set_option linter.unusedVariables false
set_option linter.unusedSimpArgs false

/-- Does the first list begin with the second? -/
def bg (l m : List En) : Bool := decide (l.take m.length = m)
theorem bg_short {l m : List En} (h : l.length < m.length) : bg l m = false := by
  refine decide_eq_false ?_
  intro e
  have := congrArg List.length e
  rw [List.length_take] at this
  omega
theorem bg_nil (l : List En) : bg l [] = true := decide_eq_true (by simp)
theorem bg_all {l m : List En} (h : l.take m.length = m.take m.length) : bg l m = true := decide_eq_true (by rwa [List.take_length] at h)
theorem bg_no {l m : List En} {i : Nat} {x y : En} (hx : l[i]? = some x) (hy : m[i]? = some y) (h : x ≠ y) : bg l m = false := by
  refine decide_eq_false ?_
  intro e
  have hi := (List.getElem?_eq_some_iff.1 hy).1
  have h2 : (l.take m.length)[i]? = m[i]? := by rw [e]
  rw [List.getElem?_take, if_pos hi, hx, hy] at h2
  exact h (Option.some.inj h2)

attribute [local go_sem ↓ high] eqEn
set_option maxRecDepth 100000 in
set_option maxHeartbeats 6400000 in
theorem begins_calls (w : World) (g g2 : Nat) (v u : Value) (l m : List En) (hl : Lg w g v l) (hm : Lg w g2 u m) (hn : l.length ≤ 4611686018427387904) :
    Calls Try.prog 16 #[.pointer (some ⟨g, 0, none⟩), .pointer (some ⟨g2, 0, none⟩)] w fun e w' => e = .returned (.bool (bg l m)) ∧ Fr w w' (fun _ => False) := by
  by_cases hlen : l.length < m.length
  · rw [bg_short hlen]
    refine (begins_long w g g2 v u l m hl hm hlen).mono ?_
    rintro e w' ⟨rfl, rfl⟩
    exact ⟨rfl, Fr.refl w _⟩
  · by_cases h0 : m = []
    · subst h0
      rw [bg_nil]
      refine (begins_none w g g2 v u l hl hm).mono ?_
      rintro e w' ⟨rfl, rfl⟩
      exact ⟨rfl, Fr.refl w _⟩
    · have hp : 0 < m.length := by
        rcases Nat.eq_zero_or_pos m.length with h1 | h1
        · exact absurd (List.eq_nil_of_length_eq_zero h1) h0
        · exact h1
      have L1 := hid (len_calls w g v l hl)
      have L2 := hid (len_calls w g2 u m hm)
      have d1 := hl.c0
      have d2 := hm.c0
      obtain ⟨A, cap, rfl, h1, h2, h3⟩ := hl.sv
      obtain ⟨B, cap2, rfl, k1, k2, k3⟩ := hm.sv
      obtain ⟨b, off, rfl, hb, HA⟩ := h3 (fun e => hlen (by rw [e]; simpa using hp))
      obtain ⟨b2, off2, rfl, hb2, HB⟩ := k3 h0
      have HA := hid HA
      have HB := hid HB
      have HX := hid (fun (i : Nat) (hi : i < l.length) => (⟨_, List.getElem?_eq_getElem hi⟩ : ∃ x, l[i]? = some x))
      have HY := hid (fun (i : Nat) (hi : i < m.length) => (⟨_, List.getElem?_eq_getElem hi⟩ : ∃ x, m[i]? = some x))
      have HE := hid (fun (h : l.take m.length = m.take m.length) => bg_all h)
      have HNO := hid (fun (i : Nat) (x y : En) (hx : l[i]? = some x) (hy : m[i]? = some y) (h : x ≠ y) => bg_no hx hy h)
      generalize bg l m = Q at *
      have d1 := hid d1
      have d2 := hid d2
      have hd : decide ((l.length : Int) < m.length) = false := decide_eq_false (by omega)
      have hle : m.length ≤ l.length := by omega
      clear h3 k3 h0 hlen hl hm
      generalize l.length = N at *
      generalize m.length = M at *
      go_enter Try.func16, Try.ntmps16
      go_wp2_with (first | (go_at_call_of 18 (Value.pointer (some ⟨g2, 0, none⟩)); refine (L2.out).mono ?_; rintro e w' ⟨rfl, rfl⟩) | (go_at_call_of 18 (Value.pointer (some ⟨g, 0, none⟩)); refine (L1.out).mono ?_; rintro e w' ⟨rfl, rfl⟩))
      go_loopw [13] (fun t wr => ∃ i : Nat, i ≤ M ∧ t = .int .i64 i ∧ l.take i = m.take i ∧ Fr w wr (fun _ => False)) (fun t _ => M - (intOf t).toNat)
      case atStart => exact ⟨0, by omega, rfl, by simp, Fr.refl w _⟩
      case round =>
        obtain ⟨i, hi, rfl, ht, hf⟩ := hrel
        by_cases hlt : i < M
        · obtain ⟨x, hx⟩ := HX.out i (by omega)
          obtain ⟨y, hy⟩ := HY.out i hlt
          obtain ⟨a0, a1, a2, a3, a4, a5, a6, a7, a8⟩ := (HA.out.fr hf).nine hx
          obtain ⟨c0, c1, c2, c3, c4, c5, c6, c7, c8⟩ := (HB.out.fr hf).nine hy
          have dd1 := cell_fr d1.out hf
          have dd2 := cell_fr d2.out hf
          by_cases hxy : x = y
          · have HT := hid ((take_step hx hy ht).2 hxy)
            have HF := hid hf
            subst hxy
            clear ht hx hy hf
            obtain ⟨a, b, c, k, t, n, p, q, r⟩ := x
            simp only at a0 a1 a2 a3 a4 a5 a6 a7 a8 c0 c1 c2 c3 c4 c5 c6 c7 c8
            have E9 := eq9_yes a b c k t n p q r
            go_wp2_with fail
            go_quiet (fail)
            go_wp2_with fail
            go_round
            case rel => exact ⟨i + 1, by omega, by go_num, HT.out, by first | exact HF.out | exact HF.out.drewN _⟩
            case measure => simp [intOf]; omega
          · have HQ2 := hid (HNO.out i x y hx hy hxy)
            have E9 := eq9_of hxy
            have HF := hid hf
            clear ht hx hy hf hxy
            obtain ⟨a, b, c, k, t, n, p, q, r⟩ := x
            obtain ⟨a', b', c', k', t', n', p', q', r'⟩ := y
            simp only at a0 a1 a2 a3 a4 a5 a6 a7 a8 c0 c1 c2 c3 c4 c5 c6 c7 c8 E9
            go_wp2_with fail
            go_quiet (fail)
            go_wp2_with fail
            go_ret
            exact ⟨ret_b HQ2.out.symm, by first | exact HF.out | exact HF.out.drewN _⟩
        · have he : i = M := by omega
          subst he
          have HQ2 := hid (HE.out ht)
          have HF := hid hf
          clear ht hf
          go_wp2_with fail
          go_ret
          exact ⟨ret_b HQ2.out.symm, HF.out⟩

set_option maxRecDepth 100000 in
set_option maxHeartbeats 6400000 in
theorem refBegins_calls (w : World) (v u : Value) (l m : List En) (hl : Sv w v l) (hm : Sv w u m) (hn : l.length ≤ 4611686018427387904) (hn2 : m.length ≤ 4611686018427387904) :
    Calls Try.prog 17 #[v, u] w fun e w' => e = .returned (.bool (bg l m)) ∧ Fr w w' (fun _ => False) := by
  obtain ⟨A, cap, rfl, h1, h2, h3⟩ := hl
  obtain ⟨B, cap2, rfl, k1, k2, k3⟩ := hm
  by_cases h0 : m = []
  · subst h0
    rw [bg_nil]
    clear h1 h2 h3 k1 k2 k3
    simp only [List.length_nil]
    go_enter Try.func17, Try.ntmps17
    go_wp2_with fail
    refine wp_loop_rounds 1 ?_
    rw [rounds_succ]
    go_wp2_with fail
    go_ret
    exact ⟨rfl, Fr.refl w _⟩
  · obtain ⟨b2, off2, rfl, hb2, HB⟩ := k3 h0
    have HA := hid (fun (i : Nat) (hi : i < l.length) => h3 (fun e => by rw [e] at hi; simp at hi))
    have HB := hid HB
    have HX := hid (fun (i : Nat) (hi : i < l.length) => (⟨_, List.getElem?_eq_getElem hi⟩ : ∃ x, l[i]? = some x))
    have HY := hid (fun (i : Nat) (hi : i < m.length) => (⟨_, List.getElem?_eq_getElem hi⟩ : ∃ x, m[i]? = some x))
    have HE := hid (fun (h : l.take m.length = m.take m.length) => bg_all h)
    have HNO := hid (fun (i : Nat) (x y : En) (hx : l[i]? = some x) (hy : m[i]? = some y) (h : x ≠ y) => bg_no hx hy h)
    have HSH := hid (fun (h : l.length < m.length) => bg_short h)
    generalize bg l m = Q at *
    clear h3 k3 h0
    generalize l.length = N at *
    generalize m.length = M at *
    go_enter Try.func17, Try.ntmps17
    go_wp2_with fail
    go_loopw [9] (fun t wr => ∃ i : Nat, i ≤ M ∧ t = .int .i64 i ∧ l.take i = m.take i ∧ Fr w wr (fun _ => False)) (fun t _ => M - (intOf t).toNat)
    case atStart => exact ⟨0, by omega, rfl, by simp, Fr.refl w _⟩
    case round =>
      obtain ⟨i, hi, rfl, ht, hf⟩ := hrel
      by_cases hlt : i < M
      · obtain ⟨y, hy⟩ := HY.out i hlt
        obtain ⟨c0, c1, c2, c3, c4, c5, c6, c7, c8⟩ := (HB.out.fr hf).nine hy
        by_cases hin : i < N
        · obtain ⟨b, off, rfl, hb, HA1⟩ := HA.out i hin
          obtain ⟨x, hx⟩ := HX.out i hin
          have HA1 := HA1.fr hf
          have hd : decide (N ≤ i) = false := decide_eq_false (by omega)
          have HAW := hid (fun (o : Obj) => (HA1.fr ((Fr.refl wr (fun _ => False)).alloc o)).nine hx)
          clear HA1
          by_cases hxy : x = y
          · have HT := hid ((take_step hx hy ht).2 hxy)
            have HF := hid hf
            subst hxy
            clear ht hx hy hf
            obtain ⟨a, b, c, k, t, n, p, q, r⟩ := x
            simp only at HAW c0 c1 c2 c3 c4 c5 c6 c7 c8
            have E9 := eq9_yes a b c k t n p q r
            go_wp2_with fail
            obtain ⟨a0, a1, a2, a3, a4, a5, a6, a7, a8⟩ := HAW.out (.cells #[.int .i64 a, .int .i64 b, .int .i64 c, .int .i64 k, .int .i64 t, .int .i64 n, .string p, .string q, .string r] 25)
            have hnew := alloc_new wr (.cells #[.int .i64 a, .int .i64 b, .int .i64 c, .int .i64 k, .int .i64 t, .int .i64 n, .string p, .string q, .string r] 25)
            have e0 := cell_blk hnew 0
            have e1 := cell_blk hnew 1
            have e2 := cell_blk hnew 2
            have e3 := cell_blk hnew 3
            have e4 := cell_blk hnew 4
            have e5 := cell_blk hnew 5
            have e6 := cell_blk hnew 6
            have e7 := cell_blk hnew 7
            have e8 := cell_blk hnew 8
            simp only [List.getElem?_toArray, List.getElem?_cons_zero, List.getElem?_cons_succ] at e0 e1 e2 e3 e4 e5 e6 e7 e8
            have HF := hid (HF.out.alloc (.cells #[.int .i64 a, .int .i64 b, .int .i64 c, .int .i64 k, .int .i64 t, .int .i64 n, .string p, .string q, .string r] 25))
            clear hnew
            generalize wr.alloc (.cells #[.int .i64 a, .int .i64 b, .int .i64 c, .int .i64 k, .int .i64 t, .int .i64 n, .string p, .string q, .string r] 25) = W at *
            generalize wr.heap.size = H at *
            go_quiet (fail)
            go_wp2_with fail
            go_round
            case rel => exact ⟨i + 1, by omega, by go_num, HT.out, by first | exact HF.out | exact HF.out.drewN _ | exact HF.out.alloc _ | exact (HF.out.alloc _).drewN _⟩
            case measure => simp [intOf]; omega
          · have HQ2 := hid (HNO.out i x y hx hy hxy)
            have E9 := eq9_of hxy
            have HF := hid hf
            clear ht hx hy hf hxy
            obtain ⟨a, b, c, k, t, n, p, q, r⟩ := x
            obtain ⟨a', b', c', k', t', n', p', q', r'⟩ := y
            simp only at HAW c0 c1 c2 c3 c4 c5 c6 c7 c8 E9
            go_wp2_with fail
            obtain ⟨a0, a1, a2, a3, a4, a5, a6, a7, a8⟩ := HAW.out (.cells #[.int .i64 a', .int .i64 b', .int .i64 c', .int .i64 k', .int .i64 t', .int .i64 n', .string p', .string q', .string r'] 25)
            have hnew := alloc_new wr (.cells #[.int .i64 a', .int .i64 b', .int .i64 c', .int .i64 k', .int .i64 t', .int .i64 n', .string p', .string q', .string r'] 25)
            have e0 := cell_blk hnew 0
            have e1 := cell_blk hnew 1
            have e2 := cell_blk hnew 2
            have e3 := cell_blk hnew 3
            have e4 := cell_blk hnew 4
            have e5 := cell_blk hnew 5
            have e6 := cell_blk hnew 6
            have e7 := cell_blk hnew 7
            have e8 := cell_blk hnew 8
            simp only [List.getElem?_toArray, List.getElem?_cons_zero, List.getElem?_cons_succ] at e0 e1 e2 e3 e4 e5 e6 e7 e8
            have HF := hid (HF.out.alloc (.cells #[.int .i64 a', .int .i64 b', .int .i64 c', .int .i64 k', .int .i64 t', .int .i64 n', .string p', .string q', .string r'] 25))
            clear hnew
            generalize wr.alloc (.cells #[.int .i64 a', .int .i64 b', .int .i64 c', .int .i64 k', .int .i64 t', .int .i64 n', .string p', .string q', .string r'] 25) = W at *
            generalize wr.heap.size = H at *
            go_quiet (fail)
            go_wp2_with fail
            go_ret
            exact ⟨ret_b HQ2.out.symm, by first | exact HF.out | exact HF.out.drewN _ | exact HF.out.alloc _ | exact (HF.out.alloc _).drewN _⟩
        · have hd : decide (N ≤ i) = true := decide_eq_true (by omega)
          have HQ2 := hid (HSH.out (by omega))
          have HF := hid hf
          clear ht hy hf
          obtain ⟨a', b', c', k', t', n', p', q', r'⟩ := y
          simp only at c0 c1 c2 c3 c4 c5 c6 c7 c8
          go_wp2_with fail
          go_quiet (fail)
          go_wp2_with fail
          go_ret
          exact ⟨ret_b HQ2.out.symm, by first | exact HF.out | exact HF.out.drewN _ | exact HF.out.alloc _ | exact (HF.out.alloc _).drewN _⟩
      · have he : i = M := by omega
        subst he
        have HQ2 := hid (HE.out ht)
        have HF := hid hf
        clear ht hf
        go_wp2_with fail
        go_ret
        exact ⟨ret_b HQ2.out.symm, HF.out⟩
end Go.Proofs.Ytbphkbbidbjpmaa.Cw
