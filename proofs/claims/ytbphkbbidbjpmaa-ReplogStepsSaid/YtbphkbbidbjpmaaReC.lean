/- Are lists of entries the same; which begins with which. Own work. -/
import Derived.Test.YtbphkbbidbjpmaaReB
import Derived.BigQuiet
namespace Go.Proofs.Ytbphkbbidbjpmaa.Cw
open Go.RowKit
set_option linter.unusedVariables false
set_option linter.unusedSimpArgs false

deriving instance DecidableEq for En
theorem Lg.sv {w : World} {g : Nat} {v : Value} {es : List En} (h : Lg w g v es) : Sv w v es := by
  rcases h.2.2 with ⟨rfl, h0⟩ | ⟨g', cap, cur, rfl, hb, hg, h1, h2, hr⟩
  · exact ⟨none, 0, by rw [h0], by omega, by unfold maxLen; omega, fun hn => absurd (List.eq_nil_of_length_eq_zero h0) hn⟩
  · refine ⟨_, cap, rfl, h1, h2, fun hn => ⟨g', 0, rfl, blk_lt hg, fun i x hx j u hu => ?_⟩⟩
    have hc : ∀ j u, (es.flatMap En.cells)[j]? = some u → w.cell? ((⟨g', 0, none⟩ : Addr).add j) = some u := h.2.cells (g := g') rfl
    have hj : j < 9 := (List.getElem?_eq_some_iff.1 hu).1
    have := hc (i * 9 + j) u ((en_flat es i x j hx hj).trans hu)
    rw [Addr.add_mid, Nat.zero_add] at this
    rw [Nat.zero_add]
    exact this

/-- The nine cells of an entry in memory. -/
theorem EsAt.nine {w : World} {b off : Nat} {l : List En} (h : EsAt w b off l) {i : Nat} {x : En} (hx : l[i]? = some x) :
    w.cell? ⟨b, off + i * 9, none⟩ = some (.int .i64 x.a) ∧ w.cell? ⟨b, off + i * 9 + 1, none⟩ = some (.int .i64 x.b) ∧ w.cell? ⟨b, off + i * 9 + 2, none⟩ = some (.int .i64 x.c) ∧ w.cell? ⟨b, off + i * 9 + 3, none⟩ = some (.int .i64 x.k) ∧ w.cell? ⟨b, off + i * 9 + 4, none⟩ = some (.int .i64 x.t) ∧ w.cell? ⟨b, off + i * 9 + 5, none⟩ = some (.int .i64 x.n) ∧ w.cell? ⟨b, off + i * 9 + 6, none⟩ = some (.string x.p) ∧ w.cell? ⟨b, off + i * 9 + 7, none⟩ = some (.string x.q) ∧ w.cell? ⟨b, off + i * 9 + 8, none⟩ = some (.string x.r) :=
  ⟨h i x hx 0 _ rfl, h i x hx 1 _ rfl, h i x hx 2 _ rfl, h i x hx 3 _ rfl, h i x hx 4 _ rfl, h i x hx 5 _ rfl, h i x hx 6 _ rfl, h i x hx 7 _ rfl, h i x hx 8 _ rfl⟩

theorem take_step {l m : List En} {i : Nat} {x y : En} (hx : l[i]? = some x) (hy : m[i]? = some y) (h : l.take i = m.take i) : (l.take (i + 1) = m.take (i + 1)) ↔ x = y := by
  obtain ⟨hl, hx⟩ := List.getElem?_eq_some_iff.1 hx
  obtain ⟨hm, hy⟩ := List.getElem?_eq_some_iff.1 hy
  rw [List.take_succ_eq_append_getElem hl, List.take_succ_eq_append_getElem hm, h, hx, hy]
  simp

theorem eq9_of {x y : En} (h : x ≠ y) : eq9 x.a x.b x.c x.k x.t x.n x.p x.q x.r y.a y.b y.c y.k y.t y.n y.p y.q y.r = false := by
  refine decide_eq_false ?_
  intro h2
  apply h
  obtain ⟨a, b, c, k, t, n, p, q, r⟩ := x
  obtain ⟨a', b', c', k', t', n', p', q', r'⟩ := y
  simp only at h2
  obtain ⟨rfl, rfl, rfl, rfl, rfl, rfl, rfl, rfl, rfl⟩ := h2
  rfl

attribute [local go_sem ↓ high] eqEn
set_option maxRecDepth 100000 in
set_option maxHeartbeats 6400000 in
theorem entries_calls (w : World) (v u : Value) (l m : List En) (hl : Sv w v l) (hm : Sv w u m) (hn : l.length ≤ 4611686018427387904) (hn2 : m.length ≤ 4611686018427387904) :
    Calls Try.prog 19 #[v, u] w fun e w' => e = .returned (.bool (decide (l = m))) ∧ Fr w w' (fun _ => False) := by
  obtain ⟨A, cap, rfl, h1, h2, h3⟩ := hl
  obtain ⟨B, cap2, rfl, k1, k2, k3⟩ := hm
  by_cases hlen : l.length = m.length
  · by_cases h0 : l.length = 0
    · have e1 : l = [] := List.eq_nil_of_length_eq_zero h0
      have e2 : m = [] := List.eq_nil_of_length_eq_zero (by omega)
      subst e1 e2
      clear h1 h2 h3 k1 k2 k3
      simp only [List.length_nil]
      go_enter Try.func19, Try.ntmps19
      go_wp2_with fail
      refine wp_loop_rounds 1 ?_
      rw [rounds_succ]
      go_wp2_with fail
      go_ret
      exact ⟨rfl, Fr.refl w _⟩
    · obtain ⟨b, off, rfl, hb, HA⟩ := h3 (fun e => h0 (by rw [e]; rfl))
      obtain ⟨b2, off2, rfl, hb2, HB⟩ := k3 (fun e => h0 (by rw [hlen, e]; rfl))
      have HA := hid HA
      have HB := hid HB
      have HL := hid hlen
      have HX := hid (fun (i : Nat) (hi : i < l.length) => (⟨_, List.getElem?_eq_getElem hi⟩ : ∃ x, l[i]? = some x))
      have HY := hid (fun (i : Nat) (hi : i < m.length) => (⟨_, List.getElem?_eq_getElem hi⟩ : ∃ x, m[i]? = some x))
      have HE := hid (fun (h : l.take l.length = m.take l.length) => (by rwa [List.take_length, hlen, List.take_length] at h : l = m))
      generalize hQ : decide (l = m) = Q at *
      have HQ := hid hQ
      clear hQ h3 k3 h0
      rw [← hlen] at k1 HY hn2 ⊢
      clear hlen
      generalize hN : l.length = N at *
      have HN := hid hN
      clear hN
      go_enter Try.func19, Try.ntmps19
      go_wp2_with fail
      go_loopw [13] (fun t wr => ∃ i : Nat, i ≤ N ∧ t = .int .i64 i ∧ l.take i = m.take i ∧ Fr w wr (fun _ => False)) (fun t _ => N - (intOf t).toNat)
      case atStart => exact ⟨0, by omega, rfl, by simp, Fr.refl w _⟩
      case round =>
        obtain ⟨i, hi, rfl, ht, hf⟩ := hrel
        by_cases hlt : i < N
        · obtain ⟨x, hx⟩ := HX.out i hlt
          obtain ⟨y, hy⟩ := HY.out i hlt
          obtain ⟨a0, a1, a2, a3, a4, a5, a6, a7, a8⟩ := (HA.out.fr hf).nine hx
          obtain ⟨c0, c1, c2, c3, c4, c5, c6, c7, c8⟩ := (HB.out.fr hf).nine hy
          by_cases hxy : x = y
          · have HT := hid ((take_step hx hy ht).2 hxy)
            have HF := hid hf
            subst hxy
            clear ht hx hy hf
            obtain ⟨a, b, c, k, t, n, p, q, r⟩ := x
            simp only at a0 a1 a2 a3 a4 a5 a6 a7 a8 c0 c1 c2 c3 c4 c5 c6 c7 c8
            have E9 := eq9_yes a b c k t n p q r
            go_wp2_with fail
            go_quiet (fail)
            go_wp2_with fail
            go_round
            case rel => exact ⟨i + 1, by omega, by go_num, HT.out, by first | exact HF.out | exact HF.out.drewN _⟩
            case measure => simp [intOf]; omega
          · have HQ2 : Hid (Q = false) := hid (by
              have h9 := HQ.out
              rw [← h9]
              refine decide_eq_false ?_
              intro e
              apply hxy
              rw [e] at hx
              exact Option.some.inj (hx.symm.trans hy))
            have E9 := eq9_of hxy
            have HF := hid hf
            clear ht hx hy hf hxy
            obtain ⟨a, b, c, k, t, n, p, q, r⟩ := x
            obtain ⟨a', b', c', k', t', n', p', q', r'⟩ := y
            simp only at a0 a1 a2 a3 a4 a5 a6 a7 a8 c0 c1 c2 c3 c4 c5 c6 c7 c8 E9
            go_wp2_with fail
            go_quiet (fail)
            go_wp2_with fail
            go_ret
            exact ⟨ret_b HQ2.out.symm, by first | exact HF.out | exact HF.out.drewN _⟩
        · have he : i = N := by omega
          subst he
          have HQ2 : Hid (Q = true) := hid (by rw [← HQ.out]; exact decide_eq_true (HE.out ht))
          have HF := hid hf
          clear ht hf
          go_wp2_with fail
          go_ret
          exact ⟨ret_b HQ2.out.symm, HF.out⟩
  · have hq : decide (l = m) = false := decide_eq_false (fun e => hlen (by rw [e]))
    have hd : ((l.length : Int) == m.length) = false := by rw [beq_eq_false_iff_ne]; omega
    rw [hq]
    generalize l.length = N at *
    generalize m.length = M at *
    clear h3 k3
    go_enter Try.func19, Try.ntmps19
    go_wp2_with fail
    go_ret
    exact ⟨rfl, Fr.refl w _⟩
end Go.Proofs.Ytbphkbbidbjpmaa.Cw
