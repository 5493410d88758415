/- The reference's Decode of a message. Written by mkmgv.py. Own work. -/
import Derived.Test.YtmnmmmoeeapeiaaJbo
namespace Go.Proofs.Ytmnmmmoeeapeiaa.Cw
open Go.RowKit
set_option linter.unusedVariables false
set_option linter.unusedSimpArgs false

theorem results_mx {fn : Func} {x y : Tmp} (h : fn.results = #[.cell x 31, .tmp y]) (tmps : Array Value) (w : World) (b : Nat) (hb : tmps.getD x undef = .pointer (some ⟨b, 0, none⟩)) {v0 v1 v2 v3 v4 v5 : Value} {T : TypeId}
    (hM : w.heap[b]? = some (.cells #[v0, v1, v2, v3, v4, v5] T (0, 0))) :
    (results fn tmps).run Try.prog w = .ok (.tuple #[.agg #[v0, v1, v2, v3, v4, v5], tmps.getD y undef]) w := by
  have hb' : tmps[x]?.getD undef = .pointer (some ⟨b, 0, none⟩) := by simpa using hb
  have hl := loadMg hM
  simp [results, h, hb', hl, Sem.run_bind, asAddr]

set_option maxRecDepth 100000 in
set_option maxHeartbeats 3200000 in
theorem refDecode23_long (w : World) (s : ByteArray) (hs : s.size ≤ maxLen) (hss : ¬ s.size ≤ 60000) :
    Calls Try.prog 13 #[.string s] w fun e w' => DecP s w e w' := by
  have hs9 := hs
  unfold maxLen at hs9
  have d1 : decide ((60000 : Int) < (s.size : Int)) = true := decide_eq_true (by omega)
  clear hs
  go_enter Try.func13, Try.ntmps13
  go_wp2_with fail
  have hM := alloc_new w (.cells #[.int .i64 0, .int .i64 0, .int .i64 0, .int .i64 0, .int .i64 0, .slice none 0 0] 31)
  refine bodyPost_ret (results_mx rfl _ _ _ rfl hM) rfl ?_
  exact ⟨(Fr.refl w _).alloc _, 0, 0, 0, 0, 0, _, [], 2, rfl, Sv.nil23 _, .inl ⟨by omega, rfl, rfl, rfl, rfl, rfl, rfl, rfl⟩⟩

set_option maxRecDepth 100000 in
set_option maxHeartbeats 3200000 in
theorem refDecode23_open (w : World) (s : ByteArray) (hss : s.size ≤ 60000) (ho : ¬ opE s = 0) :
    Calls Try.prog 13 #[.string s] w fun e w' => DecP s w e w' := by
  have d1 : decide ((60000 : Int) < (s.size : Int)) = false := decide_eq_false (by omega)
  have OC := hid (fun (W : World) => refOpen_calls W s (by omega))
  have HNE : Hid (NoEnc s) := hid (fun k v n a c l hE => ho (enc_open hE).1)
  generalize opE s = EE at *
  generalize opS s = OO at *
  have e1 : (EE == 0) = false := beq_eq_false_iff_ne.2 ho
  clear ho
  go_enter Try.func13, Try.ntmps13
  go_wp2_with (first
    | (go_at_call 31; refine (OC.out _).mono ?_; rintro e w1 ⟨rfl, hf1⟩; have hM := hf1.at_ (alloc_new w (.cells #[.int .i64 0, .int .i64 0, .int .i64 0, .int .i64 0, .int .i64 0, .slice none 0 0] 31)) (fun x => x); obtain ⟨r0, r1, r2, r3, r4, r5⟩ := cells6 hM; obtain ⟨q0, q1, q2, q3, q4, q5⟩ := free6 hM))
  refine bodyPost_ret (results_mx rfl _ _ _ rfl (set6m _ _ _ _ _ _ hM)) rfl ?_
  exact ⟨(((Fr.refl w _).alloc _).trans hf1).fresh (fr6m _ _ _ _ _ _ _ _) (fun i hi => by omega), 0, 0, 0, 0, 0, _, [], 4, rfl, Sv.nil23 _, .inr (.inl ⟨hss, rfl, HNE.out, rfl, rfl, rfl, rfl, rfl, rfl⟩)⟩

theorem six_err {t : ByteArray} {v1 v2 v3 v4 v5 v6 x1 x2 x3 x4 x5 x6 e1 e2 e3 e4 e5 e6 : Nat} {t1 t2 t3 t4 t5 t6 : ByteArray} (E1 : rdN 9 127 t 0 = (v1, x1, t1, e1)) (E2 : rdN 9 127 t1 e1 = (v2, x2, t2, e2)) (E3 : rdN 9 127 t2 e2 = (v3, x3, t3, e3)) (E4 : rdN 9 127 t3 e3 = (v4, x4, t4, e4)) (E5 : rdN 9 127 t4 e4 = (v5, x5, t5, e5)) (E6 : rdN 9 127 t5 e5 = (v6, x6, t6, e6)) (he : e6 = 0) : Six t v1 v2 v3 v4 v5 v6 t6 := by
  subst he
  obtain ⟨he, f6⟩ := rdN_err E6 rfl
  subst f6
  subst he
  obtain ⟨he, f5⟩ := rdN_err E5 rfl
  subst f5
  subst he
  obtain ⟨he, f4⟩ := rdN_err E4 rfl
  subst f4
  subst he
  obtain ⟨he, f3⟩ := rdN_err E3 rfl
  subst f3
  subst he
  obtain ⟨he, f2⟩ := rdN_err E2 rfl
  subst f2
  subst he
  obtain ⟨_, f1⟩ := rdN_err E1 rfl
  subst f1
  exact ⟨t1, t2, t3, t4, t5, E1, E2, E3, E4, E5, E6⟩
theorem six_no {s t : ByteArray} {v1 v2 v3 v4 v5 v6 x1 x2 x3 x4 x5 x6 e1 e2 e3 e4 e5 e6 : Nat} {t1 t2 t3 t4 t5 t6 : ByteArray} (E1 : rdN 9 127 t 0 = (v1, x1, t1, e1)) (E2 : rdN 9 127 t1 e1 = (v2, x2, t2, e2)) (E3 : rdN 9 127 t2 e2 = (v3, x3, t3, e3)) (E4 : rdN 9 127 t3 e3 = (v4, x4, t4, e4)) (E5 : rdN 9 127 t4 e4 = (v5, x5, t5, e5)) (E6 : rdN 9 127 t5 e5 = (v6, x6, t6, e6)) (hss : s.size ≤ 60000) (ht : opS s = t) (he : ¬ e6 = 0) : NoEnc s := by
  intro k v n a c l hE
  obtain ⟨u1, u2, u3, u4, u5, u6, F1, F2, F3, F4, F5, F6, _⟩ := enc_chain hE hss ht
  rw [E1] at F1
  simp only [Prod.mk.injEq] at F1
  obtain ⟨_, _, rfl, g1⟩ := F1
  subst g1
  rw [E2] at F2
  simp only [Prod.mk.injEq] at F2
  obtain ⟨_, _, rfl, g2⟩ := F2
  subst g2
  rw [E3] at F3
  simp only [Prod.mk.injEq] at F3
  obtain ⟨_, _, rfl, g3⟩ := F3
  subst g3
  rw [E4] at F4
  simp only [Prod.mk.injEq] at F4
  obtain ⟨_, _, rfl, g4⟩ := F4
  subst g4
  rw [E5] at F5
  simp only [Prod.mk.injEq] at F5
  obtain ⟨_, _, rfl, g5⟩ := F5
  subst g5
  rw [E6] at F6
  simp only [Prod.mk.injEq] at F6
  obtain ⟨_, _, rfl, g6⟩ := F6
  exact he g6
theorem six_many {s t t6 : ByteArray} {v1 v2 v3 v4 v5 v6 : Nat} (h6 : Six t v1 v2 v3 v4 v5 v6 t6) (hss : s.size ≤ 60000) (ht : opS s = t) (hm : t6.size < v6) : NoEnc s := by
  intro k v n a c l hE
  obtain ⟨_, _, _, _, _, hl, _, hrest⟩ := enc_key hE hss ht h6 (Rdd.zero t6) (Nat.zero_le _)
  have h9 := congrArg List.length hrest
  rw [ba_len, List.drop_zero] at h9
  have := jnB_pos l
  omega
theorem Six.size {t t6 : ByteArray} {v1 v2 v3 v4 v5 v6 : Nat} (h : Six t v1 v2 v3 v4 v5 v6 t6) : t6.size ≤ t.size := by
  have h2 := congrArg List.length h.list
  rw [ba_len, List.length_append, ba_len] at h2
  omega

set_option maxRecDepth 100000 in
set_option maxHeartbeats 6400000 in
theorem refDecode23_main (w : World) (s t : ByteArray) (hss : s.size ≤ 60000) (ho : opE s = 0) (ht : opS s = t) (v1 v2 v3 v4 v5 v6 x1 x2 x3 x4 x5 x6 e1 e2 e3 e4 e5 e6 : Nat) (t1 t2 t3 t4 t5 t6 : ByteArray) (E1 : rdN 9 127 t 0 = (v1, x1, t1, e1)) (E2 : rdN 9 127 t1 e1 = (v2, x2, t2, e2)) (E3 : rdN 9 127 t2 e2 = (v3, x3, t3, e3)) (E4 : rdN 9 127 t3 e3 = (v4, x4, t4, e4)) (E5 : rdN 9 127 t4 e4 = (v5, x5, t5, e5)) (E6 : rdN 9 127 t5 e5 = (v6, x6, t6, e6)) :
    Calls Try.prog 13 #[.string s] w fun e w' => DecP s w e w' := by
  have d1 : decide ((60000 : Int) < (s.size : Int)) = false := decide_eq_false (by omega)
  have OC := hid (fun (W : World) => refOpen_calls W s (by omega))
  rw [ho, ht] at OC
  have hst := (open_ok ho).2
  rw [ht] at hst
  have z1 := rdN_size 9 127 t 0
  rw [E1] at z1
  simp only at z1
  have z2 := rdN_size 9 127 t1 e1
  rw [E2] at z2
  simp only at z2
  have z3 := rdN_size 9 127 t2 e2
  rw [E3] at z3
  simp only at z3
  have z4 := rdN_size 9 127 t3 e3
  rw [E4] at z4
  simp only at z4
  have z5 := rdN_size 9 127 t4 e4
  rw [E5] at z5
  simp only at z5
  have z6 := rdN_size 9 127 t5 e5
  rw [E6] at z6
  simp only at z6
  have C1 := hid (fun (w : World) (g : Nat) (h : RR w g t 0) => qUint_calls w g t 0 h (by unfold maxLen; omega))
  rw [E1] at C1
  simp only at C1
  have C2 := hid (fun (w : World) (g : Nat) (h : RR w g t1 e1) => qUint_calls w g t1 e1 h (by unfold maxLen; omega))
  rw [E2] at C2
  simp only at C2
  have C3 := hid (fun (w : World) (g : Nat) (h : RR w g t2 e2) => qUint_calls w g t2 e2 h (by unfold maxLen; omega))
  rw [E3] at C3
  simp only at C3
  have C4 := hid (fun (w : World) (g : Nat) (h : RR w g t3 e3) => qUint_calls w g t3 e3 h (by unfold maxLen; omega))
  rw [E4] at C4
  simp only at C4
  have C5 := hid (fun (w : World) (g : Nat) (h : RR w g t4 e4) => qUint_calls w g t4 e4 h (by unfold maxLen; omega))
  rw [E5] at C5
  simp only at C5
  have C6 := hid (fun (w : World) (g : Nat) (h : RR w g t5 e5) => qUint_calls w g t5 e5 h (by unfold maxLen; omega))
  rw [E6] at C6
  simp only at C6
  have HNO : Hid (¬ e6 = 0 → NoEnc s) := hid (six_no E1 E2 E3 E4 E5 E6 hss ht)
  have HSX : Hid (e6 = 0 → Six t v1 v2 v3 v4 v5 v6 t6) := hid (six_err E1 E2 E3 E4 E5 E6)
  have HO := hid ho
  have HT := hid ht
  have HST := hid hst
  have HSS := hid hss
  clear ho ht hst hss E1 E2 E3 E4 E5 E6 z1 z2 z3 z4 z5 z6
  go_enter Try.func13, Try.ntmps13
  go_wp2_with (first
    | (go_at_call 31; refine (OC.out _).mono ?_; rintro e w1 ⟨rfl, hf1⟩))
  have HRB := hid (alloc_new w (.cells #[.int .i64 0, .int .i64 0, .int .i64 0, .int .i64 0, .int .i64 0, .slice none 0 0] 31))
  have HFQ := hid ((Fr.refl w (fun _ => False)).alloc (.cells #[.int .i64 0, .int .i64 0, .int .i64 0, .int .i64 0, .int .i64 0, .slice none 0 0] 31))
  have hgs := hf1.size
  have hA0 := hf1.alloc (.cells #[.string t, .int .i64 0] 72)
  have hr0 : RR (w1.alloc (.cells #[.string t, .int .i64 0] 72)) w1.heap.size t 0 := alloc_new w1 _
  clear hf1 OC
  generalize w.alloc (.cells #[.int .i64 0, .int .i64 0, .int .i64 0, .int .i64 0, .int .i64 0, .slice none 0 0] 31) = wq at *
  generalize w1.alloc (.cells #[.string t, .int .i64 0] 72) = u0 at *
  generalize w1.heap.size = g at *
  refine (C1.out _ g hr0).mono ?_
  rintro e u1 ⟨rfl, hr1, hf1⟩
  have hA1 := hA0.fresh hf1 (fun i hi => by subst hi; exact hgs)
  clear hr0 hf1 hA0 C1
  go_wp2_with fail
  refine (C2.out _ g hr1).mono ?_
  rintro e u2 ⟨rfl, hr2, hf2⟩
  have hA2 := hA1.fresh hf2 (fun i hi => by subst hi; exact hgs)
  clear hr1 hf2 hA1 C2
  go_wp2_with fail
  refine (C3.out _ g hr2).mono ?_
  rintro e u3 ⟨rfl, hr3, hf3⟩
  have hA3 := hA2.fresh hf3 (fun i hi => by subst hi; exact hgs)
  clear hr2 hf3 hA2 C3
  go_wp2_with fail
  refine (C4.out _ g hr3).mono ?_
  rintro e u4 ⟨rfl, hr4, hf4⟩
  have hA4 := hA3.fresh hf4 (fun i hi => by subst hi; exact hgs)
  clear hr3 hf4 hA3 C4
  go_wp2_with fail
  refine (C5.out _ g hr4).mono ?_
  rintro e u5 ⟨rfl, hr5, hf5⟩
  have hA5 := hA4.fresh hf5 (fun i hi => by subst hi; exact hgs)
  clear hr4 hf5 hA4 C5
  go_wp2_with fail
  refine (C6.out _ g hr5).mono ?_
  rintro e u6 ⟨rfl, hr6, hf6⟩
  have hA6 := hA5.fresh hf6 (fun i hi => by subst hi; exact hgs)
  clear hr5 hf6 hA5 C6
  go_upto_region 14 with fail
  have hmb := alloc_new u6 (.cells #[.int .i64 v1, .int .i64 v2, .int .i64 v3, .int .i64 v4, .int .i64 v5, .slice none 0 0] 31)
  have hr7 : RR (u6.alloc (.cells #[.int .i64 v1, .int .i64 v2, .int .i64 v3, .int .i64 v4, .int .i64 v5, .slice none 0 0] 31)) g t6 e6 := (Below.heap_alloc _ _ _ (blk_lt hr6)).trans hr6
  have hA7 := hA6.alloc (.cells #[.int .i64 v1, .int .i64 v2, .int .i64 v3, .int .i64 v4, .int .i64 v5, .slice none 0 0] 31)
  have hmge : wq.heap.size ≤ u6.heap.size := hA6.size
  clear hr6 hA6
  generalize u6.alloc (.cells #[.int .i64 v1, .int .i64 v2, .int .i64 v3, .int .i64 v4, .int .i64 v5, .slice none 0 0] 31) = W0 at *
  generalize u6.heap.size = mb at *
  have c1 := hr7.c1
  have c0 := hr7.c0
  have hB := hA7.at_ HRB.out (fun x => x)
  obtain ⟨r0, r1, r2, r3, r4, r5⟩ := cells6 hB; obtain ⟨q0, q1, q2, q3, q4, q5⟩ := free6 hB
  have HA7 := hid hA7
  by_cases he6 : e6 = 0
  case neg =>
    have d2 : ((e6 : Int) == 0) = false := by rw [beq_eq_false_iff_ne]; omega
    have HNE := hid (HNO.out he6)
    go_wp2_with fail
    refine bodyPost_ret (results_mx rfl _ _ _ rfl (set6m _ _ _ _ _ _ hB)) rfl ?_
    exact ⟨(HFQ.out.trans (HA7.out)).fresh (fr6m _ _ _ _ _ _ _ _) (fun i hi => by omega), 0, 0, 0, 0, 0, _, [], 4, rfl, Sv.nil23 _, .inr (.inl ⟨HSS.out, rfl, HNE.out, rfl, rfl, rfl, rfl, rfl, rfl⟩)⟩
  have H6 := hid (HSX.out he6)
  subst he6
  obtain ⟨zs, hzs⟩ : ∃ zs, s.size = zs := ⟨_, rfl⟩
  obtain ⟨zt, hzt⟩ : ∃ zt, t.size = zt := ⟨_, rfl⟩
  obtain ⟨z6, hz6⟩ : ∃ zt, t6.size = zt := ⟨_, rfl⟩
  have hsz6 := H6.out.size
  have hst := HST.out
  have hss := HSS.out
  rw [hzs, hzt] at hst
  rw [hz6, hzt] at hsz6
  have HZ6 := hid hz6
  by_cases hm : s.size < v6
  case pos =>
    have d2 : decide ((s.size : Int) < (v6 : Int)) = true := decide_eq_true (by omega)
    have HNE := hid (six_many H6.out HSS.out HT.out (by omega))
    go_wp2_with fail
    refine bodyPost_ret (results_mx rfl _ _ _ rfl (set6m _ _ _ _ _ _ hB)) rfl ?_
    exact ⟨(HFQ.out.trans (HA7.out)).fresh (fr6m _ _ _ _ _ _ _ _) (fun i hi => by omega), 0, 0, 0, 0, 0, _, [], 4, rfl, Sv.nil23 _, .inr (.inl ⟨HSS.out, rfl, HNE.out, rfl, rfl, rfl, rfl, rfl, rfl⟩)⟩
  have d2 : decide ((s.size : Int) < (v6 : Int)) = false := decide_eq_false (by omega)
  have hv6 : v6 ≤ 60000 := by omega
  have HZL : Hid (z6 ≤ 60000) := hid (by omega)
  have HM0 : Hid (Mg 31 wq.heap.size mb v1 v2 v3 v4 v5 W0 (.slice none 0 0) []) := hid (Mg.new hmb)
  have hT : ¬ (31 : TypeId) = 52 := by decide
  clear hst hss hsz6 hzs hzt hz6 hmb hr7 hB r0 r1 r2 r3 r4 r5 q0 q1 q2 q3 q4 q5 hA7
  go_wp2_with fail
  go_loopw [20, 21] (fun rv t wr => ∃ (i : Nat) (m : List En) (rest : ByteArray) (u : Value), i ≤ v6 ∧ t = .int .i64 i ∧ rv = .string rest ∧ Fr wq wr (fun _ => False) ∧ Mg 31 wq.heap.size mb v1 v2 v3 v4 v5 wr u m ∧ Rdd t6 i m rest) (fun _ t _ => v6 - (intOf t).toNat)
  case atStart => exact ⟨0, [], t6, _, by omega, rfl, rfl, HA7.out, HM0.out, Rdd.zero t6⟩
  case round =>
    obtain ⟨i, m, rest, u, hi, rfl, rfl, hf, hmg, hrd⟩ := hrel
    have hsz := hrd.size
    rw [HZ6.out] at hsz
    by_cases hlt : i < v6
    · obtain ⟨x, q, f, _, D1, hq, hyes, hno⟩ := dec_full rest
      have DC := hid (fun (W : World) => D1 (by have := HZL.out; unfold maxLen; omega) W)
      have hrs : rest.size ≤ 60000 := by have := HZL.out; omega
      have HF := hid hf
      have HMG := hid hmg
      by_cases hf0 : f = 0
      · subst hf0
        obtain ⟨hR, hO, hl⟩ := hyes rfl
        have HN := hid (hrd.next hR hO hl)
        have HLM : Hid (m.length = i) := hid hrd.1
        clear hyes hno D1 hf hmg hrd hR hO hl hsz
        obtain ⟨xa, xb, xc, xk, xt, xn, xp, xq, xr⟩ := x
        unfold En.V enV at DC
        simp only at DC
        go_upto_region 23 with (first
          | (go_at_call 33
             refine (DC.out _).mono ?_
             rintro e wd ⟨rfl, hfd⟩
             have hFD := HF.out.trans hfd
             have hMD := HMG.out.fr hfd))

        have hnew := alloc_new wd (.cells #[.int .i64 xa, .int .i64 xb, .int .i64 xc, .int .i64 xk, .int .i64 xt, .int .i64 xn, .string xp, .string xq, .string xr] 52)
        have d0 := cell_blk hnew 0
        have d1 := cell_blk hnew 1
        have d2 := cell_blk hnew 2
        have d3 := cell_blk hnew 3
        have d4 := cell_blk hnew 4
        have d5 := cell_blk hnew 5
        have d6 := cell_blk hnew 6
        have d7 := cell_blk hnew 7
        have d8 := cell_blk hnew 8
        simp only [List.getElem?_toArray, List.getElem?_cons_zero, List.getElem?_cons_succ] at d0 d1 d2 d3 d4 d5 d6 d7 d8
        have HFW := hid (hFD.alloc (.cells #[.int .i64 xa, .int .i64 xb, .int .i64 xc, .int .i64 xk, .int .i64 xt, .int .i64 xn, .string xp, .string xq, .string xr] 52))
        have HMW := hid (hMD.alloc (.cells #[.int .i64 xa, .int .i64 xb, .int .i64 xc, .int .i64 xk, .int .i64 xt, .int .i64 xn, .string xp, .string xq, .string xr] 52))
        have c5 := HMW.out.six.2.2.2.2.2
        clear hnew hFD hMD hfd HF HMG DC
        generalize wd.alloc (.cells #[.int .i64 xa, .int .i64 xb, .int .i64 xc, .int .i64 xk, .int .i64 xt, .int .i64 xn, .string xp, .string xq, .string xr] 52) = W at *
        generalize wd.heap.size = H at *
        obtain ⟨i0, hi0, hz0, hz1, hz2⟩ := info_parts info_en
        have HB : Hid (wq.heap.size ≤ W.heap.size) := hid HFW.out.size
        go_wp2_with (at_builtin; refine wpList_append_lies _ rfl _ _ 22 rfl wq.heap.size 52 i0 _ 9 96 Try.underlying22 hi0 hz0 hz1 hz2 rfl (by decide) u m.length (m.flatMap En.cells) (by rfl) (HMW.out.2.alloc _) ⟨W.heap.size, 0, none⟩ 1 1 (En.cells ⟨xa, xb, xc, xk, xt, xn, xp, xq, xr⟩) (by rfl) (by rfl) (World.news_of_block (cs := #[.int .i64 xa, .int .i64 xb, .int .i64 xc, .int .i64 xk, .int .i64 xt, .int .i64 xn, .string xp, .string xq, .string xr]) (t := 52) (fr := (0, 0)) (alloc_new W _)) (by simp [Value.oneCell', En.cells]) (by omega) (by have := HLM.out; unfold maxLen; omega) (by have := HLM.out; omega) (by have := HB.out; simp; omega) (W.heap.size + 1) (by simp) ?_; intro gg cap w4 hown4 hgrow hat hlt4; obtain ⟨b4, c4, f4⟩ := Mg.grown hT (HMW.out.alloc _) hgrow)
        have HP := hid (Mg.push (x := ⟨xa, xb, xc, xk, xt, xn, xp, xq, xr⟩) hT (HMW.out.alloc _) hown4 hgrow)
        have HPF := hid (Mg.pushFr (u' := .slice (some ⟨gg, 0, none⟩) (m.length + 1) cap) (HMW.out.alloc _) (HFW.out.alloc _) hmge hgrow)
        go_roundw
        case rel => exact ⟨i + 1, _, _, _, by omega, by go_num, rfl, HPF.out, HP.out, HN.out⟩
        case measure => simp [intOf]; omega
      · have NE := hid (no_entry HSS.out HT.out H6.out hrd hlt (hno hf0))
        clear hyes hno D1 hf hmg hrd hsz
        obtain ⟨xa, xb, xc, xk, xt, xn, xp, xq, xr⟩ := x
        unfold En.V enV at DC
        simp only at DC
        go_upto_region 21 with (first
          | (go_at_call 33; refine (DC.out _).mono ?_; rintro e wd ⟨rfl, hfd⟩))
        have hFX := (HF.out.trans hfd).alloc (.cells #[.int .i64 xa, .int .i64 xb, .int .i64 xc, .int .i64 xk, .int .i64 xt, .int .i64 xn, .string xp, .string xq, .string xr] 52)
        clear hfd HF HMG DC
        generalize wd.alloc (.cells #[.int .i64 xa, .int .i64 xb, .int .i64 xc, .int .i64 xk, .int .i64 xt, .int .i64 xn, .string xp, .string xq, .string xr] 52) = W at *
        have hB := hFX.at_ HRB.out (fun x => x)
        obtain ⟨r0, r1, r2, r3, r4, r5⟩ := cells6 hB; obtain ⟨q0, q1, q2, q3, q4, q5⟩ := free6 hB
        have d9 : (f == 0) = false := beq_eq_false_iff_ne.2 hf0
        go_wp2_with fail
        refine bodyPost_ret (results_mx rfl _ _ _ rfl (set6m _ _ _ _ _ _ hB)) rfl ?_
        exact ⟨(HFQ.out.trans (hFX)).fresh (fr6m _ _ _ _ _ _ _ _) (fun i hi => by omega), 0, 0, 0, 0, 0, _, [], 4, rfl, Sv.nil23 _, .inr (.inl ⟨HSS.out, rfl, NE.out, rfl, rfl, rfl, rfl, rfl, rfl⟩)⟩
    · have he : i = v6 := by omega
      subst he
      have HF := hid hf
      have hB := hf.at_ HRB.out (fun x => x)
      obtain ⟨r0, r1, r2, r3, r4, r5⟩ := cells6 hB; obtain ⟨q0, q1, q2, q3, q4, q5⟩ := free6 hB
      by_cases h0 : rest.size = 0
      · have e5 := empty_of rest h0
        have RC := hid (fun (W : World) (hfW : Fr wr W (fun _ => False)) => refRight23_calls W v1 v2 v3 v4 v5 u m ((hmg.fr hfW).sv) (by have := hrd.1; omega))
        obtain ⟨y0, y1, y2, y3, y4, y5⟩ := hmg.six
        have HMG := hid hmg
        obtain ⟨A, cap, hu, _⟩ := hmg.sv
        by_cases hM : okM v1 v2 v3 v4 v5 m = true
        · rw [hM] at RC
          have HG := hid (enc_right HO.out HT.out H6.out hrd h0 hM)
          clear hmg hrd h0 hsz hf hM hB r0 r1 r2 r3 r4 r5 q0 q1 q2 q3 q4 q5
          subst hu
          go_wp2_with (first
            | (go_at_call 27; refine (RC.out _ (Fr.refl _ _)).mono ?_; rintro e we ⟨rfl, hfe⟩; obtain ⟨z0, z1, z2, z3, z4, z5⟩ := (HMG.out.fr hfe).six; have hB := (HF.out.trans hfe).at_ HRB.out (fun x => x); obtain ⟨r0, r1, r2, r3, r4, r5⟩ := cells6 hB; obtain ⟨q0, q1, q2, q3, q4, q5⟩ := free6 hB))
          have hlq := blk_lt HRB.out
          have hF9 := fr6m we w.heap.size (.int .i64 v1) (.int .i64 v2) (.int .i64 v3) (.int .i64 v4) (.int .i64 v5) (.slice A m.length cap)
          refine bodyPost_ret (results_mx rfl _ _ _ rfl (set6m _ _ _ _ _ _ hB)) rfl ?_
          refine ⟨(HFQ.out.trans (HF.out.trans hfe)).fresh hF9 (fun i hi => by omega), _, _, _, _, _, _, m, 0, rfl, owns_sv (ownsRow_frS (HMG.out.fr hfe).2 hF9 (fun b hb => ?_)), .inr (.inr ⟨HSS.out, rfl, HG.out⟩)⟩
          have := (HMG.out).own hb
          omega
        · have HNE : Hid (NoEnc s) := hid (fun k v n a c l hE => hM (only_one hE HSS.out HT.out H6.out hrd).1)
          rw [Bool.not_eq_true] at hM
          rw [hM] at RC
          clear hmg hrd h0 hsz hf hM hB r0 r1 r2 r3 r4 r5 q0 q1 q2 q3 q4 q5
          subst hu
          go_wp2_with (first
            | (go_at_call 27; refine (RC.out _ (Fr.refl _ _)).mono ?_; rintro e we ⟨rfl, hfe⟩; have hB := (HF.out.trans hfe).at_ HRB.out (fun x => x); obtain ⟨r0, r1, r2, r3, r4, r5⟩ := cells6 hB; obtain ⟨q0, q1, q2, q3, q4, q5⟩ := free6 hB))
          refine bodyPost_ret (results_mx rfl _ _ _ rfl (set6m _ _ _ _ _ _ hB)) rfl ?_
          exact ⟨(HFQ.out.trans (HF.out.trans hfe)).fresh (fr6m _ _ _ _ _ _ _ _) (fun i hi => by omega), 0, 0, 0, 0, 0, _, [], 4, rfl, Sv.nil23 _, .inr (.inl ⟨HSS.out, rfl, HNE.out, rfl, rfl, rfl, rfl, rfl, rfl⟩)⟩
      · have e5 := full_of rest h0
        have HNE := hid (no_rest HSS.out HT.out H6.out hrd h0)
        clear hmg hrd h0 hsz hf
        go_wp2_with fail
        refine bodyPost_ret (results_mx rfl _ _ _ rfl (set6m _ _ _ _ _ _ hB)) rfl ?_
        exact ⟨(HFQ.out.trans (HF.out)).fresh (fr6m _ _ _ _ _ _ _ _) (fun i hi => by omega), 0, 0, 0, 0, 0, _, [], 4, rfl, Sv.nil23 _, .inr (.inl ⟨HSS.out, rfl, HNE.out, rfl, rfl, rfl, rfl, rfl, rfl⟩)⟩
theorem refDecode23_calls (w : World) (s : ByteArray) (hs : s.size ≤ maxLen) :
    Calls Try.prog 13 #[.string s] w fun e w' => DecP s w e w' := by
  by_cases hss : s.size ≤ 60000
  · by_cases ho : opE s = 0
    · obtain ⟨t, ht⟩ : ∃ t, opS s = t := ⟨_, rfl⟩
      obtain ⟨v1, x1, t1, e1, E1⟩ : ∃ v x t' e', rdN 9 127 t 0 = (v, x, t', e') := ⟨_, _, _, _, rfl⟩
      obtain ⟨v2, x2, t2, e2, E2⟩ : ∃ v x t' e', rdN 9 127 t1 e1 = (v, x, t', e') := ⟨_, _, _, _, rfl⟩
      obtain ⟨v3, x3, t3, e3, E3⟩ : ∃ v x t' e', rdN 9 127 t2 e2 = (v, x, t', e') := ⟨_, _, _, _, rfl⟩
      obtain ⟨v4, x4, t4, e4, E4⟩ : ∃ v x t' e', rdN 9 127 t3 e3 = (v, x, t', e') := ⟨_, _, _, _, rfl⟩
      obtain ⟨v5, x5, t5, e5, E5⟩ : ∃ v x t' e', rdN 9 127 t4 e4 = (v, x, t', e') := ⟨_, _, _, _, rfl⟩
      obtain ⟨v6, x6, t6, e6, E6⟩ : ∃ v x t' e', rdN 9 127 t5 e5 = (v, x, t', e') := ⟨_, _, _, _, rfl⟩
      exact refDecode23_main w s t hss ho ht v1 v2 v3 v4 v5 v6 x1 x2 x3 x4 x5 x6 e1 e2 e3 e4 e5 e6 t1 t2 t3 t4 t5 t6 E1 E2 E3 E4 E5 E6
    · exact refDecode23_open w s hss ho
  · exact refDecode23_long w s hs hss
end Go.Proofs.Ytmnmmmoeeapeiaa.Cw

