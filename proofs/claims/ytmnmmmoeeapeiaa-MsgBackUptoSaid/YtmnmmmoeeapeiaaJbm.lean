/- read, behind its six numbers. Written by mkmgs.py. Own work. -/
import Derived.Test.YtmnmmmoeeapeiaaJbj
import Derived.Test.YtmnmmmoeeapeiaaJbl
import Derived.Deep.AppendLies
import Derived.Deep.Cut
import Derived.Deep.RegionHeld3
import Derived.Test.YtmnmmmoeeapeiaaJar
namespace Go.Proofs.Ytmnmmmoeeapeiaa.Cw
open Go.RowKit
set_option linter.unusedVariables false
set_option linter.unusedSimpArgs false

theorem six_rest {t t6 : ByteArray} {v1 v2 v3 v4 v5 v6 : Nat} (h : Six t v1 v2 v3 v4 v5 v6 t6) : t.extract (t.size - t6.size) t.size = t6 := by
  have h1 := h.list
  have h2 := congrArg List.length h1
  rw [ba_len, List.length_append, ba_len] at h2
  apply ByteArray.ext
  apply Array.toList_inj.1
  rw [ext_list, h1, h2, Nat.add_sub_cancel, List.drop_left]
/-- What read answers. -/
def ReadP (s : ByteArray) (w : World) (e : Ending) (w' : World) : Prop :=
  Fr w w' (fun _ => False) ∧ ((e = .panicked brk ∧ NoEnc s) ∨ ∃ (k v n a c : Int) (u : Value) (l : List En), e = .returned (.agg #[.int .i64 k, .int .i64 v, .int .i64 n, .int .i64 a, .int .i64 c, u]) ∧ w'.ownsRow w.heap.size 52 9 u l.length (l.flatMap En.cells) ∧ Enc s k v n a c l)

set_option maxRecDepth 100000 in
set_option maxHeartbeats 3200000 in
theorem read_yes (w : World) (s t : ByteArray) (ho : opE s = 0) (hs : s.size ≤ 70368744177664) (ht : opS s = t) (htz : t.size ≤ 70368744177664) (v1 v2 v3 v4 v5 v6 : Nat) (t1 t2 t3 t4 t5 t6 : ByteArray) (E1 : rdN 9 127 t 0 = (v1, 0, t1, 0)) (E2 : rdN 9 127 t1 0 = (v2, 0, t2, 0)) (E3 : rdN 9 127 t2 0 = (v3, 0, t3, 0)) (E4 : rdN 9 127 t3 0 = (v4, 0, t4, 0)) (E5 : rdN 9 127 t4 0 = (v5, 0, t5, 0)) (E6 : rdN 9 127 t5 0 = (v6, 0, t6, 0)) (hm : v6 ≤ t.size) (hss : s.size ≤ 60000) :
    Calls Try.prog 25 #[.string s] w fun e w' => ReadP s w e w' := by
  have OC := hid (fun (W : World) => open_calls W s hs)
  rw [ho, ht] at OC
  have hmf : ∀ (fn : Fn) (first cap : Array Value) (w : World), (Instr.makeFunc fn first cap).run Try.prog w = .ok (.func fn first cap) w := fun _ _ _ _ => rfl
  have z1 := rdN_size 9 127 t 0
  rw [E1] at z1
  simp only at z1
  have N1 := hid (fun (W : World) (rc g : Nat) (hrc : W.cell? ⟨rc, 0, none⟩ = some (.pointer (some ⟨g, 0, none⟩))) (h : Rd W g t 0) => num_yes W rc g t v1 t1 hrc h (by unfold maxLen; omega) E1)
  have z2 := rdN_size 9 127 t1 0
  rw [E2] at z2
  simp only at z2
  have N2 := hid (fun (W : World) (rc g : Nat) (hrc : W.cell? ⟨rc, 0, none⟩ = some (.pointer (some ⟨g, 0, none⟩))) (h : Rd W g t1 0) => num_yes W rc g t1 v2 t2 hrc h (by unfold maxLen; omega) E2)
  have z3 := rdN_size 9 127 t2 0
  rw [E3] at z3
  simp only at z3
  have N3 := hid (fun (W : World) (rc g : Nat) (hrc : W.cell? ⟨rc, 0, none⟩ = some (.pointer (some ⟨g, 0, none⟩))) (h : Rd W g t2 0) => num_yes W rc g t2 v3 t3 hrc h (by unfold maxLen; omega) E3)
  have z4 := rdN_size 9 127 t3 0
  rw [E4] at z4
  simp only at z4
  have N4 := hid (fun (W : World) (rc g : Nat) (hrc : W.cell? ⟨rc, 0, none⟩ = some (.pointer (some ⟨g, 0, none⟩))) (h : Rd W g t3 0) => num_yes W rc g t3 v4 t4 hrc h (by unfold maxLen; omega) E4)
  have z5 := rdN_size 9 127 t4 0
  rw [E5] at z5
  simp only at z5
  have N5 := hid (fun (W : World) (rc g : Nat) (hrc : W.cell? ⟨rc, 0, none⟩ = some (.pointer (some ⟨g, 0, none⟩))) (h : Rd W g t4 0) => num_yes W rc g t4 v5 t5 hrc h (by unfold maxLen; omega) E5)
  have z6 := rdN_size 9 127 t5 0
  rw [E6] at z6
  simp only at z6
  have N6 := hid (fun (W : World) (rc g : Nat) (hrc : W.cell? ⟨rc, 0, none⟩ = some (.pointer (some ⟨g, 0, none⟩))) (h : Rd W g t5 0) => num_yes W rc g t5 v6 t6 hrc h (by unfold maxLen; omega) E6)
  have H6 : Hid (Six t v1 v2 v3 v4 v5 v6 t6) := hid ⟨t1, t2, t3, t4, t5, E1, E2, E3, E4, E5, E6⟩
  have HO := hid ho
  have HT := hid ht
  have HTZ : Hid (s.size = t.size + 4) := hid (by have := (open_ok ho).2; rw [ht] at this; exact this)
  have dm : decide (v6 ≤ t.size) = true := decide_eq_true hm
  have Z6 : Hid (t6.size ≤ t.size) := hid (by omega)
  have HS6 := hid hss
  have HVM := hid hm
  clear ho hs ht hm hss E1 z1 E2 z2 E3 z3 E4 z4 E5 z5 E6 z6
  go_enter Try.func25, Try.ntmps25
  go_wp2_with (first
    | (go_at_call 40; refine (OC.out _).mono ?_; rintro e w1 ⟨rfl, hf1⟩)
    | (go_at_call 41; refine (must_yes _).mono ?_; rintro e w2 ⟨rfl, rfl⟩)
    | (go_at_call 42; refine (of_calls _ t).mono ?_; rintro e w3 ⟨rfl, hr, hf3⟩))
  have hA3 := hf1.trans hf3
  have hgs := hf1.size
  have HRB := hid (alloc_new w (.cells #[.int .i64 0, .int .i64 0, .int .i64 0, .int .i64 0, .int .i64 0, .slice none 0 0] 24))
  have HFQ := hid ((Fr.refl w (fun _ => False)).alloc (.cells #[.int .i64 0, .int .i64 0, .int .i64 0, .int .i64 0, .int .i64 0, .slice none 0 0] 24))
  generalize w.alloc (.cells #[.int .i64 0, .int .i64 0, .int .i64 0, .int .i64 0, .int .i64 0, .slice none 0 0] 24) = wq at *
  have hlt := blk_lt hr
  have hrc0 := cell_blk (alloc_new w3 (.cells #[.pointer (some ⟨w2.heap.size, 0, none⟩)] 92)) 0
  simp only [List.getElem?_toArray, List.getElem?_cons_zero, List.getElem?_cons_succ] at hrc0
  have hr0 : Rd (w3.alloc (.cells #[.pointer (some ⟨w2.heap.size, 0, none⟩)] 92)) w2.heap.size t 0 := (Below.heap_alloc _ _ _ hlt).trans hr
  have hA0 := hA3.alloc (.cells #[.pointer (some ⟨w2.heap.size, 0, none⟩)] 92)
  have hl0 := blk_lt (alloc_new w3 (.cells #[.pointer (some ⟨w2.heap.size, 0, none⟩)] 92))
  have hne : ¬ w3.heap.size = w2.heap.size := by omega
  clear hA3 hf1 hf3 hr hlt
  generalize w3.alloc (.cells #[.pointer (some ⟨w2.heap.size, 0, none⟩)] 92) = u0 at *
  generalize w3.heap.size = rc at *
  generalize w2.heap.size = g at *
  refine (N1.out _ rc g hrc0 hr0).mono ?_
  rintro e u1 ⟨rfl, hr1, hf1⟩
  have hrc1 := cell_ne hrc0 hf1 hl0 hne
  have hl1 : rc < u1.heap.size := Nat.lt_of_lt_of_le hl0 hf1.size
  have hA1 := hA0.fresh hf1 (fun i hi => by subst hi; exact hgs)
  clear hrc0 hr0 hf1 hl0 hA0
  go_wp2_with fail
  refine (N2.out _ rc g hrc1 hr1).mono ?_
  rintro e u2 ⟨rfl, hr2, hf2⟩
  have hrc2 := cell_ne hrc1 hf2 hl1 hne
  have hl2 : rc < u2.heap.size := Nat.lt_of_lt_of_le hl1 hf2.size
  have hA2 := hA1.fresh hf2 (fun i hi => by subst hi; exact hgs)
  clear hrc1 hr1 hf2 hl1 hA1
  go_wp2_with fail
  refine (N3.out _ rc g hrc2 hr2).mono ?_
  rintro e u3 ⟨rfl, hr3, hf3⟩
  have hrc3 := cell_ne hrc2 hf3 hl2 hne
  have hl3 : rc < u3.heap.size := Nat.lt_of_lt_of_le hl2 hf3.size
  have hA3 := hA2.fresh hf3 (fun i hi => by subst hi; exact hgs)
  clear hrc2 hr2 hf3 hl2 hA2
  go_wp2_with fail
  refine (N4.out _ rc g hrc3 hr3).mono ?_
  rintro e u4 ⟨rfl, hr4, hf4⟩
  have hrc4 := cell_ne hrc3 hf4 hl3 hne
  have hl4 : rc < u4.heap.size := Nat.lt_of_lt_of_le hl3 hf4.size
  have hA4 := hA3.fresh hf4 (fun i hi => by subst hi; exact hgs)
  clear hrc3 hr3 hf4 hl3 hA3
  go_wp2_with fail
  refine (N5.out _ rc g hrc4 hr4).mono ?_
  rintro e u5 ⟨rfl, hr5, hf5⟩
  have hrc5 := cell_ne hrc4 hf5 hl4 hne
  have hl5 : rc < u5.heap.size := Nat.lt_of_lt_of_le hl4 hf5.size
  have hA5 := hA4.fresh hf5 (fun i hi => by subst hi; exact hgs)
  clear hrc4 hr4 hf5 hl4 hA4
  go_wp2_with fail
  have hgm : g < u5.heap.size := blk_lt hr5
  have hmb := alloc_new u5 (.cells #[.int .i64 v1, .int .i64 v2, .int .i64 v3, .int .i64 v4, .int .i64 v5, .slice none 0 0] 24)
  have hrc5 := (World.cell?_of_block (Below.heap_alloc u5 (.cells #[.int .i64 v1, .int .i64 v2, .int .i64 v3, .int .i64 v4, .int .i64 v5, .slice none 0 0] 24) rc hl5)).trans hrc5
  have hr5 : Rd (u5.alloc (.cells #[.int .i64 v1, .int .i64 v2, .int .i64 v3, .int .i64 v4, .int .i64 v5, .slice none 0 0] 24)) g t5 0 := (Below.heap_alloc _ _ _ (blk_lt hr5)).trans hr5
  have hl5 : rc < (u5.alloc (.cells #[.int .i64 v1, .int .i64 v2, .int .i64 v3, .int .i64 v4, .int .i64 v5, .slice none 0 0] 24)).heap.size := by simp; omega
  have hA5 := hA5.alloc (.cells #[.int .i64 v1, .int .i64 v2, .int .i64 v3, .int .i64 v4, .int .i64 v5, .slice none 0 0] 24)
  generalize u5.alloc (.cells #[.int .i64 v1, .int .i64 v2, .int .i64 v3, .int .i64 v4, .int .i64 v5, .slice none 0 0] 24) = um at *
  refine (N6.out _ rc g hrc5 hr5).mono ?_
  rintro e u6 ⟨rfl, hr6, hf6⟩
  have hrc6 := cell_ne hrc5 hf6 hl5 hne
  have hl6 : rc < u6.heap.size := Nat.lt_of_lt_of_le hl5 hf6.size
  have hA6 := hA5.fresh hf6 (fun i hi => by subst hi; exact hgs)
  have hmb6 := hf6.at_ hmb (fun x => absurd x (by omega))
  have hmlt := blk_lt hmb6
  clear hmb
  clear hrc5 hr5 hf6 hl5 hA5
  go_wp2_with fail
  clear N1 N2 N3 N4 N5 N6 OC hl5 hr5 hrc5 hA5
  have LC := left_calls u6 g t6 0 hr6 (by have := Z6.out; unfold maxLen; omega)
  have HX : Hid (t.extract (t.size - t6.size) t.size = t6) := hid (six_rest H6.out)
  have hb1 : t6.size ≤ t.size := Z6.out
  have htz2 : t.size ≤ 60000 := by have := HTZ.out; have := HS6.out; omega
  generalize hz6 : t6.size = z6 at *
  generalize hzt : t.size = zt at *
  go_wp2_with (first
    | (go_at_call 41; refine (must_yes _).mono ?_; rintro e w2 ⟨rfl, rfl⟩)
    | (go_at_call 45; refine LC.mono ?_; rintro e w' ⟨rfl, rfl⟩))
  rw [HX.out]
  have hmge : wq.heap.size ≤ u5.heap.size := by omega
  have HM0 : Hid (Mg 24 wq.heap.size u5.heap.size v1 v2 v3 v4 v5 w2 (.slice none 0 0) []) := hid (Mg.new hmb6)
  have HF0 := hid hA6
  have hv6 : v6 ≤ 60000 := by have := HVM.out; omega
  have HZ6 : Hid (z6 ≤ 60000) := hid (by omega)
  clear hmb6 hA6 hmlt LC hr6 hrc6 hl6 hgm hgs hne dm htz2 htz hb1
  generalize u5.heap.size = mb at *
  have hT : ¬ (24 : TypeId) = 52 := by decide
  go_loopw [9, 51] (fun rv t wr => ∃ (i : Nat) (m : List En) (rest : ByteArray) (u : Value), i ≤ v6 ∧ t = .int .i64 i ∧ rv = .string rest ∧ Fr wq wr (fun _ => False) ∧ Mg 24 wq.heap.size mb v1 v2 v3 v4 v5 wr u m ∧ Rdd t6 i m rest) (fun _ t _ => v6 - (intOf t).toNat)
  case atStart => exact ⟨0, [], t6, _, by omega, rfl, rfl, HF0.out, HM0.out, Rdd.zero t6⟩
  case round =>
    obtain ⟨i, m, rest, u, hi, rfl, rfl, hf, hmg, hrd⟩ := hrel
    have hsz := hrd.size
    rw [hz6] at hsz
    by_cases hlt : i < v6
    · obtain ⟨x, q, f, D1, _, hq, hyes, hno⟩ := dec_full rest
      have DC := hid (fun (W : World) => D1 (by have := HZ6.out; unfold maxLen; omega) W)
      have hrs : rest.size ≤ 60000 := by have := HZ6.out; omega
      by_cases hf0 : f = 0
      · subst hf0
        obtain ⟨hR, hO, hl⟩ := hyes rfl
        have HN := hid (hrd.next hR hO hl)
        have HF := hid hf
        have HMG := hid hmg
        have HLM : Hid (m.length = i) := hid hrd.1
        clear hyes hno D1 hf hmg hrd hR hO hl hsz
        obtain ⟨xa, xb, xc, xk, xt, xn, xp, xq, xr⟩ := x
        unfold En.V enV at DC
        simp only at DC
        go_upto_region 13 with (first
          | (go_at_call 46
             refine (DC.out _).mono ?_
             rintro e wd ⟨rfl, hfd⟩
             have hFD := HF.out.trans hfd
             have hMD := HMG.out.fr hfd)
          | (go_at_call 41; refine (must_yes _).mono ?_; rintro e w2 ⟨rfl, rfl⟩))
        have hnew := alloc_new wd (.cells #[.int .i64 xa, .int .i64 xb, .int .i64 xc, .int .i64 xk, .int .i64 xt, .int .i64 xn, .string xp, .string xq, .string xr] 52)
        have d0 := cell_blk hnew 0
        have d1 := cell_blk hnew 1
        have d2 := cell_blk hnew 2
        have d3 := cell_blk hnew 3
        have d4 := cell_blk hnew 4
        have d5 := cell_blk hnew 5
        have d6 := cell_blk hnew 6
        have d7 := cell_blk hnew 7
        have d8 := cell_blk hnew 8
        simp only [List.getElem?_toArray, List.getElem?_cons_zero, List.getElem?_cons_succ] at d0 d1 d2 d3 d4 d5 d6 d7 d8
        have HFW := hid (hFD.alloc (.cells #[.int .i64 xa, .int .i64 xb, .int .i64 xc, .int .i64 xk, .int .i64 xt, .int .i64 xn, .string xp, .string xq, .string xr] 52))
        have HMW := hid (hMD.alloc (.cells #[.int .i64 xa, .int .i64 xb, .int .i64 xc, .int .i64 xk, .int .i64 xt, .int .i64 xn, .string xp, .string xq, .string xr] 52))
        have c5 := HMW.out.six.2.2.2.2.2
        clear hnew hFD hMD hfd HF HMG DC
        generalize wd.alloc (.cells #[.int .i64 xa, .int .i64 xb, .int .i64 xc, .int .i64 xk, .int .i64 xt, .int .i64 xn, .string xp, .string xq, .string xr] 52) = W at *
        generalize wd.heap.size = H at *
        obtain ⟨i0, hi0, hz0, hz1, hz2⟩ := info_parts info_en
        have HB : Hid (wq.heap.size ≤ W.heap.size) := hid HFW.out.size
        go_wp2_with (at_builtin; refine wpList_append_lies _ rfl _ _ 22 rfl wq.heap.size 52 i0 _ 9 96 Try.underlying22 hi0 hz0 hz1 hz2 rfl (by decide) u m.length (m.flatMap En.cells) (by rfl) (HMW.out.2.alloc _) ⟨W.heap.size, 0, none⟩ 1 1 (En.cells ⟨xa, xb, xc, xk, xt, xn, xp, xq, xr⟩) (by rfl) (by rfl) (World.news_of_block (cs := #[.int .i64 xa, .int .i64 xb, .int .i64 xc, .int .i64 xk, .int .i64 xt, .int .i64 xn, .string xp, .string xq, .string xr]) (t := 52) (fr := (0, 0)) (alloc_new W _)) (by simp [Value.oneCell', En.cells]) (by omega) (by have := HLM.out; unfold maxLen; omega) (by have := HLM.out; omega) (by have := HB.out; simp; omega) (W.heap.size + 1) (by simp) ?_; intro gg cap w4 hown4 hgrow hat hlt4; obtain ⟨b4, c4, f4⟩ := Mg.grown hT (HMW.out.alloc _) hgrow)
        have HP := hid (Mg.push (x := ⟨xa, xb, xc, xk, xt, xn, xp, xq, xr⟩) hT (HMW.out.alloc _) hown4 hgrow)
        have HPF := hid (Mg.pushFr (u' := .slice (some ⟨gg, 0, none⟩) (m.length + 1) cap) (HMW.out.alloc _) (HFW.out.alloc _) hmge hgrow)
        go_roundw
        case rel => exact ⟨i + 1, _, _, _, by omega, by go_num, rfl, HPF.out, HP.out, HN.out⟩
        case measure => simp [intOf]; omega
      · have hne0 : (f == 0) = false := beq_eq_false_iff_ne.2 hf0
        have NE := hid (no_entry HS6.out HT.out H6.out hrd hlt (hno hf0))
        have HF := hid hf
        clear hyes hno D1 hf hmg hrd hsz hf0
        obtain ⟨xa, xb, xc, xk, xt, xn, xp, xq, xr⟩ := x
        unfold En.V enV at DC
        simp only at DC
        go_wp2_with (first
          | (go_at_call 46; refine (DC.out _).mono ?_; rintro e wd ⟨rfl, hfd⟩)
          | (go_at_call 41; refine (must_no _).mono ?_; rintro e w2 ⟨rfl, rfl⟩))
        exact ⟨rfl, HFQ.out.trans ((HF.out.trans hfd).alloc _), .inl ⟨rfl, NE.out⟩⟩
    · have he : i = v6 := by omega
      subst he
      have HF := hid hf
      by_cases h0 : rest.size = 0
      · have e5 := empty_of rest h0
        have EC := hid (fun (W : World) (hfW : Fr wr W (fun _ => False)) => encode23_calls W v1 v2 v3 v4 v5 u m ((hmg.fr hfW).sv) hrd.ok (by have := hrd.1; omega) (hb_of hrd.ok (by have := hrd.1; omega)))
        have HBAD : Hid (¬ (enE v1 v2 v3 v4 v5 m = 0 ∧ enS v1 v2 v3 v4 v5 m = s) → NoEnc s) := hid (fun h k v n a c l hE => h (of_enc (only_one hE HS6.out HT.out H6.out hrd) HS6.out))
        have HGOOD : Hid (enE v1 v2 v3 v4 v5 m = 0 ∧ enS v1 v2 v3 v4 v5 m = s → Enc s v1 v2 v3 v4 v5 m) := hid (fun h => by
          have := (enc_of hrd.ok h.1).1
          rwa [h.2] at this)
        obtain ⟨y0, y1, y2, y3, y4, y5⟩ := hmg.six
        have HMG := hid hmg
        obtain ⟨A, cap, hu, _⟩ := hmg.sv
        clear hmg hrd h0 hsz hf
        generalize enE v1 v2 v3 v4 v5 m = EN at *
        generalize enS v1 v2 v3 v4 v5 m = ES at *
        subst hu
        by_cases hEN : EN = 0
        · subst hEN
          by_cases hES : ES = s
          · have HG := hid (HGOOD.out ⟨rfl, hES⟩)
            rw [hES] at EC
            clear HBAD HGOOD hES
            have e7 : (s.toList == s.toList) = true := by simp
            go_wp2_with (first
              | (go_at_call 7; refine (EC.out _ (Fr.refl _ _)).mono ?_; rintro e we ⟨rfl, hfe⟩; obtain ⟨z0, z1, z2, z3, z4, z5⟩ := (HMG.out.fr hfe).six; have hB := (HF.out.trans hfe).at_ HRB.out (fun x => x); obtain ⟨r0, r1, r2, r3, r4, r5⟩ := cells6 hB; obtain ⟨q0, q1, q2, q3, q4, q5⟩ := free6 hB)
              | (go_at_call 41; refine (must_yes _).mono ?_; rintro e w9 ⟨rfl, rfl⟩))
            have hlq := blk_lt HRB.out
            have hF9 := fr6m w9 w.heap.size (.int .i64 v1) (.int .i64 v2) (.int .i64 v3) (.int .i64 v4) (.int .i64 v5) (.slice A m.length cap)
            refine bodyPost_ret (results_mgm rfl _ _ _ rfl (loadMgm (set6m _ _ _ _ _ _ hB))) rfl ?_
            refine ⟨(HFQ.out.trans (HF.out.trans hfe)).fresh hF9 (fun i hi => by omega), .inr ⟨_, _, _, _, _, _, m, rfl, ownsRow_base (ownsRow_frS (HMG.out.fr hfe).2 hF9 (fun b hb => ?_)) HFQ.out.size, HG.out⟩⟩
            have := (HMG.out).own hb
            omega
          · have HNE := hid (HBAD.out (fun e => hES e.2))
            have e7 : (ES.toList == s.toList) = false := by
              rw [beq_eq_false_iff_ne]
              intro e
              exact hES (ba_toList_inj e)
            clear HBAD HGOOD hES
            go_wp2_with (first
              | (go_at_call 7; refine (EC.out _ (Fr.refl _ _)).mono ?_; rintro e we ⟨rfl, hfe⟩)
              | (go_at_call 41; refine (must_yes _).mono ?_; rintro e w2 ⟨rfl, rfl⟩)
              | (go_at_call 41; refine (must_no _).mono ?_; rintro e w2 ⟨rfl, rfl⟩))
            exact ⟨rfl, HFQ.out.trans (HF.out.trans hfe), .inl ⟨rfl, HNE.out⟩⟩
        · have HNE := hid (HBAD.out (fun e => hEN e.1))
          have e7 : (EN == 0) = false := beq_eq_false_iff_ne.2 hEN
          clear HBAD HGOOD hEN
          go_wp2_with (first
            | (go_at_call 7; refine (EC.out _ (Fr.refl _ _)).mono ?_; rintro e we ⟨rfl, hfe⟩)
            | (go_at_call 41; refine (must_yes _).mono ?_; rintro e w2 ⟨rfl, rfl⟩)
            | (go_at_call 41; refine (must_no _).mono ?_; rintro e w2 ⟨rfl, rfl⟩))
          exact ⟨rfl, HFQ.out.trans (HF.out.trans hfe), .inl ⟨rfl, HNE.out⟩⟩
      · have e5 := full_of rest h0
        have HNE := hid (no_rest HS6.out HT.out H6.out hrd h0)
        clear hmg hrd h0 hsz hf
        go_wp2_with (first
          | (go_at_call 41; refine (must_no _).mono ?_; rintro e w2 ⟨rfl, rfl⟩))
        exact ⟨rfl, HFQ.out.trans HF.out, .inl ⟨rfl, HNE.out⟩⟩
end Go.Proofs.Ytmnmmmoeeapeiaa.Cw

