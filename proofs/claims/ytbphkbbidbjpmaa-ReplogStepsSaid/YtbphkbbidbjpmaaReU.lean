/- The reference's log: Replace, whatever it answers. Own work. -/
import Derived.Test.YtbphkbbidbjpmaaReT
namespace Go.Proofs.Ytbphkbbidbjpmaa.Cw
open Go.RowKit
set_option linter.unusedVariables false
set_option linter.unusedSimpArgs false

/-- The same as RP, of the reference's log. -/
def RQr (w : World) (g : Nat) (v : Value) (r : Int) (fs : List En) (e : Ending) (w' : World) : Prop := e = .returned (.int .i64 r) ∧ ∃ v', Lr w' g v' fs ∧ Fr w w' (fun i => i = g) ∧ Wn w v v'
theorem RQr.stay {w w' : World} {g : Nat} {v : Value} {es : List En} {r : Int} (h : Lr w g v es) (hf : Fr w w' (fun _ => False)) : RQr w g v r es (.returned (.int .i64 r)) w' :=
  ⟨rfl, v, h.heap hf, hf.mono (fun _ _ x => x.elim), Wn.refl w v⟩
theorem RQr.done {w w5 : World} {g : Nat} {v v' : Value} {es fs : List En} (h : Lr w5 g v es) (hf : Fr w w5 (fun _ => False)) (hW : WR w5 v' fs) (hw : Wn w v v') : RQr w g v 0 fs (.returned (.int .i64 0)) (w5.setCell ⟨g, 0, none⟩ v') :=
  ⟨rfl, v', Lr.put h.1 hW, Fr.set (S := fun i => i = g) (hf.mono (fun _ _ x => x.elim)) ⟨g, 0, none⟩ (fun _ => rfl) v', hw⟩

set_option maxRecDepth 100000 in
set_option maxHeartbeats 1600000 in
theorem rreplace_arg (w : World) (g : Nat) (v u : Value) (es : List En) (k : Int) (h : Lr w g v es) (hk : k < 0 ∨ (es.length : Int) < k) :
    Calls Try.prog 24 #[.pointer (some ⟨g, 0, none⟩), .int .i64 k, u] w fun e w' => e = .returned (.int .i64 1) ∧ Fr w w' (fun _ => False) := by
  obtain ⟨A, cap, rfl, _, _⟩ := h.shape
  have c0 := h.c0
  clear h
  generalize es.length = N at *
  by_cases h1 : k < 0
  · clear hk
    go_enter Try.func24, Try.ntmps24
    go_wp2
    go_ret
    exact ⟨rfl, Fr.refl w _⟩
  · have h2 : (N : Int) < k := by omega
    have h3 : 0 ≤ k := by omega
    clear hk
    go_enter Try.func24, Try.ntmps24
    go_wp2
    go_ret
    exact ⟨rfl, Fr.refl _ _⟩

set_option maxRecDepth 100000 in
set_option maxHeartbeats 3200000 in
theorem rreplace_form (w : World) (g : Nat) (v u : Value) (es ns : List En) (k : Nat) (h : Lr w g v es) (hk : k ≤ es.length) (hu : Sv w u ns) (hn : ns.length ≤ 4611686018427387904) (hes : es.length ≤ 4096) (hR : ¬ allR ns) :
    Calls Try.prog 24 #[.pointer (some ⟨g, 0, none⟩), .int .i64 k, u] w fun e w' => e = .returned (.int .i64 4) ∧ Fr w w' (fun _ => False) := by
  obtain ⟨A, cap, rfl, _, _⟩ := h.shape
  obtain ⟨B, ucap, rfl, u1, u2, u3⟩ := hu
  have c0 := h.c0
  have hnn : ns ≠ [] := by
    intro e
    subst e
    exact hR (by intro x hx; simp at hx)
  obtain ⟨b, off, rfl, hb, HA⟩ := u3 hnn
  have HA := hid HA
  have HX := hid (fun (i : Nat) (hi : i < ns.length) => (⟨_, List.getElem?_eq_getElem hi⟩ : ∃ x, ns[i]? = some x))
  have HS := hid (fun (i : Nat) (x : En) (hx : ns[i]? = some x) (hR : x.R) (h : allR (ns.take i)) => allR_step hx hR h)
  have HE := hid (fun (h : allR (ns.take ns.length)) => (by rw [List.take_length] at h; exact hR h : False))
  clear h u3 hnn hR
  generalize es.length = N at *
  generalize ns.length = M at *
  have hd : decide ((N : Int) < k) = false := decide_eq_false (by omega)
  have hd0 : decide ((k : Int) < 0) = false := decide_eq_false (by omega)
  have hdn : decide (N < k) = false := decide_eq_false (by omega)
  go_enter Try.func24, Try.ntmps24
  go_wp2_with fail
  go_loopw [24] (fun t wr => ∃ i : Nat, i ≤ M ∧ t = .int .i64 i ∧ allR (ns.take i) ∧ Fr w wr (fun _ => False)) (fun t _ => M - (intOf t).toNat)
  case atStart => exact ⟨0, by omega, rfl, by intro x hx; simp at hx, Fr.refl _ _⟩
  case round =>
    obtain ⟨i, hi, rfl, hs, hf⟩ := hrel
    by_cases hlt : i < M
    · obtain ⟨x, hx⟩ := HX.out i hlt
      obtain ⟨a0, a1, a2, a3, a4, a5, a6, a7, a8⟩ := (HA.out.fr hf).nine hx
      have HF := hid hf
      by_cases hxR : x.R
      · have HT := hid (HS.out i x hx hxR hs)
        have RC := hid (fun W => refRight_calls W x.a x.b x.c x.k x.t x.n x.p x.q x.r)
        rw [decide_eq_true (show Rt x.a x.b x.c x.p x.q x.r from hxR)] at RC
        clear hs hx hf hxR
        obtain ⟨a, b, c, k, t, n, p, q, r⟩ := x
        unfold enV at RC
        simp only at a0 a1 a2 a3 a4 a5 a6 a7 a8 RC
        go_wp2_with fail
        refine (RC.out _).mono ?_
        rintro e w2 ⟨rfl, hf2⟩
        go_wp2_with fail
        go_round
        case rel => exact ⟨i + 1, by omega, by go_num, HT.out, (HF.out.alloc _).trans hf2⟩
        case measure => simp [intOf]; omega
      · have RC := hid (fun W => refRight_calls W x.a x.b x.c x.k x.t x.n x.p x.q x.r)
        rw [decide_eq_false (show ¬ Rt x.a x.b x.c x.p x.q x.r from hxR)] at RC
        clear hs hx hf hxR
        obtain ⟨a, b, c, k, t, n, p, q, r⟩ := x
        unfold enV at RC
        simp only at a0 a1 a2 a3 a4 a5 a6 a7 a8 RC
        go_wp2_with fail
        refine (RC.out _).mono ?_
        rintro e w2 ⟨rfl, hf2⟩
        go_wp2_with fail
        go_ret
        exact ⟨rfl, (HF.out.alloc _).trans hf2⟩
    · have he : i = M := by omega
      subst he
      exact (HE.out hs).elim

theorem srt_take {l : List En} {t : Nat} {x y : En} (hx : l[t]? = some x) (hy : l[t + 1]? = some y) (h : srt (l.take (t + 1)) = true) (h2 : x.a ≤ y.a) : srt (l.take (t + 2)) = true := by
  obtain ⟨h1, e1⟩ := List.getElem?_eq_some_iff.1 hy
  rw [List.take_succ_eq_append_getElem h1, e1]
  refine srt_snoc _ y h ?_
  intro z hz
  rw [List.getLast?_eq_getElem?, List.length_take, Nat.min_eq_left (by omega), List.getElem?_take, if_pos (by omega), Nat.add_sub_cancel, hx] at hz
  injection hz with hz
  rw [← hz]
  exact h2

set_option maxRecDepth 100000 in
set_option maxHeartbeats 6400000 in
theorem rreplace_go (w : World) (g : Nat) (v u : Value) (es ns : List En) (k : Nat) (h : Lr w g v es) (hk : k ≤ es.length) (hu : Sv w u ns) (hn : ns.length ≤ 1466015503701) (hes : es.length ≤ 4096) (hR : allR ns) :
    Calls Try.prog 24 #[.pointer (some ⟨g, 0, none⟩), .int .i64 k, u] w (RQr w g v (rpE es k ns) (rpL es k ns)) := by
  have hE := rpE_of hk hR
  have hL : rpL es k ns = if rpE es k ns = 0 then es.take k ++ ns else es := by
    unfold rpL
    rw [Int.toNat_natCast]
  have hH := h
  obtain ⟨A, cap, rfl, hcap, _⟩ := h.shape
  have c0 := h.c0
  have HU := hid hu
  obtain ⟨B, ucap, rfl, u1, u2, u3⟩ := hu
  have HA := hid u3
  have HX := hid (fun (i : Nat) (hi : i < ns.length) => (⟨ns[i], List.getElem?_eq_getElem hi, hR _ (List.getElem_mem hi)⟩ : ∃ x, ns[i]? = some x ∧ x.R))
  have HP := hid (fun (i : Nat) (hi : i < ns.length) (e : ns = []) => (by rw [e] at hi; simp at hi : False))
  have HSV := hid (hH.sv.first k hk)
  have HH := hid hH
  have hl0 : (es.take k).length = k := by rw [List.length_take]; omega
  have HL0 := hid hl0
  have HE := hid hE
  have HL := hid hL
  clear hE hL hl0 h hH hR u3
  generalize rpE es k ns = RE at *
  generalize rpL es k ns = RL at *
  generalize es.take k = L0 at *
  generalize hNe : es.length = N at *
  have HNe := hid hNe
  generalize hM : ns.length = M at *
  have HM := hid hM
  clear hNe hM
  have hd : decide ((N : Int) < k) = false := decide_eq_false (by omega)
  have hd0 : decide ((k : Int) < 0) = false := decide_eq_false (by omega)
  have hdn : decide (N < k) = false := decide_eq_false (by omega)
  have hkc : (k : Int) ≤ (cap : Int) := by omega
  have hk0 : (0 : Int) ≤ (k : Int) := by omega
  go_enter Try.func24, Try.ntmps24
  go_wp2_with fail
  go_loopw [24] (fun t wr => ∃ i : Nat, i ≤ M ∧ t = .int .i64 i ∧ Fr w wr (fun _ => False)) (fun t _ => M - (intOf t).toNat)
  case atStart => exact ⟨0, by omega, rfl, Fr.refl _ _⟩
  case round =>
    obtain ⟨i, hi, rfl, hf⟩ := hrel
    by_cases hlt : i < M
    · obtain ⟨x, hx, hxR⟩ := HX.out i hlt
      obtain ⟨b, off, rfl, hb, HA1⟩ := HA.out (HP.out i hlt)
      obtain ⟨a0, a1, a2, a3, a4, a5, a6, a7, a8⟩ := (HA1.fr hf).nine hx
      have HF := hid hf
      have RC := hid (fun W => refRight_calls W x.a x.b x.c x.k x.t x.n x.p x.q x.r)
      rw [decide_eq_true (show Rt x.a x.b x.c x.p x.q x.r from hxR)] at RC
      clear hx hf hxR HA1
      obtain ⟨a, b, c, k, t, n, p, q, r⟩ := x
      unfold enV at RC
      simp only at a0 a1 a2 a3 a4 a5 a6 a7 a8 RC
      go_wp2_with fail
      refine (RC.out _).mono ?_
      rintro e w2 ⟨rfl, hf2⟩
      go_wp2_with fail
      go_round
      case rel => exact ⟨i + 1, by omega, by go_num, (HF.out.alloc _).trans hf2⟩
      case measure => simp [intOf]; omega
    · have he : i = M := by omega
      subst he
      have c0 := cell_fr c0 hf
      have HF := hid hf
      clear hf
      go_upto_region 11 with (at_builtin; refine wpList_append_e rfl _ _ rfl (.slice none 0 0) _ [] L0 (by rfl) (by rfl) (WR.nil _) (HSV.out.fr HF.out) (by have := HL0.out; simp only [List.length_nil]; omega) ?_; intro A1 cap1 w1 hW1 hg1 hB1)
      rw [List.nil_append] at hW1 hB1
      have hF1 : Fr w w1 (fun _ => False) := HF.out.grown hg1 (fun k hk _ => by cases hk)
      have HF1 := hid hF1
      have HW1 := hid hW1
      have HB1 := hid hB1
      clear hW1 hg1 hB1 hF1
      generalize hN1 : L0.length = N1 at *
      have HN1 := hid hN1
      clear hN1
      go_upto_region 12 with (at_builtin; refine wpList_append_e rfl _ _ rfl _ _ L0 ns (by rfl) (by rfl) HW1.out (HU.out.fr HF1.out) (by have := HL0.out; have := HM.out; have := HN1.out; omega) ?_; intro A2 cap2 w2 hW2 hg2 hB2)
      have HF2 := hid (HF1.out.grown hg2 (fun k hk hs => by
        rcases HB1.out k hk with h9 | h9
        · cases h9
        · have := HF.out.size
          omega))
      have HB2 : Hid (∀ b, (Value.slice A2 (L0 ++ ns).length cap2).ownBlock = some b → w.heap.size ≤ b) := hid (fun b hb => by
        rcases hB2 b hb with h9 | h9
        · rcases HB1.out b h9 with h8 | h8
          · cases h8
          · exact Nat.le_trans HF.out.size h8
        · exact Nat.le_trans HF1.out.size h9)
      have HW2 := hid hW2
      have hlen : (L0 ++ ns).length = L0.length + ns.length := List.length_append
      clear hW2 hg2 hB2 c0
      have HH2 := hid (HH.out.heap HF2.out)
      rw [hlen] at HW2 HB2
      have hk9 : L0.length + ns.length ≤ 1466015507797 := by have := HM.out; have := HN1.out; have := HL0.out; omega
      have HX2 := hid (fun (j : Nat) (hj : j < L0.length + ns.length) => (⟨_, List.getElem?_eq_getElem (by omega)⟩ : ∃ x, (L0 ++ ns)[j]? = some x))
      have HK := hid hlen
      have HE2 : Hid (RE = if srt (L0 ++ ns) = false then 7 else if 4096 < L0.length + ns.length then 5 else 0) := hid (by
        have h9 := HE.out
        rw [← HN1.out, ← HM.out] at h9
        exact h9)
      clear hlen HE HN1
      generalize hLL : L0 ++ ns = LL at *
      have HLL := hid hLL
      clear hLL
      generalize L0.length + ns.length = NN at *
      have HST := hid (fun (t : Nat) (x y : En) (hx : LL[t]? = some x) (hy : LL[t + 1]? = some y) (h : srt (LL.take (t + 1)) = true) (h2 : x.a ≤ y.a) => srt_take hx hy h h2)
      have HNO := hid (fun (t : Nat) (x y : En) (hx : LL[t]? = some x) (hy : LL[t + 1]? = some y) (h2 : y.a < x.a) => srt_no hx hy h2)
      have HEN : Hid (∀ j, NN ≤ j → srt (LL.take j) = true → srt LL = true) := hid (fun j hj h => by rwa [List.take_of_length_le (by have := HK.out; omega)] at h)
      have H1 : Hid (srt (LL.take 1) = true) := hid (by
        match LL with
        | [] => rfl
        | x :: r => rfl)
      have HA2 : Hid (∀ j x, LL[j]? = some x → ∃ b off, A2 = some ⟨b, off, none⟩ ∧ w2.cell? ⟨b, off + j * 9, none⟩ = some (.int .i64 x.a)) := hid (fun j x hx => by
        obtain ⟨A9, cap9, e9, _, _, h9⟩ := HW2.out.sv
        injection e9 with e1 e2 e3
        obtain ⟨b, off, h8, _, h7⟩ := h9 (fun e => by rw [e] at hx; simp at hx)
        exact ⟨b, off, by rw [e1]; exact h8, (h7.nine hx).1⟩)
      go_wp2_with fail
      go_loopw [10] (fun t wr => ∃ j : Nat, 1 ≤ j ∧ (j ≤ NN ∨ j = 1) ∧ t = .int .i64 j ∧ srt (LL.take j) = true ∧ Fr w2 wr (fun _ => False)) (fun t _ => NN - (intOf t).toNat)
      case atStart => exact ⟨1, by omega, .inr rfl, rfl, H1.out, Fr.refl _ _⟩
      case round =>
        obtain ⟨j, hj1, hj2, rfl, hs, hf⟩ := hrel
        have HF3 := hid hf
        by_cases hjn : j < NN
        · obtain ⟨t, rfl⟩ : ∃ t, j = t + 1 := ⟨j - 1, by omega⟩
          obtain ⟨x, hx⟩ := HX2.out t (by omega)
          obtain ⟨y, hy⟩ := HX2.out (t + 1) hjn
          obtain ⟨b, off, rfl, a1⟩ := HA2.out t x hx
          obtain ⟨b', off', e', a2⟩ := HA2.out (t + 1) y hy
          injection e' with e'
          injection e' with e1 e2 _
          subst e1 e2
          have a1 := cell_fr a1 hf
          have a2 := cell_fr a2 hf
          obtain ⟨iN, hiN⟩ : ∃ q, q = t + 1 := ⟨_, rfl⟩
          rw [← hiN] at a2
          have hqz : ((t + 1 : Nat) : Int) = (t : Int) + 1 := by omega
          rw [hqz]
          have ea : ((t : Int) + 1).toNat = iN := by omega
          have pa : (0 : Int) ≤ (t : Int) + 1 := by omega
          have ba : (t : Int) + 1 < (NN : Int) := by omega
          have ra : IntKind.i64.wrap ((t : Int) + 1) = (t : Int) + 1 := IntWalk.i64_in _ (by omega)
          have rb : IntKind.i64.wrap (t : Int) = (t : Int) := IntWalk.i64_in _ (by omega)
          have bb : (t : Int) < (NN : Int) := by omega
          have pc : (0 : Int) ≤ (t : Int) := by omega
          by_cases hc : y.a < x.a
          · have HQ := hid (HNO.out t x y hx hy hc)
            have hd9 : decide (y.a < x.a) = true := decide_eq_true hc
            clear hs hx hy hf hqz hiN hc hj2
            generalize x.a = xa at *
            generalize y.a = ya at *
            go_wp2_with fail
            go_quiet (fail)
            go_wp2_with fail
            go_ret
            have h9 := HE2.out
            rw [if_pos HQ.out] at h9
            have h8 := HL.out
            rw [h9, if_neg (by decide)] at h8
            rw [h8, h9]
            exact RQr.stay HH.out ((HF2.out.trans HF3.out).drewN _)
          · have HQ := hid (HST.out t x y hx hy hs (by omega))
            have hd9 : decide (y.a < x.a) = false := decide_eq_false hc
            clear hs hx hy hf hqz hiN hc hj2
            generalize x.a = xa at *
            generalize y.a = ya at *
            go_wp2_with fail
            go_quiet (fail)
            go_wp2_with fail
            go_roundw
            case rel => exact ⟨t + 2, by omega, .inl (by omega), by go_num, HQ.out, HF3.out.drewN _⟩
            case measure => simp [intOf]; omega
        · have HQ := hid (HEN.out j (by omega) hs)
          clear hs hf
          have HH3 := hid (HH2.out.heap HF3.out)
          have d0 := HH3.out.c0
          have d1 := HH3.out.f0
          by_cases hbig : 4096 < NN
          · go_wp2_with fail
            go_ret
            have h9 := HE2.out
            rw [if_neg (by rw [HQ.out]; decide), if_pos hbig] at h9
            have h8 := HL.out
            rw [h9, if_neg (by decide)] at h8
            rw [h8, h9]
            exact RQr.stay HH.out (HF2.out.trans HF3.out)
          · go_wp2_with fail
            go_ret
            have h9 := HE2.out
            rw [if_neg (by rw [HQ.out]; decide), if_neg hbig] at h9
            have h8 := HL.out
            rw [h9, if_pos rfl] at h8
            rw [h8, h9]
            exact RQr.done HH3.out (HF2.out.trans HF3.out) (HW2.out.fr HF3.out (fun _ _ x => x)) (fun b hb => .inr (HB2.out b hb))

theorem rreplace_any (w : World) (g : Nat) (v u : Value) (es ns : List En) (k : Int) (h : Lr w g v es) (hu : Sv w u ns) (hn : ns.length ≤ 1466015503701) (hes : es.length ≤ 4096) :
    Calls Try.prog 24 #[.pointer (some ⟨g, 0, none⟩), .int .i64 k, u] w (RQr w g v (rpE es k ns) (rpL es k ns)) := by
  by_cases hk : k < 0 ∨ (es.length : Int) < k
  · refine (rreplace_arg w g v u es k h hk).mono ?_
    rintro e w' ⟨rfl, hf⟩
    have hr : rpE es k ns = 1 := if_pos hk
    unfold rpL
    rw [hr, if_neg (by decide)]
    exact RQr.stay h hf
  · obtain ⟨m, rfl⟩ : ∃ m : Nat, k = m := ⟨k.toNat, by omega⟩
    have hm : m ≤ es.length := by omega
    by_cases hR : allR ns
    · exact rreplace_go w g v u es ns m h hm hu hn hes hR
    · refine (rreplace_form w g v u es ns m h hm hu (by omega) hes hR).mono ?_
      rintro e w' ⟨rfl, hf⟩
      have hr : rpE es m ns = 4 := by
        unfold rpE
        rw [if_neg hk, if_pos hR]
      unfold rpL
      rw [hr, if_neg (by decide)]
      exact RQr.stay h hf
end Go.Proofs.Ytbphkbbidbjpmaa.Cw
