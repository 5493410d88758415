/- ChunkSplits: the walk. Own work. -/
import Derived.Test.YthnigmbdacjlnaaCkY
import Derived.Test.YthnigmbdacjlnaaCkH
import Derived.Deep.RegionHeld3
namespace Go.Proofs.Ythnigmbdacjlnaa.Cw
open Go.RowKit
set_option linter.unusedVariables false
set_option linter.unusedSimpArgs false
attribute [local go_sem ↓ high] eqCk

theorem eqc5_same (a0 a1 a2 : Int) (p : ByteArray) (a3 : Int) : eqc5 a0 a1 a2 p a3 a0 a1 a2 p a3 = true := decide_eq_true ⟨rfl, rfl, rfl, rfl, rfl⟩
theorem keepCk {w0 W W' : World} {p : Nat} {v0 v1 v2 v3 v4 : Value} (h : W.cell? ⟨p, 0, none⟩ = some v0 ∧ W.cell? ⟨p, 1, none⟩ = some v1 ∧ W.cell? ⟨p, 2, none⟩ = some v2 ∧ W.cell? ⟨p, 3, none⟩ = some v3 ∧ W.cell? ⟨p, 4, none⟩ = some v4 ∧ Fr w0 W (fun _ => False)) (k : Fr W W' (fun _ => False)) :
    W'.cell? ⟨p, 0, none⟩ = some v0 ∧ W'.cell? ⟨p, 1, none⟩ = some v1 ∧ W'.cell? ⟨p, 2, none⟩ = some v2 ∧ W'.cell? ⟨p, 3, none⟩ = some v3 ∧ W'.cell? ⟨p, 4, none⟩ = some v4 ∧ Fr w0 W' (fun _ => False) :=
  ⟨cell_keep h.1 k, cell_keep h.2.1 k, cell_keep h.2.2.1 k, cell_keep h.2.2.2.1 k, cell_keep h.2.2.2.2.1 k, h.2.2.2.2.2.trans k⟩
theorem lastCk {w0 W : World} {p : Nat} {v0 v1 v2 v3 v4 : Value} (h : W.cell? ⟨p, 0, none⟩ = some v0 ∧ W.cell? ⟨p, 1, none⟩ = some v1 ∧ W.cell? ⟨p, 2, none⟩ = some v2 ∧ W.cell? ⟨p, 3, none⟩ = some v3 ∧ W.cell? ⟨p, 4, none⟩ = some v4 ∧ Fr w0 W (fun _ => False)) : Fr w0 W (fun _ => False) := h.2.2.2.2.2
theorem keepTw {w0 W W' : World} {p o b r : Nat} {v0 v1 v2 v3 v4 u0 u1 u2 u3 u4 : Value} (h : W.cell? ⟨p, o, none⟩ = some v0 ∧ W.cell? ⟨p, o + 1, none⟩ = some v1 ∧ W.cell? ⟨p, o + 2, none⟩ = some v2 ∧ W.cell? ⟨p, o + 3, none⟩ = some v3 ∧ W.cell? ⟨p, o + 4, none⟩ = some v4 ∧ W.cell? ⟨b, r, none⟩ = some u0 ∧ W.cell? ⟨b, r + 1, none⟩ = some u1 ∧ W.cell? ⟨b, r + 2, none⟩ = some u2 ∧ W.cell? ⟨b, r + 3, none⟩ = some u3 ∧ W.cell? ⟨b, r + 4, none⟩ = some u4 ∧ Fr w0 W (fun _ => False)) (k : Fr W W' (fun _ => False)) :
    W'.cell? ⟨p, o, none⟩ = some v0 ∧ W'.cell? ⟨p, o + 1, none⟩ = some v1 ∧ W'.cell? ⟨p, o + 2, none⟩ = some v2 ∧ W'.cell? ⟨p, o + 3, none⟩ = some v3 ∧ W'.cell? ⟨p, o + 4, none⟩ = some v4 ∧ W'.cell? ⟨b, r, none⟩ = some u0 ∧ W'.cell? ⟨b, r + 1, none⟩ = some u1 ∧ W'.cell? ⟨b, r + 2, none⟩ = some u2 ∧ W'.cell? ⟨b, r + 3, none⟩ = some u3 ∧ W'.cell? ⟨b, r + 4, none⟩ = some u4 ∧ Fr w0 W' (fun _ => False) :=
  ⟨cell_keep h.1 k, cell_keep h.2.1 k, cell_keep h.2.2.1 k, cell_keep h.2.2.2.1 k, cell_keep h.2.2.2.2.1 k, cell_keep h.2.2.2.2.2.1 k, cell_keep h.2.2.2.2.2.2.1 k, cell_keep h.2.2.2.2.2.2.2.1 k, cell_keep h.2.2.2.2.2.2.2.2.1 k, cell_keep h.2.2.2.2.2.2.2.2.2.1 k, h.2.2.2.2.2.2.2.2.2.2.trans k⟩
theorem lastTw {w0 W : World} {p o b r : Nat} {v0 v1 v2 v3 v4 u0 u1 u2 u3 u4 : Value} (h : W.cell? ⟨p, o, none⟩ = some v0 ∧ W.cell? ⟨p, o + 1, none⟩ = some v1 ∧ W.cell? ⟨p, o + 2, none⟩ = some v2 ∧ W.cell? ⟨p, o + 3, none⟩ = some v3 ∧ W.cell? ⟨p, o + 4, none⟩ = some v4 ∧ W.cell? ⟨b, r, none⟩ = some u0 ∧ W.cell? ⟨b, r + 1, none⟩ = some u1 ∧ W.cell? ⟨b, r + 2, none⟩ = some u2 ∧ W.cell? ⟨b, r + 3, none⟩ = some u3 ∧ W.cell? ⟨b, r + 4, none⟩ = some u4 ∧ Fr w0 W (fun _ => False)) : Fr w0 W (fun _ => False) := h.2.2.2.2.2.2.2.2.2.2
theorem ckE_iff (c : Ck) : ((ckE c == 0) = ckB c) ∧ (decide (ckE c = 0) = ckB c) := by
  unfold ckE
  cases ckB c <;> exact ⟨rfl, rfl⟩
set_option maxRecDepth 100000 in
set_option maxHeartbeats 3200000 in
theorem chunkSplits_big (w : World) (v : Value) (bs : List ByteArray) (c : Ck) (h : Tv w v bs) (hb : 1100 < bs.length) :
    Calls Try.prog 3 #[v, c.V] w fun e w' => e = .returned (.bool true) ∧ Fr w w' (fun _ => False) := by
  obtain ⟨A, cap, rfl, h1, h2, h3⟩ := h
  simp only [List.length_map] at h1 ⊢
  clear h3
  generalize bs.length = N at *
  obtain ⟨d, t, n, s, q⟩ := c
  unfold Ck.V
  have d1 : decide ((1100 : Int) < (N : Int)) = true := decide_eq_true (by omega)
  go_enter Try.func3, Try.ntmps3
  go_wp2_with (go_at_call 8; refine (speaks25_calls _).mono ?_; rintro e w6 ⟨rfl, hf6⟩)
  go_ret
  exact ⟨rfl, ((Fr.refl w _).alloc _).trans hf6⟩

set_option maxRecDepth 100000 in
set_option maxHeartbeats 6400000 in
theorem chunkSplits_calls (w : World) (v : Value) (bs : List ByteArray) (c : Ck) (h : Tv w v bs) :
    Calls Try.prog 3 #[v, c.V] w fun e w' => e = .returned (.bool true) ∧ Fr w w' (fun _ => False) := by
  by_cases hb : 1100 < bs.length
  · exact chunkSplits_big w v bs c h hb
  have HV := hid h
  have CC := hid (fun (W : World) => check_calls W c)
  have RC := hid (fun (W : World) => ref25_calls W c)
  have RT := hid (fun (W : World) => refRight25_calls W c)
  have SPC := hid (fun (W : World) (hf : Fr w W (fun _ => False)) => split_calls W v bs (h.fr hf))
  have RS := hid (fun (W : World) (hf : Fr w W (fun _ => False)) => rsplit_calls W v bs (h.fr hf))
  have HK := ckE_iff c
  obtain ⟨A, cap, rfl, h1, h2, h3⟩ := h
  simp only [List.length_map] at h1 SPC RS ⊢
  clear h3
  have HE := hid (fun i (hi : i < (splL bs).length) => (⟨_, List.getElem?_eq_getElem hi⟩ : ∃ x, (splL bs)[i]? = some x))
  have hls : (splL bs).length ≤ 200 := by
    unfold splL
    split
    · rw [spl_len]; omega
    · simp
  generalize splE bs = E at *
  generalize splL bs = M at *
  generalize bs.length = N at *
  generalize ckE c = KE at *
  generalize ckB c = KB at *
  obtain ⟨hk1, hk2⟩ := HK
  obtain ⟨d, t, n, s, q⟩ := c
  unfold Ck.V at *
  simp only at CC RC RT ⊢
  have d1 : decide ((1100 : Int) < (N : Int)) = false := decide_eq_false (by omega)
  obtain ⟨LM, hLM⟩ : ∃ LM, M.length = LM := ⟨_, rfl⟩
  rw [hLM] at hls HE
  have HLM := hid hLM
  go_enter Try.func3, Try.ntmps3
  go_wp2_with (first
      | (go_at_call 9; refine (SPC.out _ ((Fr.refl w _).alloc _)).mono ?_; rintro e w1 ⟨u1, rfl, ⟨A1, k1, rfl, hq1, hq2, hq3⟩, hf1⟩; rw [hLM] at hq1 ⊢)
      | (go_at_call 10; refine (RS.out _ (((Fr.refl w _).alloc _).trans hf1)).mono ?_; rintro e w2 ⟨u2, rfl, ⟨A2, k2, rfl, hr1, hr2, hr3⟩, hf2⟩; rw [hLM] at hr1 ⊢))
  have hA := ((Fr.refl w (fun _ => False)).alloc (.cells #[.int .i64 d, .int .i64 t, .int .i64 n, .string s, .int .i64 q] 24)).trans hf1
  have hx := alloc_new w (.cells #[.int .i64 d, .int .i64 t, .int .i64 n, .string s, .int .i64 q] 24)
  have hx2 := (hf1.trans hf2).at_ hx (fun x => x)
  have x0 := cell_blk hx2 0
  have x1 := cell_blk hx2 1
  have x2 := cell_blk hx2 2
  have x3 := cell_blk hx2 3
  have x4 := cell_blk hx2 4
  simp only [List.getElem?_toArray, List.getElem?_cons_zero, List.getElem?_cons_succ] at x0 x1 x2 x3 x4
  have hS := And.intro x0 (And.intro x1 (And.intro x2 (And.intro x3 (And.intro x4 (Fr.refl w2 (fun _ => False))))))
  have H1 := hid (hA.trans hf2)
  have HQ3 := hid (fun hn => hq3 hn)
  have HR3 := hid (fun hn => hr3 hn)
  have HF2 := hid hf2
  clear hA hx hx2 hf1 hf2 hq3 hr3 x0 x1 x2 x3 x4
  generalize w.heap.size = p at *
  have e0 : (E != E) = false := by simp
  have e1 : ((LM : Int) != (LM : Int)) = false := by simp
  go_region_held3 (fun W => W.cell? ⟨p, 0, none⟩ = some (.int .i64 d) ∧ W.cell? ⟨p, 1, none⟩ = some (.int .i64 t) ∧ W.cell? ⟨p, 2, none⟩ = some (.int .i64 n) ∧ W.cell? ⟨p, 3, none⟩ = some (.string s) ∧ W.cell? ⟨p, 4, none⟩ = some (.int .i64 q) ∧ Fr w2 W (fun _ => False)) (first | exact hS | exact ⟨hS.1, hS.2.1, hS.2.2.1, hS.2.2.2.1, hS.2.2.2.2.1, hS.2.2.2.2.2.drew⟩ | assumption | exact keepCk (by assumption) (by assumption))
    (first
      | (go_at_call 11; refine (CC.out _).mono ?_; rintro e wc ⟨rfl, hfc⟩)
      | (go_at_call 13; refine (RC.out _).mono ?_; rintro e wd ⟨rfl, hfd⟩)
      | (go_at_call 12; refine (RT.out _).mono ?_; rintro e wq ⟨rfl, hfr⟩))
  have H9 := hid (lastCk (W := wq) (w0 := w2) (p := p) (v0 := .int .i64 d) (v1 := .int .i64 t) (v2 := .int .i64 n) (v3 := .string s) (v4 := .int .i64 q) (by assumption))
  clear hS
  go_wp2_with fail
  go_loopw [45] (fun t W => ∃ i : Nat, i ≤ LM ∧ t = .int .i64 i ∧ Fr w2 W (fun _ => False)) (fun t _ => LM - (intOf t).toNat)
  case atStart => exact ⟨0, by omega, rfl, H9.out⟩
  case round =>
    obtain ⟨i, hi, rfl, hf⟩ := hrel
    by_cases hlt : i < LM
    · obtain ⟨⟨xd, xt, xn, xs, xc⟩, hx⟩ := HE.out i hlt
      have hnn : M ≠ [] := fun e => by rw [e] at hx; cases hx
      obtain ⟨b1, o1, rfl, hb1, hc1⟩ := HQ3.out hnn
      obtain ⟨b2, o2, rfl, hb2, hc2⟩ := HR3.out hnn
      have a0 := cell_keep (cell_keep (hc1 i _ hx 0 _ rfl) HF2.out) hf
      have a1 := cell_keep (cell_keep (hc1 i _ hx 1 _ rfl) HF2.out) hf
      have a2 := cell_keep (cell_keep (hc1 i _ hx 2 _ rfl) HF2.out) hf
      have a3 := cell_keep (cell_keep (hc1 i _ hx 3 _ rfl) HF2.out) hf
      have a4 := cell_keep (cell_keep (hc1 i _ hx 4 _ rfl) HF2.out) hf
      have c0 := cell_keep (hc2 i _ hx 0 _ rfl) hf
      have c1 := cell_keep (hc2 i _ hx 1 _ rfl) hf
      have c2 := cell_keep (hc2 i _ hx 2 _ rfl) hf
      have c3 := cell_keep (hc2 i _ hx 3 _ rfl) hf
      have c4 := cell_keep (hc2 i _ hx 4 _ rfl) hf
      rw [Nat.add_zero] at a0 c0
      simp only at a0 a1 a2 a3 a4 c0 c1 c2 c3 c4
      have hS := And.intro a0 (And.intro a1 (And.intro a2 (And.intro a3 (And.intro a4 (And.intro c0 (And.intro c1 (And.intro c2 (And.intro c3 (And.intro c4 hf)))))))))
      have HS2 := hid hS
      have RXC := hid (fun (W : World) => ref25_calls W ⟨xd, xt, xn, xs, xc⟩)
      unfold Ck.V at RXC
      simp only at RXC
      have hq5 := eqc5_same xd xt xn xs xc
      clear hc1 hc2 hx hf hnn a0 a1 a2 a3 a4 c0 c1 c2 c3 c4
      go_wp2_with fail
      go_region_held3 (fun W => W.cell? ⟨b1, o1 + i * 5, none⟩ = some (.int .i64 xd) ∧ W.cell? ⟨b1, o1 + i * 5 + 1, none⟩ = some (.int .i64 xt) ∧ W.cell? ⟨b1, o1 + i * 5 + 2, none⟩ = some (.int .i64 xn) ∧ W.cell? ⟨b1, o1 + i * 5 + 3, none⟩ = some (.string xs) ∧ W.cell? ⟨b1, o1 + i * 5 + 4, none⟩ = some (.int .i64 xc) ∧ W.cell? ⟨b2, o2 + i * 5, none⟩ = some (.int .i64 xd) ∧ W.cell? ⟨b2, o2 + i * 5 + 1, none⟩ = some (.int .i64 xt) ∧ W.cell? ⟨b2, o2 + i * 5 + 2, none⟩ = some (.int .i64 xn) ∧ W.cell? ⟨b2, o2 + i * 5 + 3, none⟩ = some (.string xs) ∧ W.cell? ⟨b2, o2 + i * 5 + 4, none⟩ = some (.int .i64 xc) ∧ Fr w2 W (fun _ => False)) (first | exact hS | exact keepTw hS ((Fr.refl _ _).drew) | assumption | exact keepTw (by assumption) (by assumption))
        (first | (go_at_call 13; refine (RXC.out _).mono ?_; rintro e wd ⟨rfl, hfd⟩))
      have H8 := hid (lastTw (W := wd) (w0 := w2) (p := b1) (o := o1 + i * 5) (b := b2) (r := o2 + i * 5) (v0 := .int .i64 xd) (v1 := .int .i64 xt) (v2 := .int .i64 xn) (v3 := .string xs) (v4 := .int .i64 xc) (u0 := .int .i64 xd) (u1 := .int .i64 xt) (u2 := .int .i64 xn) (u3 := .string xs) (u4 := .int .i64 xc) (by assumption))
      go_wp2_with fail
      go_roundw
      case rel => exact ⟨i + 1, by omega, by go_num, H8.out⟩
      case measure => simp [intOf]; omega
    · have he : i = LM := by omega
      subst he
      have HF := hid hf
      clear hf
      go_wp2_with (first | (go_at_call 8; refine (speaks25_calls _).mono ?_; rintro e w6 ⟨rfl, hf6⟩))
      go_ret
      exact ⟨rfl, H1.out.trans (HF.out.trans hf6)⟩
end Go.Proofs.Ythnigmbdacjlnaa.Cw
