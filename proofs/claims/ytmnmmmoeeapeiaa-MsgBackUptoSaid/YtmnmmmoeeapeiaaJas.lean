/- replog's Encode. Own work; printed by wip/mkenc.py. -/
import Derived.Test.YtmnmmmoeeapeiaaJal
import Derived.Test.YtmnmmmoeeapeiaaJar
import Derived.Handy
namespace Go.Proofs.Ytmnmmmoeeapeiaa.Cw
open Go.RowKit
set_option linter.unusedVariables false
set_option linter.unusedSimpArgs false

/-- A block of another type is none of the writer's. -/
theorem Wr.apart {w : World} {g i : Nat} {v : Value} {bs : List UInt8} {cs : Array Value} {t : TypeId} (h : Wr w g v bs) (hi : w.heap[i]? = some (.cells cs t (0, 0))) (h1 : t ≠ 5) (h2 : t ≠ 85) : ¬ WS g v i := by
  intro hc
  rcases hc with rfl | hc
  · have h3 := h.1.symm.trans hi
    injection h3 with h3
    injection h3 with _ h3
    exact h2 h3.symm
  · rcases h.2.2 with ⟨rfl, _⟩ | ⟨g1, cap1, cur1, rfl, _, hg1, _⟩
    · cases hc
    injection hc with hc
    subst hc
    have h3 := hg1.symm.trans hi
    injection h3 with h3
    injection h3 with _ h3
    exact h1 h3.symm

set_option maxRecDepth 100000 in
set_option maxHeartbeats 6400000 in
theorem encode_yes (w : World) (a b c : Nat) (k t n : Int) (p q r : ByteArray) (h : Rt a b c p q r) (hk : i64 k) (ht : i64 t) (hn : i64 n) :
    Calls Try.prog 34 #[enV a b c k t n p q r] w fun e w' => e = .returned (.tuple #[.string ⟨(enB a b c k t n p q r).toArray⟩, .int .i64 0]) ∧ Fr w w' (fun _ => False) := by
  have RC := hid (fun w => right_calls w a b c k t n p q r)
  rw [decide_eq_true h] at RC
  unfold enV at *
  obtain ⟨⟨_, ha⟩, ⟨_, hb⟩, ⟨_, hc⟩, hp, hq, hr⟩ := h
  have Ca := hid (fun (w : World) (g : Nat) (v : Value) (bs : List UInt8) (h : Wr w g v bs) (hl : Len bs 10) => wUint_calls w g v bs a h (by omega) hl)
  have Cb := hid (fun (w : World) (g : Nat) (v : Value) (bs : List UInt8) (h : Wr w g v bs) (hl : Len bs 10) => wUint_calls w g v bs b h (by omega) hl)
  have Cc := hid (fun (w : World) (g : Nat) (v : Value) (bs : List UInt8) (h : Wr w g v bs) (hl : Len bs 10) => wUint_calls w g v bs c h (by omega) hl)
  have Ck := hid (fun (w : World) (g : Nat) (v : Value) (bs : List UInt8) (h : Wr w g v bs) (hl : Len bs 10) => wInt_calls w g v bs k hk.1 hk.2 h hl)
  have Ct := hid (fun (w : World) (g : Nat) (v : Value) (bs : List UInt8) (h : Wr w g v bs) (hl : Len bs 10) => wInt_calls w g v bs t ht.1 ht.2 h hl)
  have Cn := hid (fun (w : World) (g : Nat) (v : Value) (bs : List UInt8) (h : Wr w g v bs) (hl : Len bs 10) => wInt_calls w g v bs n hn.1 hn.2 h hl)
  have Cp := hid (fun (w : World) (g : Nat) (v : Value) (bs : List UInt8) (h : Wr w g v bs) (hl : Len bs 70000) => wText_calls w g v bs p h (by omega) hl)
  have Cq := hid (fun (w : World) (g : Nat) (v : Value) (bs : List UInt8) (h : Wr w g v bs) (hl : Len bs 70000) => wText_calls w g v bs q h (by omega) hl)
  have Cr := hid (fun (w : World) (g : Nat) (v : Value) (bs : List UInt8) (h : Wr w g v bs) (hl : Len bs 70000) => wText_calls w g v bs r h (by omega) hl)
  have la := uv_len10 a (by omega)
  have lb := uv_len10 b (by omega)
  have lc := uv_len10 c (by omega)
  have lk := uv_len10 (zig k) (zig_lt k hk.1 hk.2)
  have lt := uv_len10 (zig t) (zig_lt t ht.1 ht.2)
  have ln := uv_len10 (zig n) (zig_lt n hn.1 hn.2)
  have lp := uv_len10 p.size (by omega)
  have lq := uv_len10 q.size (by omega)
  have lr := uv_len10 r.size (by omega)
  have ep : p.data.toList.length = p.size := by rw [Array.length_toList]; rfl
  have eq : q.data.toList.length = q.size := by rw [Array.length_toList]; rfl
  have er : r.data.toList.length = r.size := by rw [Array.length_toList]; rfl
  have hH : Hid (enB a b c k t n p q r = [] ++ uv a ++ uv b ++ uv c ++ uv (zig k) ++ uv (zig t) ++ uv (zig n) ++ (uv p.size ++ p.data.toList) ++ (uv q.size ++ q.data.toList) ++ (uv r.size ++ r.data.toList)) := hid rfl
  rw [hH.out]
  generalize uv a = xa at *
  generalize uv b = xb at *
  generalize uv c = xc at *
  generalize uv (zig k) = xk at *
  generalize uv (zig t) = xt at *
  generalize uv (zig n) = xn at *
  have lp2 : (uv p.size ++ p.data.toList).length ≤ 5000 := by rw [List.length_append]; omega
  have lq2 : (uv q.size ++ q.data.toList).length ≤ 5000 := by rw [List.length_append]; omega
  have lr2 : (uv r.size ++ r.data.toList).length ≤ 5000 := by rw [List.length_append]; omega
  generalize uv p.size ++ p.data.toList = xp at *
  generalize uv q.size ++ q.data.toList = xq at *
  generalize uv r.size ++ r.data.toList = xr at *
  have L0 : Hid (Len ([]) 10) := hid (by unfold Len; simp only [List.length_append, List.length_nil]; omega)
  have L1 : Hid (Len ([] ++ xa) 10) := hid (by unfold Len; simp only [List.length_append, List.length_nil]; omega)
  have L2 : Hid (Len ([] ++ xa ++ xb) 10) := hid (by unfold Len; simp only [List.length_append, List.length_nil]; omega)
  have L3 : Hid (Len ([] ++ xa ++ xb ++ xc) 10) := hid (by unfold Len; simp only [List.length_append, List.length_nil]; omega)
  have L4 : Hid (Len ([] ++ xa ++ xb ++ xc ++ xk) 10) := hid (by unfold Len; simp only [List.length_append, List.length_nil]; omega)
  have L5 : Hid (Len ([] ++ xa ++ xb ++ xc ++ xk ++ xt) 10) := hid (by unfold Len; simp only [List.length_append, List.length_nil]; omega)
  have L6 : Hid (Len ([] ++ xa ++ xb ++ xc ++ xk ++ xt ++ xn) 70000) := hid (by unfold Len; simp only [List.length_append, List.length_nil]; omega)
  have L7 : Hid (Len ([] ++ xa ++ xb ++ xc ++ xk ++ xt ++ xn ++ xp) 70000) := hid (by unfold Len; simp only [List.length_append, List.length_nil]; omega)
  have L8 : Hid (Len ([] ++ xa ++ xb ++ xc ++ xk ++ xt ++ xn ++ xp ++ xq) 70000) := hid (by unfold Len; simp only [List.length_append, List.length_nil]; omega)
  clear hH ha hb hc hp hq hr hk ht hn la lb lc lk lt ln lp lq lr ep eq er lp2 lq2 lr2
  go_enter Try.func34, Try.ntmps34
  go_wp2_with fail
  refine (RC.out _).mono ?_
  rintro e w1 ⟨rfl, hf1⟩
  have hx1 := hf1.at_ (alloc_new w _) (fun x => x)
  have hA := ((Fr.refl w (fun _ => False)).alloc _).trans hf1
  clear hf1
  go_wp2_with fail
  refine (new_calls w1).mono ?_
  rintro e w2 ⟨rfl, hn, hf2⟩
  have h2 := Wr.new hn
  have n2 := Nw.nil w1
  have hx2 := hf2.at_ hx1 (fun x => x)
  generalize hgg : w1.heap.size = g at h2 ⊢
  have HG : Hid (w1.heap.size ≤ g) := hid (Nat.le_of_eq hgg)
  clear hgg hn
  have d0 := cell_blk hx2 0
  have d1 := cell_blk hx2 1
  have d2 := cell_blk hx2 2
  simp only [List.getElem?_toArray, List.getElem?_cons_zero, List.getElem?_cons_succ] at d0 d1 d2
  go_wp2_with fail
  have hs := alloc_new w2 (.cells #[.int .i64 a, .int .i64 b, .int .i64 c] 3)
  have hv := h2.alloc (.cells #[.int .i64 a, .int .i64 b, .int .i64 c] 3)
  have hB := hf2.alloc (.cells #[.int .i64 a, .int .i64 b, .int .i64 c] 3)
  have hx := (((Fr.refl w2 (fun _ => False)).alloc (.cells #[.int .i64 a, .int .i64 b, .int .i64 c] 3))).at_ hx2 (fun x => x)
  clear d0 d1 d2 h2 hf2 hx2
  generalize w2.heap.size = sb at *
  refine wp_loop_rounds 4 ?_
  rw [rounds_succ]
  have e3 := cell_blk hs 0
  simp only [List.getElem?_toArray, List.getElem?_cons_zero, List.getElem?_cons_succ] at e3
  go_wp2_with fail
  refine (Ca.out _ g _ _ hv L0.out).mono ?_
  rintro e w3 ⟨rfl, v3, h3, hf3, hn3⟩
  have hs3 := hf3.at_ hs (hv.apart hs (by decide) (by decide))
  have hx3 := hf3.at_ hx (hv.apart hx (by decide) (by decide))
  have hB3 := hB.fresh hf3 (WS_fresh HG.out n2)
  have n3 := n2.next hB.size hn3
  clear e3 hs hv hB hx hf3 hn3 n2
  go_wp2_with fail
  rw [rounds_succ]
  have e4 := cell_blk hs3 1
  simp only [List.getElem?_toArray, List.getElem?_cons_zero, List.getElem?_cons_succ] at e4
  go_wp2_with fail
  refine (Cb.out _ g _ _ h3 L1.out).mono ?_
  rintro e w4 ⟨rfl, v4, h4, hf4, hn4⟩
  have hs4 := hf4.at_ hs3 (h3.apart hs3 (by decide) (by decide))
  have hx4 := hf4.at_ hx3 (h3.apart hx3 (by decide) (by decide))
  have hB4 := hB3.fresh hf4 (WS_fresh HG.out n3)
  have n4 := n3.next hB3.size hn4
  clear e4 hs3 h3 hB3 hx3 hf4 hn4 n3
  go_wp2_with fail
  rw [rounds_succ]
  have e5 := cell_blk hs4 2
  simp only [List.getElem?_toArray, List.getElem?_cons_zero, List.getElem?_cons_succ] at e5
  go_wp2_with fail
  refine (Cc.out _ g _ _ h4 L2.out).mono ?_
  rintro e w5 ⟨rfl, v5, h5, hf5, hn5⟩
  have hs5 := hf5.at_ hs4 (h4.apart hs4 (by decide) (by decide))
  have hx5 := hf5.at_ hx4 (h4.apart hx4 (by decide) (by decide))
  have hB5 := hB4.fresh hf5 (WS_fresh HG.out n4)
  have n5 := n4.next hB4.size hn5
  clear e5 hs4 h4 hB4 hx4 hf5 hn5 n4
  go_wp2_with fail
  clear hs5
  have d0 := cell_blk hx5 3
  have d1 := cell_blk hx5 4
  have d2 := cell_blk hx5 5
  simp only [List.getElem?_toArray, List.getElem?_cons_zero, List.getElem?_cons_succ] at d0 d1 d2
  rw [rounds_succ]
  go_wp2_with fail
  have hs := alloc_new w5 (.cells #[.int .i64 k, .int .i64 t, .int .i64 n] 3)
  have hv := h5.alloc (.cells #[.int .i64 k, .int .i64 t, .int .i64 n] 3)
  have hB := hB5.alloc (.cells #[.int .i64 k, .int .i64 t, .int .i64 n] 3)
  have hx := (((Fr.refl w5 (fun _ => False)).alloc (.cells #[.int .i64 k, .int .i64 t, .int .i64 n] 3))).at_ hx5 (fun x => x)
  clear d0 d1 d2 h5 hB5 hx5
  generalize w5.heap.size = sb at *
  refine wp_loop_rounds 4 ?_
  rw [rounds_succ]
  have e6 := cell_blk hs 0
  simp only [List.getElem?_toArray, List.getElem?_cons_zero, List.getElem?_cons_succ] at e6
  go_wp2_with fail
  refine (Ck.out _ g _ _ hv L3.out).mono ?_
  rintro e w6 ⟨rfl, v6, h6, hf6, hn6⟩
  have hs6 := hf6.at_ hs (hv.apart hs (by decide) (by decide))
  have hx6 := hf6.at_ hx (hv.apart hx (by decide) (by decide))
  have hB6 := hB.fresh hf6 (WS_fresh HG.out n5)
  have n6 := n5.next hB.size hn6
  clear e6 hs hv hB hx hf6 hn6 n5
  go_wp2_with fail
  rw [rounds_succ]
  have e7 := cell_blk hs6 1
  simp only [List.getElem?_toArray, List.getElem?_cons_zero, List.getElem?_cons_succ] at e7
  go_wp2_with fail
  refine (Ct.out _ g _ _ h6 L4.out).mono ?_
  rintro e w7 ⟨rfl, v7, h7, hf7, hn7⟩
  have hs7 := hf7.at_ hs6 (h6.apart hs6 (by decide) (by decide))
  have hx7 := hf7.at_ hx6 (h6.apart hx6 (by decide) (by decide))
  have hB7 := hB6.fresh hf7 (WS_fresh HG.out n6)
  have n7 := n6.next hB6.size hn7
  clear e7 hs6 h6 hB6 hx6 hf7 hn7 n6
  go_wp2_with fail
  rw [rounds_succ]
  have e8 := cell_blk hs7 2
  simp only [List.getElem?_toArray, List.getElem?_cons_zero, List.getElem?_cons_succ] at e8
  go_wp2_with fail
  refine (Cn.out _ g _ _ h7 L5.out).mono ?_
  rintro e w8 ⟨rfl, v8, h8, hf8, hn8⟩
  have hs8 := hf8.at_ hs7 (h7.apart hs7 (by decide) (by decide))
  have hx8 := hf8.at_ hx7 (h7.apart hx7 (by decide) (by decide))
  have hB8 := hB7.fresh hf8 (WS_fresh HG.out n7)
  have n8 := n7.next hB7.size hn8
  clear e8 hs7 h7 hB7 hx7 hf8 hn8 n7
  go_wp2_with fail
  clear hs8
  have d0 := cell_blk hx8 6
  have d1 := cell_blk hx8 7
  have d2 := cell_blk hx8 8
  simp only [List.getElem?_toArray, List.getElem?_cons_zero, List.getElem?_cons_succ] at d0 d1 d2
  rw [rounds_succ]
  go_wp2_with fail
  have hs := alloc_new w8 (.cells #[.string p, .string q, .string r] 9)
  have hv := h8.alloc (.cells #[.string p, .string q, .string r] 9)
  have hB := hB8.alloc (.cells #[.string p, .string q, .string r] 9)
  have hx := (((Fr.refl w8 (fun _ => False)).alloc (.cells #[.string p, .string q, .string r] 9))).at_ hx8 (fun x => x)
  clear d0 d1 d2 h8 hB8 hx8
  generalize w8.heap.size = sb at *
  refine wp_loop_rounds 4 ?_
  rw [rounds_succ]
  have e9 := cell_blk hs 0
  simp only [List.getElem?_toArray, List.getElem?_cons_zero, List.getElem?_cons_succ] at e9
  go_wp2_with fail
  refine (Cp.out _ g _ _ hv L6.out).mono ?_
  rintro e w9 ⟨rfl, v9, h9, hf9, hn9⟩
  have hs9 := hf9.at_ hs (hv.apart hs (by decide) (by decide))
  have hx9 := hf9.at_ hx (hv.apart hx (by decide) (by decide))
  have hB9 := hB.fresh hf9 (WS_fresh HG.out n8)
  have n9 := n8.next hB.size hn9
  clear e9 hs hv hB hx hf9 hn9 n8
  go_wp2_with fail
  rw [rounds_succ]
  have e10 := cell_blk hs9 1
  simp only [List.getElem?_toArray, List.getElem?_cons_zero, List.getElem?_cons_succ] at e10
  go_wp2_with fail
  refine (Cq.out _ g _ _ h9 L7.out).mono ?_
  rintro e w10 ⟨rfl, v10, h10, hf10, hn10⟩
  have hs10 := hf10.at_ hs9 (h9.apart hs9 (by decide) (by decide))
  have hx10 := hf10.at_ hx9 (h9.apart hx9 (by decide) (by decide))
  have hB10 := hB9.fresh hf10 (WS_fresh HG.out n9)
  have n10 := n9.next hB9.size hn10
  clear e10 hs9 h9 hB9 hx9 hf10 hn10 n9
  go_wp2_with fail
  rw [rounds_succ]
  have e11 := cell_blk hs10 2
  simp only [List.getElem?_toArray, List.getElem?_cons_zero, List.getElem?_cons_succ] at e11
  go_wp2_with fail
  refine (Cr.out _ g _ _ h10 L8.out).mono ?_
  rintro e w11 ⟨rfl, v11, h11, hf11, hn11⟩
  have hs11 := hf11.at_ hs10 (h10.apart hs10 (by decide) (by decide))
  have hx11 := hf11.at_ hx10 (h10.apart hx10 (by decide) (by decide))
  have hB11 := hB10.fresh hf11 (WS_fresh HG.out n10)
  have n11 := n10.next hB10.size hn11
  clear e11 hs10 h10 hB10 hx10 hf11 hn11 n10
  go_wp2_with fail
  rw [rounds_succ]
  go_wp2_with fail
  clear hs11
  refine (wOut_calls w11 g _ _ h11).mono ?_
  rintro e w12 ⟨rfl, rfl⟩
  go_wp2_with fail
  go_ret2
  exact ⟨rets (by simp only [List.append_assoc, List.nil_append]) rfl, hA.trans hB11⟩
end Go.Proofs.Ytmnmmmoeeapeiaa.Cw

