/- The reference's Decode of an entry. Own work; printed by wip/mkdec.py. -/
import Derived.Test.YtmnmmmoeeapeiaaJal
import Derived.Test.YtmnmmmoeeapeiaaJam
import Derived.Test.YtmnmmmoeeapeiaaJao
namespace Go.Proofs.Ytmnmmmoeeapeiaa.Cw
open Go.RowKit
set_option linter.unusedVariables false
set_option linter.unusedSimpArgs false

/-- What is told of a text's entry: the entry, how many bytes it has, what is wrong. -/
def deV (a b c : Nat) (k t n : Nat) (p q r : ByteArray) (s z : ByteArray) (e : Nat) : Value :=
  if e = 0 then
    if Rt a b c p q r then .tuple #[enV a b c (zz k) (zz t) (zz n) p q r, .int .i64 ((s.size : Int) - z.size), .int .i64 0]
    else .tuple #[enV 0 0 0 0 0 0 ⟨#[]⟩ ⟨#[]⟩ ⟨#[]⟩, .int .i64 0, .int .i64 4]
  else .tuple #[enV 0 0 0 0 0 0 ⟨#[]⟩ ⟨#[]⟩ ⟨#[]⟩, .int .i64 0, .int .i64 e]

theorem ret3e {v x : Value} {a b c d : Int} (h0 : v = x) (h1 : a = b) (h2 : c = d) : Ending.returned (.tuple #[v, .int .i64 a, .int .i64 c]) = .returned (.tuple #[x, .int .i64 b, .int .i64 d]) := by rw [h0, h1, h2]

set_option maxRecDepth 100000 in
set_option maxHeartbeats 6400000 in
theorem refDecode_calls (w : World) (s : ByteArray) (hs : s.size ≤ maxLen) (a b c k t n : Nat) (p q r : ByteArray) (x1 x2 x3 x4 x5 x6 x7 x8 x9 : Nat) (t1 t2 t3 t4 t5 t6 t7 t8 t9 : ByteArray) (e1 e2 e3 e4 e5 e6 e7 e8 e9 : Nat)
    (E1 : rdN 9 127 s 0 = (a, x1, t1, e1)) (E2 : rdN 9 127 t1 e1 = (b, x2, t2, e2)) (E3 : rdN 9 127 t2 e2 = (c, x3, t3, e3)) (E4 : rdN 10 1 t3 e3 = (k, x4, t4, e4)) (E5 : rdN 10 1 t4 e4 = (t, x5, t5, e5)) (E6 : rdN 10 1 t5 e5 = (n, x6, t6, e6)) (E7 : rdT 4096 t6 e6 = (p, x7, t7, e7)) (E8 : rdT 4096 t7 e7 = (q, x8, t8, e8)) (E9 : rdT 4096 t8 e8 = (r, x9, t9, e9)) :
    Calls Try.prog 33 #[.string s] w fun e w' => e = .returned (deV a b c k t n p q r s t9 e9) ∧ Fr w w' (fun _ => False) := by
  have z1 := rdN_size 9 127 s 0
  rw [E1] at z1
  simp only at z1
  have z2 := rdN_size 9 127 t1 e1
  rw [E2] at z2
  simp only at z2
  have z3 := rdN_size 9 127 t2 e2
  rw [E3] at z3
  simp only at z3
  have z4 := rdN_size 10 1 t3 e3
  rw [E4] at z4
  simp only at z4
  have z5 := rdN_size 10 1 t4 e4
  rw [E5] at z5
  simp only at z5
  have z6 := rdN_size 10 1 t5 e5
  rw [E6] at z6
  simp only at z6
  have z7 := rdT_size 4096 t6 e6
  rw [E7] at z7
  simp only at z7
  have z8 := rdT_size 4096 t7 e7
  rw [E8] at z8
  simp only at z8
  have z9 := rdT_size 4096 t8 e8
  rw [E9] at z9
  simp only at z9
  have C1 := hid (fun (w : World) (g : Nat) (h : RR w g s 0) => qUint_calls w g s 0 h (by unfold maxLen at *; omega))
  rw [E1] at C1
  simp only at C1
  have C2 := hid (fun (w : World) (g : Nat) (h : RR w g t1 e1) => qUint_calls w g t1 e1 h (by unfold maxLen at *; omega))
  rw [E2] at C2
  simp only at C2
  have C3 := hid (fun (w : World) (g : Nat) (h : RR w g t2 e2) => qUint_calls w g t2 e2 h (by unfold maxLen at *; omega))
  rw [E3] at C3
  simp only at C3
  have C4 := hid (fun (w : World) (g : Nat) (h : RR w g t3 e3) => qInt_calls w g t3 e3 h (by unfold maxLen at *; omega))
  rw [E4] at C4
  simp only at C4
  have C5 := hid (fun (w : World) (g : Nat) (h : RR w g t4 e4) => qInt_calls w g t4 e4 h (by unfold maxLen at *; omega))
  rw [E5] at C5
  simp only at C5
  have C6 := hid (fun (w : World) (g : Nat) (h : RR w g t5 e5) => qInt_calls w g t5 e5 h (by unfold maxLen at *; omega))
  rw [E6] at C6
  simp only at C6
  have C7 := hid (fun (w : World) (g : Nat) (h : RR w g t6 e6) => qText_calls w g t6 e6 4096 (by decide) (by decide) h (by unfold maxLen at *; omega))
  rw [E7] at C7
  simp only at C7
  have C8 := hid (fun (w : World) (g : Nat) (h : RR w g t7 e7) => qText_calls w g t7 e7 4096 (by decide) (by decide) h (by unfold maxLen at *; omega))
  rw [E8] at C8
  simp only at C8
  have C9 := hid (fun (w : World) (g : Nat) (h : RR w g t8 e8) => qText_calls w g t8 e8 4096 (by decide) (by decide) h (by unfold maxLen at *; omega))
  rw [E9] at C9
  simp only at C9
  have Z9 : Hid (t9.size ≤ s.size ∧ s.size ≤ maxLen) := hid (by omega)
  clear E1 E2 E3 E4 E5 E6 E7 E8 E9 z1 z2 z3 z4 z5 z6 z7 z8 z9 hs
  generalize hDV : deV a b c k t n p q r s t9 e9 = DV
  have HDV := hid hDV
  clear hDV
  go_enter Try.func33, Try.ntmps33
  go_wp2_with fail
  have h0 : RR ((w.alloc (.cells #[.int .i64 0, .int .i64 0, .int .i64 0, .int .i64 0, .int .i64 0, .int .i64 0, .string ⟨#[]⟩, .string ⟨#[]⟩, .string ⟨#[]⟩] 52)).alloc (.cells #[.string s, .int .i64 0] 72)) (w.heap.size + 1) s 0 := by
    have := alloc_new (w.alloc (.cells #[.int .i64 0, .int .i64 0, .int .i64 0, .int .i64 0, .int .i64 0, .int .i64 0, .string ⟨#[]⟩, .string ⟨#[]⟩, .string ⟨#[]⟩] 52)) (.cells #[.string s, .int .i64 0] 72)
    rw [show (w.alloc (.cells #[.int .i64 0, .int .i64 0, .int .i64 0, .int .i64 0, .int .i64 0, .int .i64 0, .string ⟨#[]⟩, .string ⟨#[]⟩, .string ⟨#[]⟩] 52)).heap.size = w.heap.size + 1 by simp] at this
    exact this
  have hX0 := ((Fr.refl (w.alloc (.cells #[.int .i64 0, .int .i64 0, .int .i64 0, .int .i64 0, .int .i64 0, .int .i64 0, .string ⟨#[]⟩, .string ⟨#[]⟩, .string ⟨#[]⟩] 52)) (fun _ => False)).alloc (.cells #[.string s, .int .i64 0] 72)).at_ (alloc_new w (.cells #[.int .i64 0, .int .i64 0, .int .i64 0, .int .i64 0, .int .i64 0, .int .i64 0, .string ⟨#[]⟩, .string ⟨#[]⟩, .string ⟨#[]⟩] 52)) (fun x => x)
  have hA0 := ((Fr.refl w (fun _ => False)).alloc (.cells #[.int .i64 0, .int .i64 0, .int .i64 0, .int .i64 0, .int .i64 0, .int .i64 0, .string ⟨#[]⟩, .string ⟨#[]⟩, .string ⟨#[]⟩] 52)).alloc (.cells #[.string s, .int .i64 0] 72)
  generalize hgg : w.heap.size + 1 = g at h0 ⊢
  have HG := hid hgg
  clear hgg
  refine (C1.out _ g h0).mono ?_
  rintro e w1 ⟨rfl, h1, hf⟩
  have hA1 := hA0.fresh hf (fun i hi => by have := HG.out; omega)
  have hX1 := hf.at_ hX0 (fun x => by have := HG.out; omega)
  clear hf hA0 h0 hX0
  go_wp2_with fail
  refine (C2.out _ g h1).mono ?_
  rintro e w2 ⟨rfl, h2, hf⟩
  have hA2 := hA1.fresh hf (fun i hi => by have := HG.out; omega)
  have hX2 := hf.at_ hX1 (fun x => by have := HG.out; omega)
  clear hf hA1 h1 hX1
  go_wp2_with fail
  refine (C3.out _ g h2).mono ?_
  rintro e w3 ⟨rfl, h3, hf⟩
  have hA3 := hA2.fresh hf (fun i hi => by have := HG.out; omega)
  have hX3 := hf.at_ hX2 (fun x => by have := HG.out; omega)
  clear hf hA2 h2 hX2
  go_wp2_with fail
  refine (C4.out _ g h3).mono ?_
  rintro e w4 ⟨rfl, h4, hf⟩
  have hA4 := hA3.fresh hf (fun i hi => by have := HG.out; omega)
  have hX4 := hf.at_ hX3 (fun x => by have := HG.out; omega)
  clear hf hA3 h3 hX3
  go_wp2_with fail
  refine (C5.out _ g h4).mono ?_
  rintro e w5 ⟨rfl, h5, hf⟩
  have hA5 := hA4.fresh hf (fun i hi => by have := HG.out; omega)
  have hX5 := hf.at_ hX4 (fun x => by have := HG.out; omega)
  clear hf hA4 h4 hX4
  go_wp2_with fail
  refine (C6.out _ g h5).mono ?_
  rintro e w6 ⟨rfl, h6, hf⟩
  have hA6 := hA5.fresh hf (fun i hi => by have := HG.out; omega)
  have hX6 := hf.at_ hX5 (fun x => by have := HG.out; omega)
  clear hf hA5 h5 hX5
  go_wp2_with fail
  refine (C7.out _ g h6).mono ?_
  rintro e w7 ⟨rfl, h7, hf⟩
  have hA7 := hA6.fresh hf (fun i hi => by have := HG.out; omega)
  have hX7 := hf.at_ hX6 (fun x => by have := HG.out; omega)
  clear hf hA6 h6 hX6
  go_wp2_with fail
  refine (C8.out _ g h7).mono ?_
  rintro e w8 ⟨rfl, h8, hf⟩
  have hA8 := hA7.fresh hf (fun i hi => by have := HG.out; omega)
  have hX8 := hf.at_ hX7 (fun x => by have := HG.out; omega)
  clear hf hA7 h7 hX7
  go_wp2_with fail
  refine (C9.out _ g h8).mono ?_
  rintro e w9 ⟨rfl, h9, hf⟩
  have hA9 := hA8.fresh hf (fun i hi => by have := HG.out; omega)
  have hX9 := hf.at_ hX8 (fun x => by have := HG.out; omega)
  clear hf hA8 h8 hX8
  have hXE := ((Fr.refl w9 (fun _ => False)).alloc (.cells #[.int .i64 a, .int .i64 b, .int .i64 c, .int .i64 (zz k), .int .i64 (zz t), .int .i64 (zz n), .string p, .string q, .string r] 52)).at_ hX9 (fun x => x)
  have hA9s : w.heap.size < w9.heap.size := blk_lt hX9
  have hg9 : g < w9.heap.size := blk_lt h9
  have hE := h9.fr ((Fr.refl w9 (fun _ => False)).alloc (.cells #[.int .i64 a, .int .i64 b, .int .i64 c, .int .i64 (zz k), .int .i64 (zz t), .int .i64 (zz n), .string p, .string q, .string r] 52)) (fun x => x)
  have hxE := alloc_new w9 (.cells #[.int .i64 a, .int .i64 b, .int .i64 c, .int .i64 (zz k), .int .i64 (zz t), .int .i64 (zz n), .string p, .string q, .string r] 52)
  have hAE := hA9.alloc (.cells #[.int .i64 a, .int .i64 b, .int .i64 c, .int .i64 (zz k), .int .i64 (zz t), .int .i64 (zz n), .string p, .string q, .string r] 52)
  have d0 := hE.c0
  have d1 := hE.c1
  have c0 := cell_blk hxE 0
  have c1 := cell_blk hxE 1
  have c2 := cell_blk hxE 2
  have c3 := cell_blk hxE 3
  have c4 := cell_blk hxE 4
  have c5 := cell_blk hxE 5
  have c6 := cell_blk hxE 6
  have c7 := cell_blk hxE 7
  have c8 := cell_blk hxE 8
  simp only [List.getElem?_toArray, List.getElem?_cons_zero, List.getElem?_cons_succ] at c0 c1 c2 c3 c4 c5 c6 c7 c8
  by_cases he : e9 = 0
  · subst he
    by_cases hR : Rt a b c p q r
    · have RC := hid (fun w => refRight_calls w a b c (zz k) (zz t) (zz n) p q r)
      rw [decide_eq_true hR] at RC
      unfold enV at RC
      have HR := hid hR
      clear hR
      go_wp2_with fail
      refine (RC.out _).mono ?_
      rintro e w10 ⟨rfl, hf⟩
      have h10 := hE.fr hf (fun x => x)
      have hx10 := hf.at_ hxE (fun x => x)
      have hA10 := hAE.trans hf
      have hf0 := hf
      clear d0 d1 c0 c1 c2 c3 c4 c5 c6 c7 c8 hf hA9 h9 hE hxE hAE
      have d0 := h10.c0
      have c0 := cell_blk hx10 0
      have c1 := cell_blk hx10 1
      have c2 := cell_blk hx10 2
      have c3 := cell_blk hx10 3
      have c4 := cell_blk hx10 4
      have c5 := cell_blk hx10 5
      have c6 := cell_blk hx10 6
      have c7 := cell_blk hx10 7
      have c8 := cell_blk hx10 8
      simp only [List.getElem?_toArray, List.getElem?_cons_zero, List.getElem?_cons_succ] at c0 c1 c2 c3 c4 c5 c6 c7 c8
      have hX10 := hf0.at_ hXE (fun x => x)
      have r0 := cell_blk hX10 0
      have f0 := free_blk hX10 0
      have r1 := cell_blk hX10 1
      have f1 := free_blk hX10 1
      have r2 := cell_blk hX10 2
      have f2 := free_blk hX10 2
      have r3 := cell_blk hX10 3
      have f3 := free_blk hX10 3
      have r4 := cell_blk hX10 4
      have f4 := free_blk hX10 4
      have r5 := cell_blk hX10 5
      have f5 := free_blk hX10 5
      have r6 := cell_blk hX10 6
      have f6 := free_blk hX10 6
      have r7 := cell_blk hX10 7
      have f7 := free_blk hX10 7
      have r8 := cell_blk hX10 8
      have f8 := free_blk hX10 8
      simp only [List.getElem?_toArray, List.getElem?_cons_zero, List.getElem?_cons_succ] at r0 r1 r2 r3 r4 r5 r6 r7 r8
      have hn1 : w.heap.size ≠ g := by have := HG.out; omega
      have hn2 : w.heap.size ≠ w9.heap.size := by have := hA9s; omega
      have hn3 : g ≠ w9.heap.size := by have := hg9; omega
      have HX := hX10
      clear hX10 hx10 h10 hf0 hXE
      go_wp2_with fail
      go_region
      go_wp2_with fail
      (try simp only [Exit.inBlock, Exit.then])
      refine bodyPost_ret (results_entry rfl _ _ _ rfl (load9 (v0 := (.int .i64 a)) (v1 := (.int .i64 b)) (v2 := (.int .i64 c)) (v3 := (.int .i64 (zz k))) (v4 := (.int .i64 (zz t))) (v5 := (.int .i64 (zz n))) (v6 := (.string p)) (v7 := (.string q)) (v8 := (.string r)) (t := 52) ?hb)) rfl ?_
      case hb =>
        (try rw [heap_drw])
        exact set9 (.int .i64 a) (.int .i64 b) (.int .i64 c) (.int .i64 (zz k)) (.int .i64 (zz t)) (.int .i64 (zz n)) (.string p) (.string q) (.string r) HX
      rw [← HDV.out]
      unfold deV
      rw [if_pos rfl, if_pos HR.out]
      refine ⟨ret3e rfl ?_ rfl, Fr.drew (fr9 (.int .i64 a) (.int .i64 b) (.int .i64 c) (.int .i64 (zz k)) (.int .i64 (zz t)) (.int .i64 (zz n)) (.string p) (.string q) (.string r) hA10 (Nat.le_refl _))⟩
      have h1 := Z9.out.1
      have h2 := Z9.out.2
      unfold maxLen at h2
      exact wrap64_in _ (by omega) (by omega)
    · have RC := hid (fun w => refRight_calls w a b c (zz k) (zz t) (zz n) p q r)
      rw [decide_eq_false hR] at RC
      unfold enV at RC
      have HR := hid hR
      clear hR
      go_wp2_with fail
      refine (RC.out _).mono ?_
      rintro e w10 ⟨rfl, hf⟩
      have hX10 := hf.at_ hXE (fun x => x)
      have r0 := cell_blk hX10 0
      have f0 := free_blk hX10 0
      have r1 := cell_blk hX10 1
      have f1 := free_blk hX10 1
      have r2 := cell_blk hX10 2
      have f2 := free_blk hX10 2
      have r3 := cell_blk hX10 3
      have f3 := free_blk hX10 3
      have r4 := cell_blk hX10 4
      have f4 := free_blk hX10 4
      have r5 := cell_blk hX10 5
      have f5 := free_blk hX10 5
      have r6 := cell_blk hX10 6
      have f6 := free_blk hX10 6
      have r7 := cell_blk hX10 7
      have f7 := free_blk hX10 7
      have r8 := cell_blk hX10 8
      have f8 := free_blk hX10 8
      simp only [List.getElem?_toArray, List.getElem?_cons_zero, List.getElem?_cons_succ] at r0 r1 r2 r3 r4 r5 r6 r7 r8
      go_wp2_with fail
      (try simp only [Exit.inBlock, Exit.then])
      refine bodyPost_ret (results_entry rfl _ _ _ rfl (load9 (v0 := (.int .i64 0)) (v1 := (.int .i64 0)) (v2 := (.int .i64 0)) (v3 := (.int .i64 0)) (v4 := (.int .i64 0)) (v5 := (.int .i64 0)) (v6 := (.string ⟨#[]⟩)) (v7 := (.string ⟨#[]⟩)) (v8 := (.string ⟨#[]⟩)) (t := 52) ?hb)) rfl ?_
      case hb => exact set9 (.int .i64 0) (.int .i64 0) (.int .i64 0) (.int .i64 0) (.int .i64 0) (.int .i64 0) (.string ⟨#[]⟩) (.string ⟨#[]⟩) (.string ⟨#[]⟩) hX10
      rw [← HDV.out]
      unfold deV
      rw [if_pos rfl, if_neg HR.out]
      exact ⟨rfl, fr9 (.int .i64 0) (.int .i64 0) (.int .i64 0) (.int .i64 0) (.int .i64 0) (.int .i64 0) (.string ⟨#[]⟩) (.string ⟨#[]⟩) (.string ⟨#[]⟩) (hAE.trans hf) (Nat.le_refl _)⟩
  · have hb : ((e9 : Int) != 0) = true := by rw [bne_iff_ne]; omega
    have HE := hid he
    clear he
    have r0 := cell_blk hX9 0
    have f0 := free_blk hX9 0
    have r1 := cell_blk hX9 1
    have f1 := free_blk hX9 1
    have r2 := cell_blk hX9 2
    have f2 := free_blk hX9 2
    have r3 := cell_blk hX9 3
    have f3 := free_blk hX9 3
    have r4 := cell_blk hX9 4
    have f4 := free_blk hX9 4
    have r5 := cell_blk hX9 5
    have f5 := free_blk hX9 5
    have r6 := cell_blk hX9 6
    have f6 := free_blk hX9 6
    have r7 := cell_blk hX9 7
    have f7 := free_blk hX9 7
    have r8 := cell_blk hX9 8
    have f8 := free_blk hX9 8
    simp only [List.getElem?_toArray, List.getElem?_cons_zero, List.getElem?_cons_succ] at r0 r1 r2 r3 r4 r5 r6 r7 r8
    have q0 := h9.c0
    have q1 := h9.c1
    have hn1 : w.heap.size ≠ g := by have := HG.out; omega
    go_wp2_with fail
    go_region
    all_goals go_wp2_with fail
    (try simp only [Exit.inBlock, Exit.then])
    refine bodyPost_ret (results_entry rfl _ _ _ rfl (load9 (v0 := (.int .i64 0)) (v1 := (.int .i64 0)) (v2 := (.int .i64 0)) (v3 := (.int .i64 0)) (v4 := (.int .i64 0)) (v5 := (.int .i64 0)) (v6 := (.string ⟨#[]⟩)) (v7 := (.string ⟨#[]⟩)) (v8 := (.string ⟨#[]⟩)) (t := 52) ?hb)) rfl ?_
    case hb =>
      rw [heap_drw]
      exact (Below.heap_alloc _ _ _ (blk_lt (set9 (.int .i64 0) (.int .i64 0) (.int .i64 0) (.int .i64 0) (.int .i64 0) (.int .i64 0) (.string ⟨#[]⟩) (.string ⟨#[]⟩) (.string ⟨#[]⟩) hX9))).trans (set9 (.int .i64 0) (.int .i64 0) (.int .i64 0) (.int .i64 0) (.int .i64 0) (.int .i64 0) (.string ⟨#[]⟩) (.string ⟨#[]⟩) (.string ⟨#[]⟩) hX9)
    rw [← HDV.out]
    unfold deV
    rw [if_neg HE.out]
    exact ⟨rfl, Fr.drew (Fr.alloc (fr9 (.int .i64 0) (.int .i64 0) (.int .i64 0) (.int .i64 0) (.int .i64 0) (.int .i64 0) (.string ⟨#[]⟩) (.string ⟨#[]⟩) (.string ⟨#[]⟩) hA9 (Nat.le_refl _)) _)⟩
end Go.Proofs.Ytmnmmmoeeapeiaa.Cw

