/- replog's Decode of an entry. Own work; printed. -/
import Derived.Test.YtmnmmmoeeapeiaaJap
namespace Go.Proofs.Ytmnmmmoeeapeiaa.Cw
open Go.RowKit
set_option linter.unusedVariables false
set_option linter.unusedSimpArgs false

set_option maxRecDepth 100000 in
set_option maxHeartbeats 6400000 in
theorem decode_calls (w : World) (s : ByteArray) (hs : s.size ≤ maxLen) (a b c k t n : Nat) (p q r : ByteArray) (x1 x2 x3 x4 x5 x6 x7 x8 x9 : Nat) (t1 t2 t3 t4 t5 t6 t7 t8 t9 : ByteArray) (e1 e2 e3 e4 e5 e6 e7 e8 e9 : Nat)
    (E1 : rdN 9 127 s 0 = (a, x1, t1, e1)) (E2 : rdN 9 127 t1 e1 = (b, x2, t2, e2)) (E3 : rdN 9 127 t2 e2 = (c, x3, t3, e3)) (E4 : rdN 10 1 t3 e3 = (k, x4, t4, e4)) (E5 : rdN 10 1 t4 e4 = (t, x5, t5, e5)) (E6 : rdN 10 1 t5 e5 = (n, x6, t6, e6)) (E7 : rdT 4096 t6 e6 = (p, x7, t7, e7)) (E8 : rdT 4096 t7 e7 = (q, x8, t8, e8)) (E9 : rdT 4096 t8 e8 = (r, x9, t9, e9)) :
    Calls Try.prog 46 #[.string s] w fun e w' => e = .returned (deV a b c k t n p q r s t9 e9) ∧ Fr w w' (fun _ => False) := by
  have hx9 : x9 = e9 := by
    have := rdT_same 4096 t8 e8 (by omega)
    rw [E9] at this
    exact this
  subst hx9
  have z1 := rdN_size 9 127 s 0
  rw [E1] at z1
  simp only at z1
  have z2 := rdN_size 9 127 t1 e1
  rw [E2] at z2
  simp only at z2
  have z3 := rdN_size 9 127 t2 e2
  rw [E3] at z3
  simp only at z3
  have z4 := rdN_size 10 1 t3 e3
  rw [E4] at z4
  simp only at z4
  have z5 := rdN_size 10 1 t4 e4
  rw [E5] at z5
  simp only at z5
  have z6 := rdN_size 10 1 t5 e5
  rw [E6] at z6
  simp only at z6
  have z7 := rdT_size 4096 t6 e6
  rw [E7] at z7
  simp only at z7
  have z8 := rdT_size 4096 t7 e7
  rw [E8] at z8
  simp only at z8
  have z9 := rdT_size 4096 t8 e8
  rw [E9] at z9
  simp only at z9
  have C1 := hid (fun (w : World) (g : Nat) (h : Rd w g s 0) => rUint_calls w g s 0 h (by unfold maxLen at *; omega))
  rw [E1] at C1
  simp only at C1
  have C2 := hid (fun (w : World) (g : Nat) (h : Rd w g t1 e1) => rUint_calls w g t1 e1 h (by unfold maxLen at *; omega))
  rw [E2] at C2
  simp only at C2
  have C3 := hid (fun (w : World) (g : Nat) (h : Rd w g t2 e2) => rUint_calls w g t2 e2 h (by unfold maxLen at *; omega))
  rw [E3] at C3
  simp only at C3
  have C4 := hid (fun (w : World) (g : Nat) (h : Rd w g t3 e3) => rInt_calls w g t3 e3 h (by unfold maxLen at *; omega))
  rw [E4] at C4
  simp only at C4
  have C5 := hid (fun (w : World) (g : Nat) (h : Rd w g t4 e4) => rInt_calls w g t4 e4 h (by unfold maxLen at *; omega))
  rw [E5] at C5
  simp only at C5
  have C6 := hid (fun (w : World) (g : Nat) (h : Rd w g t5 e5) => rInt_calls w g t5 e5 h (by unfold maxLen at *; omega))
  rw [E6] at C6
  simp only at C6
  have C7 := hid (fun (w : World) (g : Nat) (h : Rd w g t6 e6) => rText_calls w g t6 e6 4096 (by decide) (by decide) h (by unfold maxLen at *; omega))
  rw [E7] at C7
  simp only at C7
  have C8 := hid (fun (w : World) (g : Nat) (h : Rd w g t7 e7) => rText_calls w g t7 e7 4096 (by decide) (by decide) h (by unfold maxLen at *; omega))
  rw [E8] at C8
  simp only at C8
  have C9 := hid (fun (w : World) (g : Nat) (h : Rd w g t8 e8) => rText_calls w g t8 e8 4096 (by decide) (by decide) h (by unfold maxLen at *; omega))
  rw [E9] at C9
  simp only at C9
  have Z9 : Hid (t9.size ≤ s.size ∧ s.size ≤ maxLen) := hid (by omega)
  clear E1 E2 E3 E4 E5 E6 E7 E8 E9 z1 z2 z3 z4 z5 z6 z7 z8 z9 hs
  generalize hDV : deV a b c k t n p q r s t9 x9 = DV
  have HDV := hid hDV
  clear hDV
  go_enter Try.func46, Try.ntmps46
  go_wp2_with fail
  have hA0 := (Fr.refl w (fun _ => False)).alloc (.cells #[.int .i64 0, .int .i64 0, .int .i64 0, .int .i64 0, .int .i64 0, .int .i64 0, .string ⟨#[]⟩, .string ⟨#[]⟩, .string ⟨#[]⟩] 52)
  have hR0 := alloc_new w (.cells #[.int .i64 0, .int .i64 0, .int .i64 0, .int .i64 0, .int .i64 0, .int .i64 0, .string ⟨#[]⟩, .string ⟨#[]⟩, .string ⟨#[]⟩] 52)
  have hs0 : (w.alloc (.cells #[.int .i64 0, .int .i64 0, .int .i64 0, .int .i64 0, .int .i64 0, .int .i64 0, .string ⟨#[]⟩, .string ⟨#[]⟩, .string ⟨#[]⟩] 52)).heap.size = w.heap.size + 1 := by simp
  refine (of_calls _ s).mono ?_
  rintro e w1 ⟨rfl, h1, hf1⟩
  rw [hs0] at h1
  generalize hgg : w.heap.size + 1 = gr at h1
  have hR1 := hf1.at_ hR0 (fun x => x)
  have hA1 := hA0.trans hf1
  have HB := hid (blk_lt h1)
  have HG := hid hgg
  clear hR0 hA0 hf1
  go_wp2_with fail
  have hs1 : (w1.alloc (.cells #[.int .i64 0, .int .i64 0, .int .i64 0, .int .i64 0, .int .i64 0, .int .i64 0, .string ⟨#[]⟩, .string ⟨#[]⟩, .string ⟨#[]⟩] 52)).heap.size = w1.heap.size + 1 := by simp
  have hE := ((Fr.refl (w1.alloc (.cells #[.int .i64 0, .int .i64 0, .int .i64 0, .int .i64 0, .int .i64 0, .int .i64 0, .string ⟨#[]⟩, .string ⟨#[]⟩, .string ⟨#[]⟩] 52)) (fun _ => False)).alloc (.cells #[.pointer (some ⟨w1.heap.size, 0, none⟩), .pointer (some ⟨w1.heap.size, 1, none⟩), .pointer (some ⟨w1.heap.size, 2, none⟩)] 110)).at_ (alloc_new w1 (.cells #[.int .i64 0, .int .i64 0, .int .i64 0, .int .i64 0, .int .i64 0, .int .i64 0, .string ⟨#[]⟩, .string ⟨#[]⟩, .string ⟨#[]⟩] 52)) (fun x => x)
  have hS := alloc_new (w1.alloc (.cells #[.int .i64 0, .int .i64 0, .int .i64 0, .int .i64 0, .int .i64 0, .int .i64 0, .string ⟨#[]⟩, .string ⟨#[]⟩, .string ⟨#[]⟩] 52)) (.cells #[.pointer (some ⟨w1.heap.size, 0, none⟩), .pointer (some ⟨w1.heap.size, 1, none⟩), .pointer (some ⟨w1.heap.size, 2, none⟩)] 110)
  rw [hs1] at hS
  have hh := (h1.alloc (.cells #[.int .i64 0, .int .i64 0, .int .i64 0, .int .i64 0, .int .i64 0, .int .i64 0, .string ⟨#[]⟩, .string ⟨#[]⟩, .string ⟨#[]⟩] 52)).alloc (.cells #[.pointer (some ⟨w1.heap.size, 0, none⟩), .pointer (some ⟨w1.heap.size, 1, none⟩), .pointer (some ⟨w1.heap.size, 2, none⟩)] 110)
  have hR := (((Fr.refl w1 (fun _ => False)).alloc (.cells #[.int .i64 0, .int .i64 0, .int .i64 0, .int .i64 0, .int .i64 0, .int .i64 0, .string ⟨#[]⟩, .string ⟨#[]⟩, .string ⟨#[]⟩] 52)).alloc (.cells #[.pointer (some ⟨w1.heap.size, 0, none⟩), .pointer (some ⟨w1.heap.size, 1, none⟩), .pointer (some ⟨w1.heap.size, 2, none⟩)] 110)).at_ hR1 (fun x => x)
  have hA := (hA1.alloc (.cells #[.int .i64 0, .int .i64 0, .int .i64 0, .int .i64 0, .int .i64 0, .int .i64 0, .string ⟨#[]⟩, .string ⟨#[]⟩, .string ⟨#[]⟩] 52)).alloc (.cells #[.pointer (some ⟨w1.heap.size, 0, none⟩), .pointer (some ⟨w1.heap.size, 1, none⟩), .pointer (some ⟨w1.heap.size, 2, none⟩)] 110)
  clear h1 hR1 hA1 hs1 hs0
  generalize hw1 : w1.heap.size = eb at *
  have HW : Hid (w1.heap.size = eb) := hid hw1
  clear hw1
  generalize hsb : eb + 1 = sb at *
  have HS0 : Hid (eb < sb) := hid (by omega)
  clear hsb
  generalize (w1.alloc (.cells #[.int .i64 0, .int .i64 0, .int .i64 0, .int .i64 0, .int .i64 0, .int .i64 0, .string ⟨#[]⟩, .string ⟨#[]⟩, .string ⟨#[]⟩] 52)).alloc (.cells #[.pointer (some ⟨eb, 0, none⟩), .pointer (some ⟨eb, 1, none⟩), .pointer (some ⟨eb, 2, none⟩)] 110) = u1 at *
  refine wp_loop_rounds 4 ?_
  rw [rounds_succ]
  have e0 := cell_blk hS 0
  simp only [List.getElem?_toArray, List.getElem?_cons_zero, List.getElem?_cons_succ] at e0
  go_wp2_with fail
  refine (C1.out _ gr hh).mono ?_
  rintro e v2 ⟨rfl, h2, hf⟩
  have hE2 := hf.at_ hE (fun x => by have := HG.out; have := HB.out; have := HS0.out; omega)
  have hS2 := hf.at_ hS (fun x => by have := HG.out; have := HB.out; have := HS0.out; omega)
  have hR2 := hf.at_ hR (fun x => by have := HG.out; have := HB.out; have := HS0.out; omega)
  have hA2 := hA.fresh hf (fun i hi => by have := HG.out; have := HB.out; have := HS0.out; omega)
  clear e0 hh hE hS hR hA hf
  have y := cell_blk hE2 0
  have z := free_blk hE2 0
  simp only [List.getElem?_toArray, List.getElem?_cons_zero, List.getElem?_cons_succ] at y
  go_wp2_with fail
  have hf := Fr.set1 v2 eb 0 (.int .i64 a)
  have hh := h2.fr hf (fun x => by have := HG.out; have := HB.out; have := HS0.out; omega)
  have hE := set_blk hE2 0 (.int .i64 a)
  simp only [List.setIfInBounds_toArray, List.set_cons_zero, List.set_cons_succ] at hE
  have hS := hf.at_ hS2 (fun x => by have := HG.out; have := HB.out; have := HS0.out; omega)
  have hR := hf.at_ hR2 (fun x => by have := HG.out; have := HB.out; have := HS0.out; omega)
  have hA := hA2.fresh hf (fun i hi => by have := HG.out; have := HB.out; have := HS0.out; omega)
  clear y z h2 hE2 hS2 hR2 hA2 hf
  generalize v2.setCell ⟨eb, 0, none⟩ (.int .i64 a) = u2 at *
  rw [rounds_succ]
  have e0 := cell_blk hS 1
  simp only [List.getElem?_toArray, List.getElem?_cons_zero, List.getElem?_cons_succ] at e0
  go_wp2_with fail
  refine (C2.out _ gr hh).mono ?_
  rintro e v3 ⟨rfl, h2, hf⟩
  have hE2 := hf.at_ hE (fun x => by have := HG.out; have := HB.out; have := HS0.out; omega)
  have hS2 := hf.at_ hS (fun x => by have := HG.out; have := HB.out; have := HS0.out; omega)
  have hR2 := hf.at_ hR (fun x => by have := HG.out; have := HB.out; have := HS0.out; omega)
  have hA2 := hA.fresh hf (fun i hi => by have := HG.out; have := HB.out; have := HS0.out; omega)
  clear e0 hh hE hS hR hA hf
  have y := cell_blk hE2 1
  have z := free_blk hE2 1
  simp only [List.getElem?_toArray, List.getElem?_cons_zero, List.getElem?_cons_succ] at y
  go_wp2_with fail
  have hf := Fr.set1 v3 eb 1 (.int .i64 b)
  have hh := h2.fr hf (fun x => by have := HG.out; have := HB.out; have := HS0.out; omega)
  have hE := set_blk hE2 1 (.int .i64 b)
  simp only [List.setIfInBounds_toArray, List.set_cons_zero, List.set_cons_succ] at hE
  have hS := hf.at_ hS2 (fun x => by have := HG.out; have := HB.out; have := HS0.out; omega)
  have hR := hf.at_ hR2 (fun x => by have := HG.out; have := HB.out; have := HS0.out; omega)
  have hA := hA2.fresh hf (fun i hi => by have := HG.out; have := HB.out; have := HS0.out; omega)
  clear y z h2 hE2 hS2 hR2 hA2 hf
  generalize v3.setCell ⟨eb, 1, none⟩ (.int .i64 b) = u3 at *
  rw [rounds_succ]
  have e0 := cell_blk hS 2
  simp only [List.getElem?_toArray, List.getElem?_cons_zero, List.getElem?_cons_succ] at e0
  go_wp2_with fail
  refine (C3.out _ gr hh).mono ?_
  rintro e v4 ⟨rfl, h2, hf⟩
  have hE2 := hf.at_ hE (fun x => by have := HG.out; have := HB.out; have := HS0.out; omega)
  have hS2 := hf.at_ hS (fun x => by have := HG.out; have := HB.out; have := HS0.out; omega)
  have hR2 := hf.at_ hR (fun x => by have := HG.out; have := HB.out; have := HS0.out; omega)
  have hA2 := hA.fresh hf (fun i hi => by have := HG.out; have := HB.out; have := HS0.out; omega)
  clear e0 hh hE hS hR hA hf
  have y := cell_blk hE2 2
  have z := free_blk hE2 2
  simp only [List.getElem?_toArray, List.getElem?_cons_zero, List.getElem?_cons_succ] at y
  go_wp2_with fail
  have hf := Fr.set1 v4 eb 2 (.int .i64 c)
  have hh := h2.fr hf (fun x => by have := HG.out; have := HB.out; have := HS0.out; omega)
  have hE := set_blk hE2 2 (.int .i64 c)
  simp only [List.setIfInBounds_toArray, List.set_cons_zero, List.set_cons_succ] at hE
  have hS := hf.at_ hS2 (fun x => by have := HG.out; have := HB.out; have := HS0.out; omega)
  have hR := hf.at_ hR2 (fun x => by have := HG.out; have := HB.out; have := HS0.out; omega)
  have hA := hA2.fresh hf (fun i hi => by have := HG.out; have := HB.out; have := HS0.out; omega)
  clear y z h2 hE2 hS2 hR2 hA2 hf
  generalize v4.setCell ⟨eb, 2, none⟩ (.int .i64 c) = u4 at *
  clear hS
  rw [rounds_succ]
  go_wp2_with fail
  have hS := alloc_new u4 (.cells #[.pointer (some ⟨eb, 3, none⟩), .pointer (some ⟨eb, 4, none⟩), .pointer (some ⟨eb, 5, none⟩)] 110)
  have hE2 := ((Fr.refl u4 (fun _ => False)).alloc (.cells #[.pointer (some ⟨eb, 3, none⟩), .pointer (some ⟨eb, 4, none⟩), .pointer (some ⟨eb, 5, none⟩)] 110)).at_ hE (fun x => x)
  have hh2 := hh.alloc (.cells #[.pointer (some ⟨eb, 3, none⟩), .pointer (some ⟨eb, 4, none⟩), .pointer (some ⟨eb, 5, none⟩)] 110)
  have hR2 := ((Fr.refl u4 (fun _ => False)).alloc (.cells #[.pointer (some ⟨eb, 3, none⟩), .pointer (some ⟨eb, 4, none⟩), .pointer (some ⟨eb, 5, none⟩)] 110)).at_ hR (fun x => x)
  have hA2 := hA.alloc (.cells #[.pointer (some ⟨eb, 3, none⟩), .pointer (some ⟨eb, 4, none⟩), .pointer (some ⟨eb, 5, none⟩)] 110)
  have HS1 := hid (blk_lt hE)
  clear hE hh hR hA
  generalize u4.heap.size = sb at *
  generalize u4.alloc (.cells #[.pointer (some ⟨eb, 3, none⟩), .pointer (some ⟨eb, 4, none⟩), .pointer (some ⟨eb, 5, none⟩)] 110) = u11 at *
  have hE := hE2
  have hh := hh2
  have hR := hR2
  have hA := hA2
  clear hE2 hh2 hR2 hA2
  refine wp_loop_rounds 4 ?_
  rw [rounds_succ]
  have e0 := cell_blk hS 0
  simp only [List.getElem?_toArray, List.getElem?_cons_zero, List.getElem?_cons_succ] at e0
  go_wp2_with fail
  refine (C4.out _ gr hh).mono ?_
  rintro e v5 ⟨rfl, h2, hf⟩
  have hE2 := hf.at_ hE (fun x => by have := HG.out; have := HB.out; have := HS1.out; omega)
  have hS2 := hf.at_ hS (fun x => by have := HG.out; have := HB.out; have := HS1.out; omega)
  have hR2 := hf.at_ hR (fun x => by have := HG.out; have := HB.out; have := HS1.out; omega)
  have hA2 := hA.fresh hf (fun i hi => by have := HG.out; have := HB.out; have := HS1.out; omega)
  clear e0 hh hE hS hR hA hf
  have y := cell_blk hE2 3
  have z := free_blk hE2 3
  simp only [List.getElem?_toArray, List.getElem?_cons_zero, List.getElem?_cons_succ] at y
  go_wp2_with fail
  have hf := Fr.set1 v5 eb 3 (.int .i64 (zz k))
  have hh := h2.fr hf (fun x => by have := HG.out; have := HB.out; have := HS1.out; omega)
  have hE := set_blk hE2 3 (.int .i64 (zz k))
  simp only [List.setIfInBounds_toArray, List.set_cons_zero, List.set_cons_succ] at hE
  have hS := hf.at_ hS2 (fun x => by have := HG.out; have := HB.out; have := HS1.out; omega)
  have hR := hf.at_ hR2 (fun x => by have := HG.out; have := HB.out; have := HS1.out; omega)
  have hA := hA2.fresh hf (fun i hi => by have := HG.out; have := HB.out; have := HS1.out; omega)
  clear y z h2 hE2 hS2 hR2 hA2 hf
  generalize v5.setCell ⟨eb, 3, none⟩ (.int .i64 (zz k)) = u5 at *
  rw [rounds_succ]
  have e0 := cell_blk hS 1
  simp only [List.getElem?_toArray, List.getElem?_cons_zero, List.getElem?_cons_succ] at e0
  go_wp2_with fail
  refine (C5.out _ gr hh).mono ?_
  rintro e v6 ⟨rfl, h2, hf⟩
  have hE2 := hf.at_ hE (fun x => by have := HG.out; have := HB.out; have := HS1.out; omega)
  have hS2 := hf.at_ hS (fun x => by have := HG.out; have := HB.out; have := HS1.out; omega)
  have hR2 := hf.at_ hR (fun x => by have := HG.out; have := HB.out; have := HS1.out; omega)
  have hA2 := hA.fresh hf (fun i hi => by have := HG.out; have := HB.out; have := HS1.out; omega)
  clear e0 hh hE hS hR hA hf
  have y := cell_blk hE2 4
  have z := free_blk hE2 4
  simp only [List.getElem?_toArray, List.getElem?_cons_zero, List.getElem?_cons_succ] at y
  go_wp2_with fail
  have hf := Fr.set1 v6 eb 4 (.int .i64 (zz t))
  have hh := h2.fr hf (fun x => by have := HG.out; have := HB.out; have := HS1.out; omega)
  have hE := set_blk hE2 4 (.int .i64 (zz t))
  simp only [List.setIfInBounds_toArray, List.set_cons_zero, List.set_cons_succ] at hE
  have hS := hf.at_ hS2 (fun x => by have := HG.out; have := HB.out; have := HS1.out; omega)
  have hR := hf.at_ hR2 (fun x => by have := HG.out; have := HB.out; have := HS1.out; omega)
  have hA := hA2.fresh hf (fun i hi => by have := HG.out; have := HB.out; have := HS1.out; omega)
  clear y z h2 hE2 hS2 hR2 hA2 hf
  generalize v6.setCell ⟨eb, 4, none⟩ (.int .i64 (zz t)) = u6 at *
  rw [rounds_succ]
  have e0 := cell_blk hS 2
  simp only [List.getElem?_toArray, List.getElem?_cons_zero, List.getElem?_cons_succ] at e0
  go_wp2_with fail
  refine (C6.out _ gr hh).mono ?_
  rintro e v7 ⟨rfl, h2, hf⟩
  have hE2 := hf.at_ hE (fun x => by have := HG.out; have := HB.out; have := HS1.out; omega)
  have hS2 := hf.at_ hS (fun x => by have := HG.out; have := HB.out; have := HS1.out; omega)
  have hR2 := hf.at_ hR (fun x => by have := HG.out; have := HB.out; have := HS1.out; omega)
  have hA2 := hA.fresh hf (fun i hi => by have := HG.out; have := HB.out; have := HS1.out; omega)
  clear e0 hh hE hS hR hA hf
  have y := cell_blk hE2 5
  have z := free_blk hE2 5
  simp only [List.getElem?_toArray, List.getElem?_cons_zero, List.getElem?_cons_succ] at y
  go_wp2_with fail
  have hf := Fr.set1 v7 eb 5 (.int .i64 (zz n))
  have hh := h2.fr hf (fun x => by have := HG.out; have := HB.out; have := HS1.out; omega)
  have hE := set_blk hE2 5 (.int .i64 (zz n))
  simp only [List.setIfInBounds_toArray, List.set_cons_zero, List.set_cons_succ] at hE
  have hS := hf.at_ hS2 (fun x => by have := HG.out; have := HB.out; have := HS1.out; omega)
  have hR := hf.at_ hR2 (fun x => by have := HG.out; have := HB.out; have := HS1.out; omega)
  have hA := hA2.fresh hf (fun i hi => by have := HG.out; have := HB.out; have := HS1.out; omega)
  clear y z h2 hE2 hS2 hR2 hA2 hf
  generalize v7.setCell ⟨eb, 5, none⟩ (.int .i64 (zz n)) = u7 at *
  clear hS
  rw [rounds_succ]
  go_wp2_with fail
  have hS := alloc_new u7 (.cells #[.pointer (some ⟨eb, 6, none⟩), .pointer (some ⟨eb, 7, none⟩), .pointer (some ⟨eb, 8, none⟩)] 112)
  have hE2 := ((Fr.refl u7 (fun _ => False)).alloc (.cells #[.pointer (some ⟨eb, 6, none⟩), .pointer (some ⟨eb, 7, none⟩), .pointer (some ⟨eb, 8, none⟩)] 112)).at_ hE (fun x => x)
  have hh2 := hh.alloc (.cells #[.pointer (some ⟨eb, 6, none⟩), .pointer (some ⟨eb, 7, none⟩), .pointer (some ⟨eb, 8, none⟩)] 112)
  have hR2 := ((Fr.refl u7 (fun _ => False)).alloc (.cells #[.pointer (some ⟨eb, 6, none⟩), .pointer (some ⟨eb, 7, none⟩), .pointer (some ⟨eb, 8, none⟩)] 112)).at_ hR (fun x => x)
  have hA2 := hA.alloc (.cells #[.pointer (some ⟨eb, 6, none⟩), .pointer (some ⟨eb, 7, none⟩), .pointer (some ⟨eb, 8, none⟩)] 112)
  have HS2 := hid (blk_lt hE)
  clear hE hh hR hA
  generalize u7.heap.size = sb at *
  generalize u7.alloc (.cells #[.pointer (some ⟨eb, 6, none⟩), .pointer (some ⟨eb, 7, none⟩), .pointer (some ⟨eb, 8, none⟩)] 112) = u12 at *
  have hE := hE2
  have hh := hh2
  have hR := hR2
  have hA := hA2
  clear hE2 hh2 hR2 hA2
  refine wp_loop_rounds 4 ?_
  rw [rounds_succ]
  have e0 := cell_blk hS 0
  simp only [List.getElem?_toArray, List.getElem?_cons_zero, List.getElem?_cons_succ] at e0
  go_wp2_with fail
  refine (C7.out _ gr hh).mono ?_
  rintro e v8 ⟨rfl, h2, hf⟩
  have hE2 := hf.at_ hE (fun x => by have := HG.out; have := HB.out; have := HS2.out; omega)
  have hS2 := hf.at_ hS (fun x => by have := HG.out; have := HB.out; have := HS2.out; omega)
  have hR2 := hf.at_ hR (fun x => by have := HG.out; have := HB.out; have := HS2.out; omega)
  have hA2 := hA.fresh hf (fun i hi => by have := HG.out; have := HB.out; have := HS2.out; omega)
  clear e0 hh hE hS hR hA hf
  have y := cell_blk hE2 6
  have z := free_blk hE2 6
  simp only [List.getElem?_toArray, List.getElem?_cons_zero, List.getElem?_cons_succ] at y
  go_wp2_with fail
  have hf := Fr.set1 v8 eb 6 (.string p)
  have hh := h2.fr hf (fun x => by have := HG.out; have := HB.out; have := HS2.out; omega)
  have hE := set_blk hE2 6 (.string p)
  simp only [List.setIfInBounds_toArray, List.set_cons_zero, List.set_cons_succ] at hE
  have hS := hf.at_ hS2 (fun x => by have := HG.out; have := HB.out; have := HS2.out; omega)
  have hR := hf.at_ hR2 (fun x => by have := HG.out; have := HB.out; have := HS2.out; omega)
  have hA := hA2.fresh hf (fun i hi => by have := HG.out; have := HB.out; have := HS2.out; omega)
  clear y z h2 hE2 hS2 hR2 hA2 hf
  generalize v8.setCell ⟨eb, 6, none⟩ (.string p) = u8 at *
  rw [rounds_succ]
  have e0 := cell_blk hS 1
  simp only [List.getElem?_toArray, List.getElem?_cons_zero, List.getElem?_cons_succ] at e0
  go_wp2_with fail
  refine (C8.out _ gr hh).mono ?_
  rintro e v9 ⟨rfl, h2, hf⟩
  have hE2 := hf.at_ hE (fun x => by have := HG.out; have := HB.out; have := HS2.out; omega)
  have hS2 := hf.at_ hS (fun x => by have := HG.out; have := HB.out; have := HS2.out; omega)
  have hR2 := hf.at_ hR (fun x => by have := HG.out; have := HB.out; have := HS2.out; omega)
  have hA2 := hA.fresh hf (fun i hi => by have := HG.out; have := HB.out; have := HS2.out; omega)
  clear e0 hh hE hS hR hA hf
  have y := cell_blk hE2 7
  have z := free_blk hE2 7
  simp only [List.getElem?_toArray, List.getElem?_cons_zero, List.getElem?_cons_succ] at y
  go_wp2_with fail
  have hf := Fr.set1 v9 eb 7 (.string q)
  have hh := h2.fr hf (fun x => by have := HG.out; have := HB.out; have := HS2.out; omega)
  have hE := set_blk hE2 7 (.string q)
  simp only [List.setIfInBounds_toArray, List.set_cons_zero, List.set_cons_succ] at hE
  have hS := hf.at_ hS2 (fun x => by have := HG.out; have := HB.out; have := HS2.out; omega)
  have hR := hf.at_ hR2 (fun x => by have := HG.out; have := HB.out; have := HS2.out; omega)
  have hA := hA2.fresh hf (fun i hi => by have := HG.out; have := HB.out; have := HS2.out; omega)
  clear y z h2 hE2 hS2 hR2 hA2 hf
  generalize v9.setCell ⟨eb, 7, none⟩ (.string q) = u9 at *
  rw [rounds_succ]
  have e0 := cell_blk hS 2
  simp only [List.getElem?_toArray, List.getElem?_cons_zero, List.getElem?_cons_succ] at e0
  go_wp2_with fail
  refine (C9.out _ gr hh).mono ?_
  rintro e v10 ⟨rfl, h2, hf⟩
  have hE2 := hf.at_ hE (fun x => by have := HG.out; have := HB.out; have := HS2.out; omega)
  have hS2 := hf.at_ hS (fun x => by have := HG.out; have := HB.out; have := HS2.out; omega)
  have hR2 := hf.at_ hR (fun x => by have := HG.out; have := HB.out; have := HS2.out; omega)
  have hA2 := hA.fresh hf (fun i hi => by have := HG.out; have := HB.out; have := HS2.out; omega)
  clear e0 hh hE hS hR hA hf
  have y := cell_blk hE2 8
  have z := free_blk hE2 8
  simp only [List.getElem?_toArray, List.getElem?_cons_zero, List.getElem?_cons_succ] at y
  go_wp2_with fail
  have hf := Fr.set1 v10 eb 8 (.string r)
  have hh := h2.fr hf (fun x => by have := HG.out; have := HB.out; have := HS2.out; omega)
  have hE := set_blk hE2 8 (.string r)
  simp only [List.setIfInBounds_toArray, List.set_cons_zero, List.set_cons_succ] at hE
  have hS := hf.at_ hS2 (fun x => by have := HG.out; have := HB.out; have := HS2.out; omega)
  have hR := hf.at_ hR2 (fun x => by have := HG.out; have := HB.out; have := HS2.out; omega)
  have hA := hA2.fresh hf (fun i hi => by have := HG.out; have := HB.out; have := HS2.out; omega)
  clear y z h2 hE2 hS2 hR2 hA2 hf
  generalize v10.setCell ⟨eb, 8, none⟩ (.string r) = u10 at *
  clear hS
  have hn1 : w.heap.size ≠ eb := by have := HG.out; have := HB.out; have := HW.out; omega
  have c0 := cell_blk hE 0
  have c1 := cell_blk hE 1
  have c2 := cell_blk hE 2
  have c3 := cell_blk hE 3
  have c4 := cell_blk hE 4
  have c5 := cell_blk hE 5
  have c6 := cell_blk hE 6
  have c7 := cell_blk hE 7
  have c8 := cell_blk hE 8
  simp only [List.getElem?_toArray, List.getElem?_cons_zero, List.getElem?_cons_succ] at c0 c1 c2 c3 c4 c5 c6 c7 c8
  by_cases he : x9 = 0
  · subst he
    by_cases hR9 : Rt a b c p q r
    · have RC := hid (fun w => right_calls w a b c (zz k) (zz t) (zz n) p q r)
      rw [decide_eq_true hR9] at RC
      unfold enV at RC
      have HR := hid hR9
      clear hR9
      rw [rounds_succ]
      go_wp2_with fail
      refine (RC.out _).mono ?_
      rintro e v11 ⟨rfl, hf⟩
      have hE2 := hf.at_ hE (fun x => x)
      have hh2 := hh.fr hf (fun x => x)
      have hR2 := hf.at_ hR (fun x => x)
      have hA2 := hA.trans hf
      clear c0 c1 c2 c3 c4 c5 c6 c7 c8 hE hh hR hA hf
      have c0 := cell_blk hE2 0
      have c1 := cell_blk hE2 1
      have c2 := cell_blk hE2 2
      have c3 := cell_blk hE2 3
      have c4 := cell_blk hE2 4
      have c5 := cell_blk hE2 5
      have c6 := cell_blk hE2 6
      have c7 := cell_blk hE2 7
      have c8 := cell_blk hE2 8
      simp only [List.getElem?_toArray, List.getElem?_cons_zero, List.getElem?_cons_succ] at c0 c1 c2 c3 c4 c5 c6 c7 c8
      have r0 := cell_blk hR2 0
      have f0 := free_blk hR2 0
      have r1 := cell_blk hR2 1
      have f1 := free_blk hR2 1
      have r2 := cell_blk hR2 2
      have f2 := free_blk hR2 2
      have r3 := cell_blk hR2 3
      have f3 := free_blk hR2 3
      have r4 := cell_blk hR2 4
      have f4 := free_blk hR2 4
      have r5 := cell_blk hR2 5
      have f5 := free_blk hR2 5
      have r6 := cell_blk hR2 6
      have f6 := free_blk hR2 6
      have r7 := cell_blk hR2 7
      have f7 := free_blk hR2 7
      have r8 := cell_blk hR2 8
      have f8 := free_blk hR2 8
      simp only [List.getElem?_toArray, List.getElem?_cons_zero, List.getElem?_cons_succ] at r0 r1 r2 r3 r4 r5 r6 r7 r8
      have LC := hid (left_calls v11.drew gr t9 0 hh2.drew (by have := Z9.out; omega))
      go_wp2_with fail
      go_region_with (go_at_call 45; refine (LC.out).mono ?_; rintro e w' ⟨rfl, rfl⟩)
      all_goals go_wp2_with fail
      all_goals (try simp only [Exit.inBlock, Exit.then, Act.put, List.setIfInBounds_toArray, List.set_cons_zero, List.set_cons_succ, List.getElem_toArray, List.getElem_cons_succ, List.getElem_cons_zero])
      all_goals
        refine bodyPost_ret (results_entry rfl _ _ _ rfl (load9 (v0 := (.int .i64 a)) (v1 := (.int .i64 b)) (v2 := (.int .i64 c)) (v3 := (.int .i64 (zz k))) (v4 := (.int .i64 (zz t))) (v5 := (.int .i64 (zz n))) (v6 := (.string p)) (v7 := (.string q)) (v8 := (.string r)) (t := 52) ?hb)) rfl ?_
        case hb =>
          rw [heap_drw]
          exact set9 (.int .i64 a) (.int .i64 b) (.int .i64 c) (.int .i64 (zz k)) (.int .i64 (zz t)) (.int .i64 (zz n)) (.string p) (.string q) (.string r) hR2
        rw [← HDV.out]
        unfold deV
        rw [if_pos rfl, if_pos HR.out]
        refine ⟨ret3e rfl ?_ rfl, Fr.drew (fr9 (.int .i64 a) (.int .i64 b) (.int .i64 c) (.int .i64 (zz k)) (.int .i64 (zz t)) (.int .i64 (zz n)) (.string p) (.string q) (.string r) hA2 (Nat.le_refl _))⟩
        have h1 := Z9.out.1
        have h2 := Z9.out.2
        unfold maxLen at h2
        have hq : RowKit.wrap64 ((s.size : Int) - t9.size) = (s.size : Int) - t9.size := wrap64_in _ (by omega) (by omega)
        rw [IntKind.wrap_i64]
        unfold RowKit.wrap64 at hq
        exact hq
    · have RC := hid (fun w => right_calls w a b c (zz k) (zz t) (zz n) p q r)
      rw [decide_eq_false hR9] at RC
      unfold enV at RC
      have HR := hid hR9
      clear hR9
      rw [rounds_succ]
      go_wp2_with fail
      refine (RC.out _).mono ?_
      rintro e v11 ⟨rfl, hf⟩
      have hR2 := hf.at_ hR (fun x => x)
      have hA2 := hA.trans hf
      have r0 := cell_blk hR2 0
      have f0 := free_blk hR2 0
      have r1 := cell_blk hR2 1
      have f1 := free_blk hR2 1
      have r2 := cell_blk hR2 2
      have f2 := free_blk hR2 2
      have r3 := cell_blk hR2 3
      have f3 := free_blk hR2 3
      have r4 := cell_blk hR2 4
      have f4 := free_blk hR2 4
      have r5 := cell_blk hR2 5
      have f5 := free_blk hR2 5
      have r6 := cell_blk hR2 6
      have f6 := free_blk hR2 6
      have r7 := cell_blk hR2 7
      have f7 := free_blk hR2 7
      have r8 := cell_blk hR2 8
      have f8 := free_blk hR2 8
      simp only [List.getElem?_toArray, List.getElem?_cons_zero, List.getElem?_cons_succ] at r0 r1 r2 r3 r4 r5 r6 r7 r8
      go_wp2_with fail
      (try simp only [Exit.inBlock, Exit.then])
      refine bodyPost_ret (results_entry rfl _ _ _ rfl (load9 (v0 := (.int .i64 0)) (v1 := (.int .i64 0)) (v2 := (.int .i64 0)) (v3 := (.int .i64 0)) (v4 := (.int .i64 0)) (v5 := (.int .i64 0)) (v6 := (.string ⟨#[]⟩)) (v7 := (.string ⟨#[]⟩)) (v8 := (.string ⟨#[]⟩)) (t := 52) ?hb)) rfl ?_
      case hb => exact set9 (.int .i64 0) (.int .i64 0) (.int .i64 0) (.int .i64 0) (.int .i64 0) (.int .i64 0) (.string ⟨#[]⟩) (.string ⟨#[]⟩) (.string ⟨#[]⟩) hR2
      rw [← HDV.out]
      unfold deV
      rw [if_pos rfl, if_neg HR.out]
      exact ⟨rfl, fr9 (.int .i64 0) (.int .i64 0) (.int .i64 0) (.int .i64 0) (.int .i64 0) (.int .i64 0) (.string ⟨#[]⟩) (.string ⟨#[]⟩) (.string ⟨#[]⟩) hA2 (Nat.le_refl _)⟩
  · have hb : ((x9 : Int) == 0) = false := by rw [beq_eq_false_iff_ne]; omega
    have hb2 : ((x9 : Int) != 0) = true := by rw [bne_iff_ne]; omega
    have HE := hid he
    clear he
    have r0 := cell_blk hR 0
    have f0 := free_blk hR 0
    have r1 := cell_blk hR 1
    have f1 := free_blk hR 1
    have r2 := cell_blk hR 2
    have f2 := free_blk hR 2
    have r3 := cell_blk hR 3
    have f3 := free_blk hR 3
    have r4 := cell_blk hR 4
    have f4 := free_blk hR 4
    have r5 := cell_blk hR 5
    have f5 := free_blk hR 5
    have r6 := cell_blk hR 6
    have f6 := free_blk hR 6
    have r7 := cell_blk hR 7
    have f7 := free_blk hR 7
    have r8 := cell_blk hR 8
    have f8 := free_blk hR 8
    simp only [List.getElem?_toArray, List.getElem?_cons_zero, List.getElem?_cons_succ] at r0 r1 r2 r3 r4 r5 r6 r7 r8
    rw [rounds_succ]
    go_wp2_with fail
    (try simp only [Exit.inBlock, Exit.then])
    refine bodyPost_ret (results_entry rfl _ _ _ rfl (load9 (v0 := (.int .i64 0)) (v1 := (.int .i64 0)) (v2 := (.int .i64 0)) (v3 := (.int .i64 0)) (v4 := (.int .i64 0)) (v5 := (.int .i64 0)) (v6 := (.string ⟨#[]⟩)) (v7 := (.string ⟨#[]⟩)) (v8 := (.string ⟨#[]⟩)) (t := 52) ?hb)) rfl ?_
    case hb => exact set9 (.int .i64 0) (.int .i64 0) (.int .i64 0) (.int .i64 0) (.int .i64 0) (.int .i64 0) (.string ⟨#[]⟩) (.string ⟨#[]⟩) (.string ⟨#[]⟩) hR
    rw [← HDV.out]
    unfold deV
    rw [if_neg HE.out]
    exact ⟨rfl, fr9 (.int .i64 0) (.int .i64 0) (.int .i64 0) (.int .i64 0) (.int .i64 0) (.int .i64 0) (.string ⟨#[]⟩) (.string ⟨#[]⟩) (.string ⟨#[]⟩) hA (Nat.le_refl _)⟩
end Go.Proofs.Ytmnmmmoeeapeiaa.Cw

