/- CodecOne by a walk over contracts. Own work. -/
import Derived.Test.YtodlenagpconiaaCwS
import Derived.Test.YtodlenagpconiaaCrB
import Derived.WalkSpells
namespace Go.Proofs.Ytodlenagpconiaa.Cw
open Go.RowKit
set_option linter.unusedVariables false
set_option linter.unusedSimpArgs false

theorem zig_zz (n : Nat) (h : n < 18446744073709551616) : zig (zz n) = n := by
  unfold zz zig
  split <;> split <;> omega
theorem zz_range (n : Nat) (h : n < 18446744073709551616) : -9223372036854775808 ≤ zz n ∧ zz n < 9223372036854775808 := by
  unfold zz
  split <;> omega

theorem ref_zz (w : World) (n : Nat) (h : n < 18446744073709551616) :
    Calls Try.prog 18 #[.int .i64 (zz n)] w fun e w' => e = .returned (.string ⟨(uv n).toArray⟩) ∧ Fr w w' (fun _ => False) := by
  have := refInt_calls w (zz n) (zz_range n h).1 (zz_range n h).2
  rwa [zig_zz n h] at this
theorem bytes_eq (s : ByteArray) (n : Nat) (t : ByteArray) (h : uv n = s.data.toList.take (s.size - t.size)) : (uv n == (s.extract 0 (s.size - t.size)).toList) = true := by
  rw [beq_iff_eq, h, ByteArray.toList_eq]
  simp

theorem ret_true {b : Bool} (h : b = true) : Ending.returned (.bool b) = .returned (.bool true) := by rw [h]

set_option maxRecDepth 100000 in
set_option maxHeartbeats 1600000 in
theorem codecOne_calls (w : World) (s : ByteArray) (hs : s.size ≤ 140737488351232) :
    Calls Try.prog 4 #[.string s] w fun e w' => e = .returned (.bool true) ∧ Fr w w' (fun _ => False) := by
  have hs2 : s.size ≤ maxLen := by unfold maxLen; omega
  have HS := hid hs2
  clear hs2
  have U := fun w g h => rUint_calls w g s 0 h HS.out
  have V := fun w g h => rInt_calls w g s 0 h HS.out
  have ul := rdN_lt 9 127 s 0
  have vl := rdN_lt10 s 0
  have ub := rdN_bytes 9 127 s
  have vb := rdN_bytes 10 1 s
  have us := rdN_stay 9 127 s
  have vs := rdN_stay 10 1 s
  generalize rdN 9 127 s 0 = u at *
  generalize rdN 10 1 s 0 = v at *
  obtain ⟨un, ux, ut, uy⟩ := u
  obtain ⟨vn, vx, vt, vy⟩ := v
  simp only at U V ul vl ub vb us vs
  have HU := hid U
  have HV := hid V
  have HUL := hid ul
  have HVL := hid vl
  clear U V ul vl
  have HI := hid (fun w => ref_zz w vn HVL.out)
  by_cases hu : ux = 0
  · by_cases hv : vx = 0
    · subst hu
      obtain ⟨ub1, ub2⟩ := ub rfl
      have hub := bytes_eq s un ut ub1
      clear ub1
      subst hv
      obtain ⟨vb1, vb2⟩ := vb rfl
      have hvb := bytes_eq s vn vt vb1
      clear vb1
      clear ub vb us vs
      have HUT := hid (show ut.size ≤ maxLen from Nat.le_trans ub2 HS.out)
      have HVT := hid (show vt.size ≤ maxLen from Nat.le_trans vb2 HS.out)
      go_enter Try.func4, Try.ntmps4
      go_wp2_with fail
      refine (of_calls w s).mono ?_
      rintro e w1 ⟨rfl, r1, hf1⟩
      go_wp2_with fail
      refine (of_calls w1 s).mono ?_
      rintro e w2 ⟨rfl, q2, hf2⟩
      have r2 := r1.fr hf2 (fun x => x)
      have hA := hf1.trans hf2
      have hlt : w.heap.size < w1.heap.size := blk_lt r1
      generalize hg1 : w.heap.size = g1 at *
      generalize hg2 : w1.heap.size = g2 at *
      have HG := hid hg1
      have HLT := hid hlt
      clear r1 hf1 hf2 hg1 hg2 hlt
      go_wp2_with fail
      refine (HU.out w2 g1 r2).mono ?_
      rintro e w3 ⟨rfl, r3, hf3⟩
      have q3 := q2.fr hf3 (fun x => by have := HLT.out; omega)
      have hA3 := hA.fresh hf3 (fun i hi => by have := HG.out; omega)
      clear r2 q2 hf3 hA
      go_wp2_with fail
      refine (left_calls w3 g1 ut uy r3 HUT.out).mono ?_
      rintro e w9 ⟨rfl, rfl⟩
      go_wp2_with fail
      refine (refUint_calls w3 un (by have := HUL.out; omega)).mono ?_
      rintro e w4 ⟨rfl, hf4⟩
      have r4 := r3.fr hf4 (fun x => x)
      have q4 := q3.fr hf4 (fun x => x)
      have hA4 := hA3.trans hf4
      clear r3 q3 hf4 hA3
      go_wp2_with fail
      refine (left_calls w4 g1 ut uy r4 HUT.out).mono ?_
      rintro e w9 ⟨rfl, rfl⟩
      go_wp2_with fail
      refine (HV.out w4 g2 q4).mono ?_
      rintro e w5 ⟨rfl, q5, hf5⟩
      have r5 := r4.fr hf5 (fun x => by have := HLT.out; omega)
      have hA5 := hA4.fresh hf5 (fun i hi => by have := HG.out; have := HLT.out; omega)
      clear r4 q4 hf5 hA4
      go_wp2_with fail
      refine (left_calls w5 g2 vt vy q5 HVT.out).mono ?_
      rintro e w9 ⟨rfl, rfl⟩
      go_wp2_with fail
      refine (HI.out w5).mono ?_
      rintro e w6 ⟨rfl, hf6⟩
      have r6 := r5.fr hf6 (fun x => x)
      have q6 := q5.fr hf6 (fun x => x)
      have hA6 := hA5.trans hf6
      clear r5 q5 hf6 hA5
      go_wp2_with fail
      refine (left_calls w6 g2 vt vy q6 HVT.out).mono ?_
      rintro e w9 ⟨rfl, rfl⟩
      go_wp2_with fail
      refine (speaks_calls w6).mono ?_
      rintro e w7 ⟨rfl, hf7⟩
      go_wp2
      go_ret
      exact ⟨rfl, hA6.trans hf7⟩
    · subst hu
      obtain ⟨ub1, ub2⟩ := ub rfl
      have hub := bytes_eq s un ut ub1
      clear ub1
      have hvx : ((vx : Int) == 0) = false := by rw [beq_eq_false_iff_ne]; omega
      have hvt := vs hv
      have vb2 : vt.size ≤ s.size := by rw [hvt]; exact Nat.le_refl _
      have hvl : ((vt.size : Int) == (s.size : Int)) = true := by rw [hvt, beq_iff_eq]
      clear hv hvt
      clear ub vb us vs
      have HUT := hid (show ut.size ≤ maxLen from Nat.le_trans ub2 HS.out)
      have HVT := hid (show vt.size ≤ maxLen from Nat.le_trans vb2 HS.out)
      go_enter Try.func4, Try.ntmps4
      go_wp2_with fail
      refine (of_calls w s).mono ?_
      rintro e w1 ⟨rfl, r1, hf1⟩
      go_wp2_with fail
      refine (of_calls w1 s).mono ?_
      rintro e w2 ⟨rfl, q2, hf2⟩
      have r2 := r1.fr hf2 (fun x => x)
      have hA := hf1.trans hf2
      have hlt : w.heap.size < w1.heap.size := blk_lt r1
      generalize hg1 : w.heap.size = g1 at *
      generalize hg2 : w1.heap.size = g2 at *
      have HG := hid hg1
      have HLT := hid hlt
      clear r1 hf1 hf2 hg1 hg2 hlt
      go_wp2_with fail
      refine (HU.out w2 g1 r2).mono ?_
      rintro e w3 ⟨rfl, r3, hf3⟩
      have q3 := q2.fr hf3 (fun x => by have := HLT.out; omega)
      have hA3 := hA.fresh hf3 (fun i hi => by have := HG.out; omega)
      clear r2 q2 hf3 hA
      go_wp2_with fail
      refine (left_calls w3 g1 ut uy r3 HUT.out).mono ?_
      rintro e w9 ⟨rfl, rfl⟩
      go_wp2_with fail
      refine (refUint_calls w3 un (by have := HUL.out; omega)).mono ?_
      rintro e w4 ⟨rfl, hf4⟩
      have r4 := r3.fr hf4 (fun x => x)
      have q4 := q3.fr hf4 (fun x => x)
      have hA4 := hA3.trans hf4
      clear r3 q3 hf4 hA3
      go_wp2_with fail
      refine (left_calls w4 g1 ut uy r4 HUT.out).mono ?_
      rintro e w9 ⟨rfl, rfl⟩
      go_wp2_with fail
      refine (HV.out w4 g2 q4).mono ?_
      rintro e w5 ⟨rfl, q5, hf5⟩
      have r5 := r4.fr hf5 (fun x => by have := HLT.out; omega)
      have hA5 := hA4.fresh hf5 (fun i hi => by have := HG.out; have := HLT.out; omega)
      clear r4 q4 hf5 hA4
      go_wp2_with fail
      refine (left_calls w5 g2 vt vy q5 HVT.out).mono ?_
      rintro e w9 ⟨rfl, rfl⟩
      go_wp2_with fail
      refine (speaks_calls w5).mono ?_
      rintro e w7 ⟨rfl, hf7⟩
      go_wp2
      go_ret
      exact ⟨rfl, hA5.trans hf7⟩
  · by_cases hv : vx = 0
    · have hux : ((ux : Int) == 0) = false := by rw [beq_eq_false_iff_ne]; omega
      have hut := us hu
      have ub2 : ut.size ≤ s.size := by rw [hut]; exact Nat.le_refl _
      have hul : ((ut.size : Int) == (s.size : Int)) = true := by rw [hut, beq_iff_eq]
      clear hu hut
      subst hv
      obtain ⟨vb1, vb2⟩ := vb rfl
      have hvb := bytes_eq s vn vt vb1
      clear vb1
      clear ub vb us vs
      have HUT := hid (show ut.size ≤ maxLen from Nat.le_trans ub2 HS.out)
      have HVT := hid (show vt.size ≤ maxLen from Nat.le_trans vb2 HS.out)
      go_enter Try.func4, Try.ntmps4
      go_wp2_with fail
      refine (of_calls w s).mono ?_
      rintro e w1 ⟨rfl, r1, hf1⟩
      go_wp2_with fail
      refine (of_calls w1 s).mono ?_
      rintro e w2 ⟨rfl, q2, hf2⟩
      have r2 := r1.fr hf2 (fun x => x)
      have hA := hf1.trans hf2
      have hlt : w.heap.size < w1.heap.size := blk_lt r1
      generalize hg1 : w.heap.size = g1 at *
      generalize hg2 : w1.heap.size = g2 at *
      have HG := hid hg1
      have HLT := hid hlt
      clear r1 hf1 hf2 hg1 hg2 hlt
      go_wp2_with fail
      refine (HU.out w2 g1 r2).mono ?_
      rintro e w3 ⟨rfl, r3, hf3⟩
      have q3 := q2.fr hf3 (fun x => by have := HLT.out; omega)
      have hA3 := hA.fresh hf3 (fun i hi => by have := HG.out; omega)
      clear r2 q2 hf3 hA
      go_wp2_with fail
      refine (HV.out w3 g2 q3).mono ?_
      rintro e w5 ⟨rfl, q5, hf5⟩
      have r5 := r3.fr hf5 (fun x => by have := HLT.out; omega)
      have hA5 := hA3.fresh hf5 (fun i hi => by have := HG.out; have := HLT.out; omega)
      clear r3 q3 hf5 hA3
      go_wp2_with fail
      refine (left_calls w5 g2 vt vy q5 HVT.out).mono ?_
      rintro e w9 ⟨rfl, rfl⟩
      go_wp2_with fail
      refine (HI.out w5).mono ?_
      rintro e w6 ⟨rfl, hf6⟩
      have r6 := r5.fr hf6 (fun x => x)
      have q6 := q5.fr hf6 (fun x => x)
      have hA6 := hA5.trans hf6
      clear r5 q5 hf6 hA5
      go_wp2_with fail
      refine (left_calls w6 g2 vt vy q6 HVT.out).mono ?_
      rintro e w9 ⟨rfl, rfl⟩
      go_wp2_with fail
      refine (left_calls w6 g1 ut uy r6 HUT.out).mono ?_
      rintro e w9 ⟨rfl, rfl⟩
      go_wp2_with fail
      refine (speaks_calls w6).mono ?_
      rintro e w7 ⟨rfl, hf7⟩
      go_wp2
      go_ret
      exact ⟨rfl, hA6.trans hf7⟩
    · have hux : ((ux : Int) == 0) = false := by rw [beq_eq_false_iff_ne]; omega
      have hut := us hu
      have ub2 : ut.size ≤ s.size := by rw [hut]; exact Nat.le_refl _
      have hul : ((ut.size : Int) == (s.size : Int)) = true := by rw [hut, beq_iff_eq]
      clear hu hut
      have hvx : ((vx : Int) == 0) = false := by rw [beq_eq_false_iff_ne]; omega
      have hvt := vs hv
      have vb2 : vt.size ≤ s.size := by rw [hvt]; exact Nat.le_refl _
      have hvl : ((vt.size : Int) == (s.size : Int)) = true := by rw [hvt, beq_iff_eq]
      clear hv hvt
      clear ub vb us vs
      have HUT := hid (show ut.size ≤ maxLen from Nat.le_trans ub2 HS.out)
      have HVT := hid (show vt.size ≤ maxLen from Nat.le_trans vb2 HS.out)
      go_enter Try.func4, Try.ntmps4
      go_wp2_with fail
      refine (of_calls w s).mono ?_
      rintro e w1 ⟨rfl, r1, hf1⟩
      go_wp2_with fail
      refine (of_calls w1 s).mono ?_
      rintro e w2 ⟨rfl, q2, hf2⟩
      have r2 := r1.fr hf2 (fun x => x)
      have hA := hf1.trans hf2
      have hlt : w.heap.size < w1.heap.size := blk_lt r1
      generalize hg1 : w.heap.size = g1 at *
      generalize hg2 : w1.heap.size = g2 at *
      have HG := hid hg1
      have HLT := hid hlt
      clear r1 hf1 hf2 hg1 hg2 hlt
      go_wp2_with fail
      refine (HU.out w2 g1 r2).mono ?_
      rintro e w3 ⟨rfl, r3, hf3⟩
      have q3 := q2.fr hf3 (fun x => by have := HLT.out; omega)
      have hA3 := hA.fresh hf3 (fun i hi => by have := HG.out; omega)
      clear r2 q2 hf3 hA
      go_wp2_with fail
      refine (HV.out w3 g2 q3).mono ?_
      rintro e w5 ⟨rfl, q5, hf5⟩
      have r5 := r3.fr hf5 (fun x => by have := HLT.out; omega)
      have hA5 := hA3.fresh hf5 (fun i hi => by have := HG.out; have := HLT.out; omega)
      clear r3 q3 hf5 hA3
      go_wp2_with fail
      refine (left_calls w5 g1 ut uy r5 HUT.out).mono ?_
      rintro e w9 ⟨rfl, rfl⟩
      go_wp2_with fail
      refine (left_calls w5 g2 vt vy q5 HVT.out).mono ?_
      rintro e w9 ⟨rfl, rfl⟩
      go_wp2_with fail
      refine (speaks_calls w5).mono ?_
      rintro e w7 ⟨rfl, hf7⟩
      go_wp2
      go_ret
      exact ⟨rfl, hA5.trans hf7⟩
end Go.Proofs.Ytodlenagpconiaa.Cw
