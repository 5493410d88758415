/- CodecReads by a walk over contracts. Own work. -/
import Derived.Test.YtodlenagpconiaaCqE
import Derived.Test.YtodlenagpconiaaCnA
import Derived.Test.YtodlenagpconiaaItems
namespace Go.Proofs.Ytodlenagpconiaa.Cw
open Go.RowKit
set_option linter.unusedVariables false
set_option linter.unusedSimpArgs false

theorem rdN_size (most top : Nat) (s : ByteArray) (e : Nat) : (rdN most top s e).2.2.1.size ≤ s.size := by
  unfold rdN
  split
  · split
    · simp
    · exact Nat.le_refl _
  · exact Nat.le_refl _
theorem rdF_size (size : Nat) (s : ByteArray) (e : Nat) : (rdF size s e).2.2.1.size ≤ s.size := by
  unfold rdF
  split
  · split
    · exact Nat.le_refl _
    · split
      · exact Nat.le_refl _
      · simp
  · exact Nat.le_refl _
theorem rdT_size (most : Int) (s : ByteArray) (e : Nat) : (rdT most s e).2.2.1.size ≤ s.size := by
  unfold rdT
  split
  · exact Nat.le_refl _
  · split
    · split
      · split
        · exact Nat.le_refl _
        · split
          · exact Nat.le_refl _
          · simp
      · exact Nat.le_refl _
    · exact Nat.le_refl _

set_option maxRecDepth 100000 in
set_option maxHeartbeats 6400000 in
theorem codecReads_calls (w : World) (s : ByteArray) (A : Option Addr) (len cap : Nat) (l : List It) (hs : s.size ≤ 140737488351232) (hI : Items w w.heap.size A len l) (hlen : len ≤ maxLen) :
    Calls Try.prog 6 #[.string s, .slice A len cap] w fun e w' => e = .returned (.bool true) ∧ Fr w w' (fun _ => False) := by
  have hs2 : s.size ≤ maxLen := by unfold maxLen; omega
  unfold maxLen at hlen
  go_enter Try.func6, Try.ntmps6
  go_wp2_with fail
  refine (of_calls w s).mono ?_
  rintro e w1 ⟨rfl, r1, hf1⟩
  have hlt : w.heap.size < w1.heap.size := blk_lt r1
  have r2 := r1.alloc (.cells #[.string s, .int .i64 0] 45)
  have q2 : RR (w1.alloc (.cells #[.string s, .int .i64 0] 45)) w1.heap.size s 0 := alloc_new w1 _
  have hA2 := hf1.alloc (.cells #[.string s, .int .i64 0] 45)
  go_wp2_with fail
  have hwI := hid hI
  clear hI
  generalize hg1 : w.heap.size = g1 at r1 r2 q2 hA2 hlt ⊢
  generalize hg2 : w1.heap.size = g2 at r1 r2 q2 hA2 hlt ⊢
  have HG := hid hg1
  have HLT := hid hlt
  clear hg1 hg2 hlt r1 hf1
  have R2 := hid r2
  have Q2 := hid q2
  have A2 := hid hA2
  clear r2 q2 hA2
  go_loopw [24] (fun i wr => ∃ (k : Nat) (t : ByteArray) (e : Nat), i = .int .i64 k ∧ k ≤ len ∧ t.size ≤ s.size ∧ Rd wr g1 t e ∧ RR wr g2 t e ∧ Fr w wr (fun _ => False)) (fun i _ => len - (intOf i).toNat)
  case atStart => exact ⟨0, s, 0, rfl, by omega, Nat.le_refl _, R2.out, Q2.out, A2.out⟩
  case round =>
    obtain ⟨k, t, e, rfl, hk, hts, r, q, hA⟩ := hrel
    by_cases hlt : k < len
    · obtain ⟨b, o, rfl, hb, hc⟩ := hwI.out.2.2 (by omega)
      obtain ⟨x, hx⟩ : ∃ x, l[k]? = some x := ⟨_, List.getElem?_eq_getElem (by rw [hwI.out.1]; exact hlt)⟩
      have hxo := hid (hwI.out.2.1 x (List.mem_of_getElem? hx))
      have hb1 := hA.size
      have hx0 := (hc k x hx).fr hA hb (fun x => x)
      obtain ⟨kind, n, size, xs⟩ := x
      obtain ⟨d0, d1, d2, d3⟩ := hx0
      simp only at d0 d1 d2 d3
      have HC := hid hc
      have HX := hid hx
      have HB := hid hb
      have HB1 := hid hb1
      clear hc hx hb hb1
      by_cases k0 : kind = 0
      · subst k0
        have P := hid (fun w h => rUint_calls w g1 t e h (by unfold maxLen; omega))
        have Q := hid (fun w h => qUint_calls w g2 t e h (by unfold maxLen; omega))
        have hz := rdN_size 9 127 t e
        generalize rdN 9 127 t e = u at *
        obtain ⟨un, ux, ut, ue⟩ := u
        simp only at P Q hz
        have HZ := hid hz
        clear hz
        go_wp2_with fail
        refine (P.out _ (r.alloc _)).mono ?_
        rintro e4 w4 ⟨rfl, r4, hf4⟩
        have q4 := q.fr (((Fr.refl wr _).alloc _).trans hf4) (fun x => by have := HLT.out; omega)
        have hA4 := (hA.alloc _).fresh hf4 (fun i hi => by have := HG.out; omega)
        go_wp2_with fail
        refine (Q.out _ q4).mono ?_
        rintro e5 w5 ⟨rfl, q5, hf5⟩
        have r5 := r4.fr hf5 (fun x => by have := HLT.out; omega)
        have hA5 := hA4.fresh hf5 (fun i hi => by have := HG.out; have := HLT.out; omega)
        have m0 := q5.c0
        clear d0 d1 d2 d3 r4 q4 hf4 hA4 hf5 hA r q
        go_wp2_with fail
        have L1 := hid (fun n => (left_calls (w5.drewN n) g1 ut ue (r5.drewN n) (by have := HZ.out; unfold maxLen; omega)).mono fun _ _ (h : _ ∧ _) => And.intro h.1 h.2.symm)
        have L2 := hid (fun n => (end_calls (w5.drewN n) g1 ut ue (r5.drewN n) (by have := HZ.out; unfold maxLen; omega)).mono fun _ _ (h : _ ∧ _) => And.intro h.1 h.2.symm)
        have L3 := hid (fun n => (qEnd_calls (w5.drewN n) g2 ut ue (q5.drewN n)).mono fun _ _ (h : _ ∧ _) => And.intro h.1 h.2.symm)
        go_quiet (first | (go_at_call 15; exact Calls.quiet_of_same (L1.out _)) | (go_at_call 27; exact Calls.quiet_of_same (L2.out _)) | (go_at_call 28; exact Calls.quiet_of_same (L3.out _)))
        go_wp2
        go_roundw
        case rel => exact ⟨k + 1, ut, ue, by go_num, by omega, by have := HZ.out; omega, r5.drewN _, q5.drewN _, hA5.drewN _⟩
        case measure => simp [intOf]; omega
      by_cases k1 : kind = 1
      · subst k1
        clear k0
        have P := hid (fun w h => rInt_calls w g1 t e h (by unfold maxLen; omega))
        have Q := hid (fun w h => qInt_calls w g2 t e h (by unfold maxLen; omega))
        have hz := rdN_size 10 1 t e
        generalize rdN 10 1 t e = u at *
        obtain ⟨un, ux, ut, ue⟩ := u
        simp only at P Q hz
        have HZ := hid hz
        clear hz
        go_wp2_with fail
        refine (P.out _ (r.alloc _)).mono ?_
        rintro e4 w4 ⟨rfl, r4, hf4⟩
        have q4 := q.fr (((Fr.refl wr _).alloc _).trans hf4) (fun x => by have := HLT.out; omega)
        have hA4 := (hA.alloc _).fresh hf4 (fun i hi => by have := HG.out; omega)
        go_wp2_with fail
        refine (Q.out _ q4).mono ?_
        rintro e5 w5 ⟨rfl, q5, hf5⟩
        have r5 := r4.fr hf5 (fun x => by have := HLT.out; omega)
        have hA5 := hA4.fresh hf5 (fun i hi => by have := HG.out; have := HLT.out; omega)
        have m0 := q5.c0
        clear d0 d1 d2 d3 r4 q4 hf4 hA4 hf5 hA r q
        go_wp2_with fail
        have L1 := hid (fun n => (left_calls (w5.drewN n) g1 ut ue (r5.drewN n) (by have := HZ.out; unfold maxLen; omega)).mono fun _ _ (h : _ ∧ _) => And.intro h.1 h.2.symm)
        have L2 := hid (fun n => (end_calls (w5.drewN n) g1 ut ue (r5.drewN n) (by have := HZ.out; unfold maxLen; omega)).mono fun _ _ (h : _ ∧ _) => And.intro h.1 h.2.symm)
        have L3 := hid (fun n => (qEnd_calls (w5.drewN n) g2 ut ue (q5.drewN n)).mono fun _ _ (h : _ ∧ _) => And.intro h.1 h.2.symm)
        go_quiet (first | (go_at_call 15; exact Calls.quiet_of_same (L1.out _)) | (go_at_call 27; exact Calls.quiet_of_same (L2.out _)) | (go_at_call 28; exact Calls.quiet_of_same (L3.out _)))
        go_wp2
        go_roundw
        case rel => exact ⟨k + 1, ut, ue, by go_num, by omega, by have := HZ.out; omega, r5.drewN _, q5.drewN _, hA5.drewN _⟩
        case measure => simp [intOf]; omega
      by_cases k2 : kind = 2
      · subst k2
        clear k0 k1
        by_cases hz : size = 1 ∨ size = 2 ∨ size = 4 ∨ size = 8
        · obtain ⟨m, rfl⟩ := Int.eq_ofNat_of_zero_le (show 0 ≤ size by omega)
          have HM := hid (show m = 1 ∨ m = 2 ∨ m = 4 ∨ m = 8 by omega)
          clear hz
          have P := hid (fun w h => rFixed_calls w g1 t e m HM.out h (by unfold maxLen; omega))
          have Q := hid (fun w h => qFixed_calls w g2 t e m HM.out h (by unfold maxLen; omega))
          have hz := rdF_size m t e
          generalize rdF m t e = u at *
          obtain ⟨un, ux, ut, ue⟩ := u
          simp only at P Q hz
          have HZ := hid hz
          clear hz
          go_wp2_with fail
          refine (P.out _ (r.alloc _)).mono ?_
          rintro e4 w4 ⟨rfl, r4, hf4⟩
          have q4 := q.fr (((Fr.refl wr _).alloc _).trans hf4) (fun x => by have := HLT.out; omega)
          have hA4 := (hA.alloc _).fresh hf4 (fun i hi => by have := HG.out; omega)
          have hx4 := hf4.at_ (alloc_new wr (.cells #[.int .i64 2, .int .i64 n, .int .i64 m, .string xs] 38)) (fun x => by have := blk_lt r; have := blk_lt q; omega)
          have y1 := cell_blk hx4 1
          have y2 := cell_blk hx4 2
          simp only [List.getElem?_toArray, List.getElem?_cons_zero, List.getElem?_cons_succ] at y1 y2
          go_wp2_with fail
          refine (Q.out _ q4).mono ?_
          rintro e5 w5 ⟨rfl, q5, hf5⟩
          have r5 := r4.fr hf5 (fun x => by have := HLT.out; omega)
          have hA5 := hA4.fresh hf5 (fun i hi => by have := HG.out; have := HLT.out; omega)
          have m0 := q5.c0
          clear d0 d1 d2 d3 r4 q4 hf4 hA4 hf5 hA r q hx4 y1 y2
          go_wp2_with fail
          have L1 := hid (fun n => (left_calls (w5.drewN n) g1 ut ue (r5.drewN n) (by have := HZ.out; unfold maxLen; omega)).mono fun _ _ (h : _ ∧ _) => And.intro h.1 h.2.symm)
          have L2 := hid (fun n => (end_calls (w5.drewN n) g1 ut ue (r5.drewN n) (by have := HZ.out; unfold maxLen; omega)).mono fun _ _ (h : _ ∧ _) => And.intro h.1 h.2.symm)
          have L3 := hid (fun n => (qEnd_calls (w5.drewN n) g2 ut ue (q5.drewN n)).mono fun _ _ (h : _ ∧ _) => And.intro h.1 h.2.symm)
          go_quiet (first | (go_at_call 15; exact Calls.quiet_of_same (L1.out _)) | (go_at_call 27; exact Calls.quiet_of_same (L2.out _)) | (go_at_call 28; exact Calls.quiet_of_same (L3.out _)))
          go_wp2
          go_roundw
          case rel => exact ⟨k + 1, ut, ue, by go_num, by omega, by have := HZ.out; omega, r5.drewN _, q5.drewN _, hA5.drewN _⟩
          case measure => simp [intOf]; omega
        · have HM := hid hz
          clear hz
          have HZ := hid (Nat.le_refl t.size)
          go_wp2_with fail
          refine (rFixed_no _ _ _ HM.out).mono ?_
          rintro e4 w4 ⟨rfl, rfl⟩
          go_wp2_with fail
          refine (qFixed_no _ _ _ HM.out).mono ?_
          rintro e5 w5 ⟨rfl, hw5⟩
          have r5 : Rd w5 g1 t e := by rw [← hw5]; exact r.alloc _
          have q5 : RR w5 g2 t e := by rw [← hw5]; exact q.fr ((Fr.refl wr (fun _ => False)).alloc _) (fun x => x)
          have hA5 : Fr w w5 (fun _ => False) := by rw [← hw5]; exact hA.alloc _
          have m0 := q5.c0
          clear d0 d1 d2 d3 hw5 hA r q
          go_wp2_with fail
          have L1 := hid (fun n => (left_calls (w5.drewN n) g1 t e (r5.drewN n) (by have := HZ.out; unfold maxLen; omega)).mono fun _ _ (h : _ ∧ _) => And.intro h.1 h.2.symm)
          have L2 := hid (fun n => (end_calls (w5.drewN n) g1 t e (r5.drewN n) (by have := HZ.out; unfold maxLen; omega)).mono fun _ _ (h : _ ∧ _) => And.intro h.1 h.2.symm)
          have L3 := hid (fun n => (qEnd_calls (w5.drewN n) g2 t e (q5.drewN n)).mono fun _ _ (h : _ ∧ _) => And.intro h.1 h.2.symm)
          go_quiet (first | (go_at_call 15; exact Calls.quiet_of_same (L1.out _)) | (go_at_call 27; exact Calls.quiet_of_same (L2.out _)) | (go_at_call 28; exact Calls.quiet_of_same (L3.out _)))
          go_wp2
          go_roundw
          case rel => exact ⟨k + 1, t, e, by go_num, by omega, hts, r5.drewN _, q5.drewN _, hA5.drewN _⟩
          case measure => simp [intOf]; omega
      have b0 : (kind == 0) = false := by rw [beq_eq_false_iff_ne]; exact k0
      have b1 : (kind == 1) = false := by rw [beq_eq_false_iff_ne]; exact k1
      have b2 : (kind == 2) = false := by rw [beq_eq_false_iff_ne]; exact k2
      have HN := hid hxo.out.1
      clear k0 k1 k2
      have P := hid (fun w h => rText_calls w g1 t e n HN.out.1 HN.out.2 h (by unfold maxLen; omega))
      have Q := hid (fun w h => qText_calls w g2 t e n HN.out.1 HN.out.2 h (by unfold maxLen; omega))
      have hz := rdT_size n t e
      generalize rdT n t e = u at *
      obtain ⟨un, ux, ut, ue⟩ := u
      simp only at P Q hz
      have HZ := hid hz
      clear hz
      go_wp2_with fail
      refine (P.out _ (r.alloc _)).mono ?_
      rintro e4 w4 ⟨rfl, r4, hf4⟩
      have q4 := q.fr (((Fr.refl wr _).alloc _).trans hf4) (fun x => by have := HLT.out; omega)
      have hA4 := (hA.alloc _).fresh hf4 (fun i hi => by have := HG.out; omega)
      have hx4 := hf4.at_ (alloc_new wr (.cells #[.int .i64 kind, .int .i64 n, .int .i64 size, .string xs] 38)) (fun x => by have := blk_lt r; have := blk_lt q; omega)
      have y1 := cell_blk hx4 1
      have y2 := cell_blk hx4 2
      simp only [List.getElem?_toArray, List.getElem?_cons_zero, List.getElem?_cons_succ] at y1 y2
      go_wp2_with fail
      refine (Q.out _ q4).mono ?_
      rintro e5 w5 ⟨rfl, q5, hf5⟩
      have r5 := r4.fr hf5 (fun x => by have := HLT.out; omega)
      have hA5 := hA4.fresh hf5 (fun i hi => by have := HG.out; have := HLT.out; omega)
      have m0 := q5.c0
      clear d0 d1 d2 d3 r4 q4 hf4 hA4 hf5 hA r q hx4 y1 y2
      go_wp2_with fail
      have L1 := hid (fun n => (left_calls (w5.drewN n) g1 ut ue (r5.drewN n) (by have := HZ.out; unfold maxLen; omega)).mono fun _ _ (h : _ ∧ _) => And.intro h.1 h.2.symm)
      have L2 := hid (fun n => (end_calls (w5.drewN n) g1 ut ue (r5.drewN n) (by have := HZ.out; unfold maxLen; omega)).mono fun _ _ (h : _ ∧ _) => And.intro h.1 h.2.symm)
      have L3 := hid (fun n => (qEnd_calls (w5.drewN n) g2 ut ue (q5.drewN n)).mono fun _ _ (h : _ ∧ _) => And.intro h.1 h.2.symm)
      go_quiet (first | (go_at_call 15; exact Calls.quiet_of_same (L1.out _)) | (go_at_call 27; exact Calls.quiet_of_same (L2.out _)) | (go_at_call 28; exact Calls.quiet_of_same (L3.out _)))
      go_wp2
      go_roundw
      case rel => exact ⟨k + 1, ut, ue, by go_num, by omega, by have := HZ.out; omega, r5.drewN _, q5.drewN _, hA5.drewN _⟩
      case measure => simp [intOf]; omega
    · go_wp2_with (go_at_call 11; refine (speaks_calls _).mono ?_; rintro e6 w6 ⟨rfl, hf6⟩)
      go_ret
      exact ⟨rfl, hA.trans hf6⟩
end Go.Proofs.Ytodlenagpconiaa.Cw
