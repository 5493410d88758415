/- inode's Decode. Own work. -/
import Derived.Test.YtmbfcnacoijmaaaIoE
namespace Go.Proofs.Ytmbfcnacoijmaaa.Cw
open Go.RowKit
set_option linter.unusedVariables false
set_option linter.unusedSimpArgs false

/-- What is kept while an inode is read: the reader behind so many numbers, the inode's own block, the result's. -/
structure Dk (w : World) (R E g : Nat) (s : ByteArray) (m : Nat) (wr : World) : Prop where
  rd : Rd wr g (rst s m).1 (rst s m).2
  blk : wr.heap[E]? = some (.cells (arr11 (upto (rvl s) m)) 24 (0, 0))
  res : wr.heap[R]? = some (.cells #[.int .i64 0, .int .i64 0, .int .i64 0, .int .i64 0, .int .i64 0, .int .i64 0, .int .i64 0, .int .i64 0, .int .i64 0, .int .i64 0, .int .i64 0] 24 (0, 0))
  fr : Fr w wr (fun _ => False)
  ne : E ≠ g ∧ R ≠ g ∧ R ≠ E ∧ w.heap.size ≤ g ∧ w.heap.size ≤ E ∧ w.heap.size ≤ R
theorem Dk.next {w : World} {R E g : Nat} {s : ByteArray} {m : Nat} {wr w2 : World} (h : Dk w R E g s m wr) (hm : m < 11) (h2 : Rd w2 g (rdF (fsz m) (rst s m).1 (rst s m).2).2.2.1 (rdF (fsz m) (rst s m).1 (rst s m).2).2.2.2) (hf : Fr wr w2 (fun i => i = g)) :
    Dk w R E g s (m + 1) (w2.setCell ⟨E, m, none⟩ (.int .i64 (rvl s m))) := by
  have hb := hf.at_ h.blk h.ne.1
  have hr := hf.at_ h.res h.ne.2.1
  have f1 := Fr.set1 w2 E m (.int .i64 (rvl s m))
  refine ⟨h2.fr f1 (fun e => h.ne.1 e.symm), ?_, f1.at_ hr h.ne.2.2.1, (h.fr.fresh hf (fun i e => by subst e; exact h.ne.2.2.2.1)).fresh f1 (fun i e => by subst e; exact h.ne.2.2.2.2.1), h.ne⟩
  rw [set_blk hb m, upto_set (rvl s) m hm]
theorem Dk.cell {w : World} {R E g : Nat} {s : ByteArray} {m : Nat} {wr w2 : World} (h : Dk w R E g s m wr) (hm : m < 11) (hf : Fr wr w2 (fun i => i = g)) : w2.cell? ⟨E, m, none⟩ = some (.int .i64 (upto (rvl s) m m)) ∧ w2.frozen? ⟨E, m, none⟩ = false := by
  have hb := hf.at_ h.blk h.ne.1
  exact ⟨(cell_blk hb m).trans (arr11_get _ m hm), free_blk hb m⟩

theorem list_of {l : List UInt8} {s : ByteArray} (h : (⟨l.toArray⟩ : ByteArray) = s) : l = s.toList := by
  subst h
  rw [ByteArray.toList_eq]
theorem of_list {l : List UInt8} {s : ByteArray} (h : l = s.toList) : (⟨l.toArray⟩ : ByteArray) = s := by
  subst h
  rw [ByteArray.toList_eq]
theorem fsz3 (i : Nat) : fsz (3 + i) = 2 := by
  rw [Nat.add_comm]
  rfl
theorem rFixed3 (w : World) (g : Nat) (s : ByteArray) (i : Nat) (h : Rd w g (rst s (3 + i)).1 (rst s (3 + i)).2) (hs : s.size ≤ maxLen) :
    Calls Try.prog 35 #[.pointer (some ⟨g, 0, none⟩), .int .i64 2] w fun e w' => e = .returned (.tuple #[.int .i64 (rdF (fsz (3 + i)) (rst s (3 + i)).1 (rst s (3 + i)).2).1, .int .i64 (rdF (fsz (3 + i)) (rst s (3 + i)).1 (rst s (3 + i)).2).2.1]) ∧ Rd w' g (rdF (fsz (3 + i)) (rst s (3 + i)).1 (rst s (3 + i)).2).2.2.1 (rdF (fsz (3 + i)) (rst s (3 + i)).1 (rst s (3 + i)).2).2.2.2 ∧ Fr w w' (fun i => i = g) := by
  have := rFixed_calls w g _ _ (fsz (3 + i)) (fsz_ok _) h (Nat.le_trans (rst_size s _) hs)
  rw [fsz3] at this ⊢
  exact this

set_option maxRecDepth 100000 in
set_option maxHeartbeats 6400000 in
theorem decode12_calls (w : World) (s : ByteArray) (hs : s.size ≤ maxLen) :
    Calls Try.prog 12 #[.string s] w fun e w' => e = .returned (ndV (Nd.ofF (rvl s)) s) ∧ Fr w w' (fun _ => False) := by
  have C := hid (fun (w : World) (g m : Nat) (h : Rd w g (rst s m).1 (rst s m).2) => rFixed_calls w g _ _ (fsz m) (fsz_ok m) h (Nat.le_trans (rst_size s m) hs))
  have C3 := hid (fun (i : Nat) (w : World) (g : Nat) (h : Rd w g (rst s (3 + i)).1 (rst s (3 + i)).2) => rFixed3 w g s i h hs)
  clear hs
  go_enter Try.func12, Try.ntmps12
  go_wp2_with fail
  have hR0 := alloc_new w (.cells #[.int .i64 0, .int .i64 0, .int .i64 0, .int .i64 0, .int .i64 0, .int .i64 0, .int .i64 0, .int .i64 0, .int .i64 0, .int .i64 0, .int .i64 0] 24)
  have hA0 := (Fr.refl w (fun _ => False)).alloc (.cells #[.int .i64 0, .int .i64 0, .int .i64 0, .int .i64 0, .int .i64 0, .int .i64 0, .int .i64 0, .int .i64 0, .int .i64 0, .int .i64 0, .int .i64 0] 24)
  have hz1 : (w.alloc (.cells #[.int .i64 0, .int .i64 0, .int .i64 0, .int .i64 0, .int .i64 0, .int .i64 0, .int .i64 0, .int .i64 0, .int .i64 0, .int .i64 0, .int .i64 0] 24)).heap.size = w.heap.size + 1 := by simp
  have hE1 := alloc_new (w.alloc (.cells #[.int .i64 0, .int .i64 0, .int .i64 0, .int .i64 0, .int .i64 0, .int .i64 0, .int .i64 0, .int .i64 0, .int .i64 0, .int .i64 0, .int .i64 0] 24)) (.cells #[.int .i64 0, .int .i64 0, .int .i64 0, .int .i64 0, .int .i64 0, .int .i64 0, .int .i64 0, .int .i64 0, .int .i64 0, .int .i64 0, .int .i64 0] 24)
  have hR1 := ((Fr.refl (w.alloc (.cells #[.int .i64 0, .int .i64 0, .int .i64 0, .int .i64 0, .int .i64 0, .int .i64 0, .int .i64 0, .int .i64 0, .int .i64 0, .int .i64 0, .int .i64 0] 24)) (fun _ => False)).alloc (.cells #[.int .i64 0, .int .i64 0, .int .i64 0, .int .i64 0, .int .i64 0, .int .i64 0, .int .i64 0, .int .i64 0, .int .i64 0, .int .i64 0, .int .i64 0] 24)).at_ hR0 (fun x => x)
  have hA1 := hA0.alloc (.cells #[.int .i64 0, .int .i64 0, .int .i64 0, .int .i64 0, .int .i64 0, .int .i64 0, .int .i64 0, .int .i64 0, .int .i64 0, .int .i64 0, .int .i64 0] 24)
  have hz2 : ((w.alloc (.cells #[.int .i64 0, .int .i64 0, .int .i64 0, .int .i64 0, .int .i64 0, .int .i64 0, .int .i64 0, .int .i64 0, .int .i64 0, .int .i64 0, .int .i64 0] 24)).alloc (.cells #[.int .i64 0, .int .i64 0, .int .i64 0, .int .i64 0, .int .i64 0, .int .i64 0, .int .i64 0, .int .i64 0, .int .i64 0, .int .i64 0, .int .i64 0] 24)).heap.size = w.heap.size + 1 + 1 := by simp
  rw [hz1] at hE1
  generalize (w.alloc (.cells #[.int .i64 0, .int .i64 0, .int .i64 0, .int .i64 0, .int .i64 0, .int .i64 0, .int .i64 0, .int .i64 0, .int .i64 0, .int .i64 0, .int .i64 0] 24)).alloc (.cells #[.int .i64 0, .int .i64 0, .int .i64 0, .int .i64 0, .int .i64 0, .int .i64 0, .int .i64 0, .int .i64 0, .int .i64 0, .int .i64 0, .int .i64 0] 24) = w1 at *
  clear hR0 hA0 hz1
  refine (of_calls w1 s).mono ?_
  rintro e w2 ⟨rfl, h2, hf2⟩
  rw [hz2] at h2 ⊢
  have K0 : Dk w w.heap.size (w.heap.size + 1) (w.heap.size + 1 + 1) s 0 w2 := ⟨h2, hf2.at_ hE1 (fun x => x), hf2.at_ hR1 (fun x => x), hA1.trans hf2, by omega, by omega, by omega, by omega, by omega, by omega⟩
  clear h2 hf2 hE1 hR1 hA1 hz2
  have HNE := hid K0.ne
  generalize w.heap.size + 1 + 1 = g at *
  generalize w.heap.size + 1 = E at *
  generalize hRR : w.heap.size = R at *
  have HRR := hid hRR
  clear hRR
  go_wp2_with fail
  refine (C.out w2 g 0 K0.rd).mono ?_
  rintro e w3 ⟨rfl, h3, hf3⟩
  obtain ⟨c, f⟩ := K0.cell (by omega) hf3
  have K1 : Dk w R E g s 1 _ := K0.next (by omega) h3 hf3
  clear h3 hf3 K0
  go_wp2_with fail
  refine (C.out _ g 1 K1.rd).mono ?_
  rintro e w4 ⟨rfl, h3, hf3⟩
  obtain ⟨c, f⟩ := K1.cell (by omega) hf3
  have K2 : Dk w R E g s 2 _ := K1.next (by omega) h3 hf3
  clear h3 hf3 K1
  go_wp2_with fail
  refine (C.out _ g 2 K2.rd).mono ?_
  rintro e w5 ⟨rfl, h3, hf3⟩
  obtain ⟨c, f⟩ := K2.cell (by omega) hf3
  have K3 : Dk w R E g s (3 + 0) _ := K2.next (by omega) h3 hf3
  clear h3 hf3 K2
  go_wp2_with fail
  go_loopw [29] (fun t wr => ∃ i : Nat, i ≤ 6 ∧ t = .int .i64 i ∧ Dk w R E g s (3 + i) wr) (fun t _ => 6 - (intOf t).toNat)
  case atStart => exact ⟨0, by omega, rfl, K3⟩
  case round =>
    clear K3
    obtain ⟨i, hi, rfl, K⟩ := hrel
    by_cases hlt : i < 6
    · have C4 := hid (C3.out i wr g K.rd)
      go_wp2_with fail
      refine C4.out.mono ?_
      rintro e w6 ⟨rfl, h3, hf3⟩
      obtain ⟨c, f⟩ := K.cell (by omega) hf3
      have K1 := K.next (by omega) h3 hf3
      clear h3 hf3 K
      go_wp2_with fail
      go_roundw
      case rel => exact ⟨i + 1, by omega, by go_num, K1⟩
      case measure => simp [intOf]; omega
    · obtain rfl : i = 6 := by omega
      clear hlt hi
      have K9 : Dk w R E g s 9 wr := K
      clear K
      go_wp2_with fail
      refine (C.out _ g 9 K9.rd).mono ?_
      rintro e w6 ⟨rfl, h3, hf3⟩
      obtain ⟨c, f⟩ := K9.cell (by omega) hf3
      have K1 : Dk w R E g s 10 _ := K9.next (by omega) h3 hf3
      clear h3 hf3 K9
      go_wp2_with fail
      refine (C.out _ g 10 K1.rd).mono ?_
      rintro e w7 ⟨rfl, h3, hf3⟩
      obtain ⟨c, f⟩ := K1.cell (by omega) hf3
      have K2 : Dk w R E g s 11 _ := K1.next (by omega) h3 hf3
      have hb7 := hf3.at_ K1.blk K1.ne.1
      have c0 : w7.cell? ⟨E, 0, none⟩ = some (.int .i64 (rvl s 0)) := (cell_blk hb7 0).trans rfl
      have c1 : w7.cell? ⟨E, 1, none⟩ = some (.int .i64 (rvl s 1)) := (cell_blk hb7 1).trans rfl
      have c2 : w7.cell? ⟨E, 2, none⟩ = some (.int .i64 (rvl s 2)) := (cell_blk hb7 2).trans rfl
      have c3 : w7.cell? ⟨E, 3, none⟩ = some (.int .i64 (rvl s 3)) := (cell_blk hb7 3).trans rfl
      have c4 : w7.cell? ⟨E, 4, none⟩ = some (.int .i64 (rvl s 4)) := (cell_blk hb7 4).trans rfl
      have c5 : w7.cell? ⟨E, 5, none⟩ = some (.int .i64 (rvl s 5)) := (cell_blk hb7 5).trans rfl
      have c6 : w7.cell? ⟨E, 6, none⟩ = some (.int .i64 (rvl s 6)) := (cell_blk hb7 6).trans rfl
      have c7 : w7.cell? ⟨E, 7, none⟩ = some (.int .i64 (rvl s 7)) := (cell_blk hb7 7).trans rfl
      have c8 : w7.cell? ⟨E, 8, none⟩ = some (.int .i64 (rvl s 8)) := (cell_blk hb7 8).trans rfl
      have c9 : w7.cell? ⟨E, 9, none⟩ = some (.int .i64 (rvl s 9)) := (cell_blk hb7 9).trans rfl
      clear h3 hf3 K1 hb7
      have hr := K2.res
      have hA := K2.fr
      have hRR2 := hid (show w.heap.size ≤ R from K2.ne.2.2.2.2.2)
      have hb := K2.blk
      rw [upto_all] at hb
      clear K2
      by_cases hR : (Nd.ofF (rvl s)).R
      · have EC := hid (fun w => encode12_yes w (Nd.ofF (rvl s)) hR)
        have HR := hid hR
        clear hR
        by_cases hq : (⟨(ndB (Nd.ofF (rvl s))).toArray⟩ : ByteArray) = s
        · have HV := hid (ndV_yes ⟨HR.out, hq⟩)
          have hbq : (ndB (Nd.ofF (rvl s)) == s.toList) = true := beq_iff_eq.2 (list_of hq)
          clear hq
          go_wp2_with fail
          refine (EC.out _).mono ?_
          rintro e w9 ⟨rfl, hf9⟩
          have hr2 := hf9.at_ hr (fun x => x)
          have hb2 := hf9.at_ hb (fun x => x)
          have hA2 := hA.trans hf9
          have e0 : w9.cell? ⟨E, 0, none⟩ = some (.int .i64 (rvl s 0)) := (cell_blk hb2 0).trans rfl
          have e1 : w9.cell? ⟨E, 1, none⟩ = some (.int .i64 (rvl s 1)) := (cell_blk hb2 1).trans rfl
          have e2 : w9.cell? ⟨E, 2, none⟩ = some (.int .i64 (rvl s 2)) := (cell_blk hb2 2).trans rfl
          have e3 : w9.cell? ⟨E, 3, none⟩ = some (.int .i64 (rvl s 3)) := (cell_blk hb2 3).trans rfl
          have e4 : w9.cell? ⟨E, 4, none⟩ = some (.int .i64 (rvl s 4)) := (cell_blk hb2 4).trans rfl
          have e5 : w9.cell? ⟨E, 5, none⟩ = some (.int .i64 (rvl s 5)) := (cell_blk hb2 5).trans rfl
          have e6 : w9.cell? ⟨E, 6, none⟩ = some (.int .i64 (rvl s 6)) := (cell_blk hb2 6).trans rfl
          have e7 : w9.cell? ⟨E, 7, none⟩ = some (.int .i64 (rvl s 7)) := (cell_blk hb2 7).trans rfl
          have e8 : w9.cell? ⟨E, 8, none⟩ = some (.int .i64 (rvl s 8)) := (cell_blk hb2 8).trans rfl
          have e9 : w9.cell? ⟨E, 9, none⟩ = some (.int .i64 (rvl s 9)) := (cell_blk hb2 9).trans rfl
          have e10 : w9.cell? ⟨E, 10, none⟩ = some (.int .i64 (rvl s 10)) := (cell_blk hb2 10).trans rfl
          have r0 := (cell_blk hr2 0).trans rfl
          have f0 := free_blk hr2 0
          have r1 := (cell_blk hr2 1).trans rfl
          have f1 := free_blk hr2 1
          have r2 := (cell_blk hr2 2).trans rfl
          have f2 := free_blk hr2 2
          have r3 := (cell_blk hr2 3).trans rfl
          have f3 := free_blk hr2 3
          have r4 := (cell_blk hr2 4).trans rfl
          have f4 := free_blk hr2 4
          have r5 := (cell_blk hr2 5).trans rfl
          have f5 := free_blk hr2 5
          have r6 := (cell_blk hr2 6).trans rfl
          have f6 := free_blk hr2 6
          have r7 := (cell_blk hr2 7).trans rfl
          have f7 := free_blk hr2 7
          have r8 := (cell_blk hr2 8).trans rfl
          have f8 := free_blk hr2 8
          have r9 := (cell_blk hr2 9).trans rfl
          have f9 := free_blk hr2 9
          have r10 := (cell_blk hr2 10).trans rfl
          have f10 := free_blk hr2 10
          clear c0 c1 c2 c3 c4 c5 c6 c7 c8 c9 c
          go_wp2_with fail
          (try simp only [Exit.inBlock, Exit.then])
          refine bodyPost_ret (results_node rfl _ _ _ rfl (load11 (v0 := (.int .i64 (rvl s 0))) (v1 := (.int .i64 (rvl s 1))) (v2 := (.int .i64 (rvl s 2))) (v3 := (.int .i64 (rvl s 3))) (v4 := (.int .i64 (rvl s 4))) (v5 := (.int .i64 (rvl s 5))) (v6 := (.int .i64 (rvl s 6))) (v7 := (.int .i64 (rvl s 7))) (v8 := (.int .i64 (rvl s 8))) (v9 := (.int .i64 (rvl s 9))) (v10 := (.int .i64 (rvl s 10))) (t := 24) ?hb)) rfl ?_
          case hb => exact set11 (.int .i64 (rvl s 0)) (.int .i64 (rvl s 1)) (.int .i64 (rvl s 2)) (.int .i64 (rvl s 3)) (.int .i64 (rvl s 4)) (.int .i64 (rvl s 5)) (.int .i64 (rvl s 6)) (.int .i64 (rvl s 7)) (.int .i64 (rvl s 8)) (.int .i64 (rvl s 9)) (.int .i64 (rvl s 10)) hr2
          rw [HV.out]
          exact ⟨rfl, fr11 (.int .i64 (rvl s 0)) (.int .i64 (rvl s 1)) (.int .i64 (rvl s 2)) (.int .i64 (rvl s 3)) (.int .i64 (rvl s 4)) (.int .i64 (rvl s 5)) (.int .i64 (rvl s 6)) (.int .i64 (rvl s 7)) (.int .i64 (rvl s 8)) (.int .i64 (rvl s 9)) (.int .i64 (rvl s 10)) hA2 hRR2.out⟩
        · have HV := hid (ndV_no (y := Nd.ofF (rvl s)) (s := s) (fun h => hq h.2))
          have hbq : (ndB (Nd.ofF (rvl s)) == s.toList) = false := beq_eq_false_iff_ne.2 (fun h => hq (of_list h))
          clear hq
          go_wp2_with fail
          refine (EC.out _).mono ?_
          rintro e w9 ⟨rfl, hf9⟩
          have hr2 := hf9.at_ hr (fun x => x)
          have hA2 := hA.trans hf9
          have r0 := (cell_blk hr2 0).trans rfl
          have f0 := free_blk hr2 0
          have r1 := (cell_blk hr2 1).trans rfl
          have f1 := free_blk hr2 1
          have r2 := (cell_blk hr2 2).trans rfl
          have f2 := free_blk hr2 2
          have r3 := (cell_blk hr2 3).trans rfl
          have f3 := free_blk hr2 3
          have r4 := (cell_blk hr2 4).trans rfl
          have f4 := free_blk hr2 4
          have r5 := (cell_blk hr2 5).trans rfl
          have f5 := free_blk hr2 5
          have r6 := (cell_blk hr2 6).trans rfl
          have f6 := free_blk hr2 6
          have r7 := (cell_blk hr2 7).trans rfl
          have f7 := free_blk hr2 7
          have r8 := (cell_blk hr2 8).trans rfl
          have f8 := free_blk hr2 8
          have r9 := (cell_blk hr2 9).trans rfl
          have f9 := free_blk hr2 9
          have r10 := (cell_blk hr2 10).trans rfl
          have f10 := free_blk hr2 10
          go_wp2_with fail
          (try simp only [Exit.inBlock, Exit.then])
          refine bodyPost_ret (results_node rfl _ _ _ rfl (load11 (v0 := (.int .i64 0)) (v1 := (.int .i64 0)) (v2 := (.int .i64 0)) (v3 := (.int .i64 0)) (v4 := (.int .i64 0)) (v5 := (.int .i64 0)) (v6 := (.int .i64 0)) (v7 := (.int .i64 0)) (v8 := (.int .i64 0)) (v9 := (.int .i64 0)) (v10 := (.int .i64 0)) (t := 24) ?hb2)) rfl ?_
          case hb2 => exact set11 (.int .i64 0) (.int .i64 0) (.int .i64 0) (.int .i64 0) (.int .i64 0) (.int .i64 0) (.int .i64 0) (.int .i64 0) (.int .i64 0) (.int .i64 0) (.int .i64 0) hr2
          rw [HV.out]
          exact ⟨rfl, fr11 (.int .i64 0) (.int .i64 0) (.int .i64 0) (.int .i64 0) (.int .i64 0) (.int .i64 0) (.int .i64 0) (.int .i64 0) (.int .i64 0) (.int .i64 0) (.int .i64 0) hA2 hRR2.out⟩
      · have EC := hid (fun w => encode12_no w (Nd.ofF (rvl s)) hR)
        have HV := hid (ndV_no (y := Nd.ofF (rvl s)) (s := s) (fun h => hR h.1))
        clear hR
        go_wp2_with fail
        refine (EC.out _).mono ?_
        rintro e w9 ⟨rfl, hf9⟩
        have hr2 := hf9.at_ hr (fun x => x)
        have hA2 := hA.trans hf9
        have r0 := (cell_blk hr2 0).trans rfl
        have f0 := free_blk hr2 0
        have r1 := (cell_blk hr2 1).trans rfl
        have f1 := free_blk hr2 1
        have r2 := (cell_blk hr2 2).trans rfl
        have f2 := free_blk hr2 2
        have r3 := (cell_blk hr2 3).trans rfl
        have f3 := free_blk hr2 3
        have r4 := (cell_blk hr2 4).trans rfl
        have f4 := free_blk hr2 4
        have r5 := (cell_blk hr2 5).trans rfl
        have f5 := free_blk hr2 5
        have r6 := (cell_blk hr2 6).trans rfl
        have f6 := free_blk hr2 6
        have r7 := (cell_blk hr2 7).trans rfl
        have f7 := free_blk hr2 7
        have r8 := (cell_blk hr2 8).trans rfl
        have f8 := free_blk hr2 8
        have r9 := (cell_blk hr2 9).trans rfl
        have f9 := free_blk hr2 9
        have r10 := (cell_blk hr2 10).trans rfl
        have f10 := free_blk hr2 10
        go_wp2_with fail
        (try simp only [Exit.inBlock, Exit.then])
        refine bodyPost_ret (results_node rfl _ _ _ rfl (load11 (v0 := (.int .i64 0)) (v1 := (.int .i64 0)) (v2 := (.int .i64 0)) (v3 := (.int .i64 0)) (v4 := (.int .i64 0)) (v5 := (.int .i64 0)) (v6 := (.int .i64 0)) (v7 := (.int .i64 0)) (v8 := (.int .i64 0)) (v9 := (.int .i64 0)) (v10 := (.int .i64 0)) (t := 24) ?hb3)) rfl ?_
        case hb3 => exact set11 (.int .i64 0) (.int .i64 0) (.int .i64 0) (.int .i64 0) (.int .i64 0) (.int .i64 0) (.int .i64 0) (.int .i64 0) (.int .i64 0) (.int .i64 0) (.int .i64 0) hr2
        rw [HV.out]
        exact ⟨rfl, fr11 (.int .i64 0) (.int .i64 0) (.int .i64 0) (.int .i64 0) (.int .i64 0) (.int .i64 0) (.int .i64 0) (.int .i64 0) (.int .i64 0) (.int .i64 0) (.int .i64 0) hA2 hRR2.out⟩
end Go.Proofs.Ytmbfcnacoijmaaa.Cw
