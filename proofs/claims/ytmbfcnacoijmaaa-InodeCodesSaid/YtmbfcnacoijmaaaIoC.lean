/- An inode's bytes. Own work. -/
import Derived.Test.YtmbfcnacoijmaaaIoB
import Derived.Test.YtmbfcnacoijmaaaRpB
import Derived.Handy
import Derived.Laws.MakeOwn
import Derived.WalkLawsBesides
namespace Go.Proofs.Ytmbfcnacoijmaaa.Cw
open Go.RowKit
set_option linter.unusedVariables false
set_option linter.unusedSimpArgs false

/-- The first three numbers' bytes, and those of so many of the six. -/
def ndB3 (x : Nd) : List UInt8 := fixB x.k.toNat 1 ++ fixB x.l.toNat 1 ++ fixB x.s.toNat 4
def ndBi (x : Nd) : Nat → List UInt8
  | 0 => ndB3 x
  | i + 1 => ndBi x i ++ fixB (x.d i).toNat 2
def nd22 (x : Nd) : List UInt8 := ndBi x 6 ++ fixB x.a.toNat 2 ++ fixB x.b.toNat 2
def zero10 : List UInt8 := [0, 0, 0, 0, 0, 0, 0, 0, 0, 0]
/-- An inode's bytes. -/
def ndB (x : Nd) : List UInt8 := nd22 x ++ zero10
theorem ndB3_len (x : Nd) : (ndB3 x).length = 6 := by unfold ndB3; simp only [List.length_append, fixB_len]
theorem ndBi_len (x : Nd) (i : Nat) : (ndBi x i).length = 6 + 2 * i := by
  induction i with
  | zero => exact ndB3_len x
  | succ i ih => rw [ndBi, List.length_append, ih, fixB_len]; omega
theorem nd22_len (x : Nd) : (nd22 x).length = 22 := by unfold nd22; simp only [List.length_append, fixB_len, ndBi_len]
theorem ndB_len (x : Nd) : (ndB x).length = 32 := by unfold ndB; rw [List.length_append, nd22_len]; rfl

def zeroO : Obj := .cells #[.int .u8 0, .int .u8 0, .int .u8 0, .int .u8 0, .int .u8 0, .int .u8 0, .int .u8 0, .int .u8 0, .int .u8 0, .int .u8 0] 5
theorem make10 (w : World) (bs : List UInt8) (h : bs.length = 22) : (Instr.makeSlice 64 (.int .i64 (32 - (bs.length : Int))) (.int .i64 (32 - (bs.length : Int)))).run Try.prog w = .ok (.slice (some ⟨w.heap.size, 0, none⟩) 10 10) (w.alloc zeroO) := by
  rw [h]
  obtain ⟨i0, hi, hz0, hz1, hz2⟩ := info_parts info_u8
  rw [show (32 : Int) - ((22 : Nat) : Int) = 10 from rfl]
  have hr := run_make (P := Try.prog) w 64 5 i0 (.int .u8 0) Try.underlying64 hi hz0 .i64 .i64 10 10 (by omega) (by omega) (by rw [hz2]; omega) (by omega)
  rw [hr, hz1]
  have e : madeCells (Value.int .u8 0).cells (Int.toNat 10 * 1) = #[.int .u8 0, .int .u8 0, .int .u8 0, .int .u8 0, .int .u8 0, .int .u8 0, .int .u8 0, .int .u8 0, .int .u8 0, .int .u8 0] := by kernel_rfl
  rw [e]
  rfl
theorem conv10 (w : World) : (convert 64 9 (.slice (some ⟨w.heap.size, 0, none⟩) 10 10)).run Try.prog (w.alloc zeroO) = .ok (.string ⟨#[0, 0, 0, 0, 0, 0, 0, 0, 0, 0]⟩) (w.alloc zeroO) := by
  rw [run_convert_bytes_arg (w.alloc zeroO) 64 5 Try.underlying64 Try.underlying5 w.heap.size 0 10 10 [0, 0, 0, 0, 0, 0, 0, 0, 0, 0] rfl (fun i hi => by
    rw [Nat.zero_add]
    refine (cell_blk (alloc_new w _) i).trans ?_
    rcases (show i = 0 ∨ i = 1 ∨ i = 2 ∨ i = 3 ∨ i = 4 ∨ i = 5 ∨ i = 6 ∨ i = 7 ∨ i = 8 ∨ i = 9 by omega) with rfl | rfl | rfl | rfl | rfl | rfl | rfl | rfl | rfl | rfl <;> rfl) 9 Try.underlying9]
  rfl

/-- A right inode's numbers. -/
theorem R_nat {x : Nd} (h : x.R) : (0 ≤ x.k ∧ x.k < 256) ∧ (0 ≤ x.l ∧ x.l < 256) ∧ (0 ≤ x.s ∧ x.s < 4294967296) ∧ (∀ i : Nat, 0 ≤ x.d i ∧ x.d i < 65536) ∧ (0 ≤ x.a ∧ x.a < 65536) ∧ (0 ≤ x.b ∧ x.b < 65536) := by
  unfold Nd.R Bk at h
  refine ⟨by omega, by omega, by omega, ?_, by omega, by omega⟩
  intro i
  unfold Nd.d
  split <;> omega

/-- The writer's Fixed at a number that fits. -/
theorem wFixed_at (n : Int) (size : Nat) (hz : size = 1 ∨ size = 2 ∨ size = 4 ∨ size = 8) (h0 : 0 ≤ n) (h1 : n ≤ 2 ^ 63 - 1) (hfit : n.toNat < 256 ^ size) (w : World) (g : Nat) (v : Value) (bs : List UInt8) (h : Wr w g v bs) (hl : Len bs 10) :
    Calls Try.prog 30 #[.pointer (some ⟨g, 0, none⟩), .int .i64 n, .int .i64 size] w fun e w' => e = .returned (.int .i64 0) ∧ Wrote w w' g v (bs ++ fixB n.toNat size) := by
  obtain ⟨m, rfl⟩ := Int.eq_ofNat_of_zero_le h0
  exact wFixed_calls w g v bs m size hz (by omega) hfit h hl

/-- What is kept while an inode is written: the writer, and the inode's own block. -/
structure Wk (w : World) (A g : Nat) (x : Nd) (wr : World) (bs : List UInt8) : Prop where
  own : ∃ v, Wr wr g v bs ∧ Nw w v
  blk : wr.heap[A]? = some (.cells #[.int .i64 x.k, .int .i64 x.l, .int .i64 x.s, .int .i64 x.d0, .int .i64 x.d1, .int .i64 x.d2, .int .i64 x.d3, .int .i64 x.d4, .int .i64 x.d5, .int .i64 x.a, .int .i64 x.b] 24 (0, 0))
  fr : Fr w wr (fun _ => False)
  fg : w.heap.size ≤ g
theorem Wk.next {w : World} {A g : Nat} {x : Nd} {wr wr2 : World} {bs bs2 : List UInt8} {v : Value} (h : Wk w A g x wr bs) (hw : Wr wr g v bs) (hn : Nw w v) (k : Wrote wr wr2 g v bs2) : Wk w A g x wr2 bs2 := by
  obtain ⟨v2, h2, f2, n2⟩ := k
  exact ⟨⟨v2, h2, hn.next h.fr.size n2⟩, f2.at_ h.blk (hw.apart h.blk (by decide) (by decide)), h.fr.fresh f2 (WS_fresh h.fg hn), h.fg⟩
theorem Wk.cells {w : World} {A g : Nat} {x : Nd} {wr : World} {bs : List UInt8} (h : Wk w A g x wr bs) :
    wr.cell? ⟨A, 0, none⟩ = some (.int .i64 x.k) ∧ wr.cell? ⟨A, 1, none⟩ = some (.int .i64 x.l) ∧ wr.cell? ⟨A, 2, none⟩ = some (.int .i64 x.s) ∧ wr.cell? ⟨A, 3, none⟩ = some (.int .i64 x.d0) ∧ wr.cell? ⟨A, 4, none⟩ = some (.int .i64 x.d1) ∧ wr.cell? ⟨A, 5, none⟩ = some (.int .i64 x.d2) ∧ wr.cell? ⟨A, 6, none⟩ = some (.int .i64 x.d3) ∧ wr.cell? ⟨A, 7, none⟩ = some (.int .i64 x.d4) ∧ wr.cell? ⟨A, 8, none⟩ = some (.int .i64 x.d5) ∧ wr.cell? ⟨A, 9, none⟩ = some (.int .i64 x.a) ∧ wr.cell? ⟨A, 10, none⟩ = some (.int .i64 x.b) :=
  ⟨cell_blk h.blk 0, cell_blk h.blk 1, cell_blk h.blk 2, cell_blk h.blk 3, cell_blk h.blk 4, cell_blk h.blk 5, cell_blk h.blk 6, cell_blk h.blk 7, cell_blk h.blk 8, cell_blk h.blk 9, cell_blk h.blk 10⟩

set_option maxRecDepth 100000 in
set_option maxHeartbeats 6400000 in
theorem encode12_no (w : World) (x : Nd) (h : ¬ x.R) :
    Calls Try.prog 10 #[x.V] w fun e w' => e = .returned (.tuple #[.string ⟨#[]⟩, .int .i64 120]) ∧ Fr w w' (fun _ => False) := by
  have RC := hid (fun w => check_calls w x)
  rw [Nd.E_no h] at RC
  unfold Nd.V at *
  clear h
  go_enter Try.func10, Try.ntmps10
  go_wp2_with fail
  refine (RC.out _).mono ?_
  rintro e w1 ⟨rfl, hf1⟩
  have hA := ((Fr.refl w (fun _ => False)).alloc _).trans hf1
  go_wp2_with fail
  go_ret2
  exact ⟨rfl, hA⟩

set_option maxRecDepth 100000 in
set_option maxHeartbeats 6400000 in
theorem encode12_yes (w : World) (x : Nd) (h : x.R) :
    Calls Try.prog 10 #[x.V] w fun e w' => e = .returned (.tuple #[.string ⟨(ndB x).toArray⟩, .int .i64 0]) ∧ Fr w w' (fun _ => False) := by
  have RC := hid (fun w => check_calls w x)
  rw [Nd.E_yes h] at RC
  obtain ⟨hk, hl, hs, hd, ha, hb⟩ := R_nat h
  have Ck := hid (wFixed_at x.k 1 (by omega) hk.1 (by omega) (by omega))
  have Cl := hid (wFixed_at x.l 1 (by omega) hl.1 (by omega) (by omega))
  have Cs := hid (wFixed_at x.s 4 (by omega) hs.1 (by omega) (by omega))
  have Cd := hid (fun i => wFixed_at (x.d i) 2 (by omega) (hd i).1 (by have := hd i; omega) (by have := hd i; omega))
  have Ca := hid (wFixed_at x.a 2 (by omega) ha.1 (by omega) (by omega))
  have Cb := hid (wFixed_at x.b 2 (by omega) hb.1 (by omega) (by omega))
  have hix : ∀ i : Nat, i < 6 → ∀ w, (Instr.index 22 (.agg #[.int .i64 x.d0, .int .i64 x.d1, .int .i64 x.d2, .int .i64 x.d3, .int .i64 x.d4, .int .i64 x.d5]) (.int .i64 i)).run Try.prog w = .ok (.int .i64 (x.d i)) w := by
    intro i hi w
    rcases (show i = 0 ∨ i = 1 ∨ i = 2 ∨ i = 3 ∨ i = 4 ∨ i = 5 by omega) with rfl | rfl | rfl | rfl | rfl | rfl <;> kernel_rfl
  have HX := hid hix
  clear hix hk hl hs hd ha hb h
  unfold Nd.V at *
  go_enter Try.func10, Try.ntmps10
  go_wp2_with fail
  refine (RC.out _).mono ?_
  rintro e w1 ⟨rfl, hf1⟩
  have hx1 := hf1.at_ (alloc_new w _) (fun x => x)
  have hA := ((Fr.refl w (fun _ => False)).alloc _).trans hf1
  clear hf1
  go_wp2_with fail
  refine (new_calls w1).mono ?_
  rintro e w2 ⟨rfl, hn, hf2⟩
  have K0 : Wk w w.heap.size w1.heap.size x w2 [] := ⟨⟨_, Wr.new hn, Nw.nil w⟩, hf2.at_ hx1 (fun x => x), hA.trans hf2, hA.size⟩
  clear hn hf2 hx1 hA
  generalize w1.heap.size = g at *
  generalize w.heap.size = A at *
  obtain ⟨v0, W0, N0⟩ := K0.own
  obtain ⟨c0, c1, c2, c3, c4, c5, c6, c7, c8, c9, c10⟩ := K0.cells
  go_wp2_with fail
  refine (Ck.out _ g _ _ W0 (by unfold Len; simp)).mono ?_
  rintro e w3 ⟨rfl, k3⟩
  have K1 := K0.next W0 N0 k3
  clear k3 W0 N0 K0 c0 c1 c2 c3 c4 c5 c6 c7 c8 c9 c10
  obtain ⟨v1, W1, N1⟩ := K1.own
  obtain ⟨c0, c1, c2, c3, c4, c5, c6, c7, c8, c9, c10⟩ := K1.cells
  go_wp2_with fail
  refine (Cl.out _ g _ _ W1 (by unfold Len; simp [fixB_len])).mono ?_
  rintro e w4 ⟨rfl, k3⟩
  have K2 := K1.next W1 N1 k3
  clear k3 W1 N1 K1 c0 c1 c2 c3 c4 c5 c6 c7 c8 c9 c10
  obtain ⟨v1, W1, N1⟩ := K2.own
  obtain ⟨c0, c1, c2, c3, c4, c5, c6, c7, c8, c9, c10⟩ := K2.cells
  go_wp2_with fail
  refine (Cs.out _ g _ _ W1 (by unfold Len; simp [fixB_len])).mono ?_
  rintro e w5 ⟨rfl, k3⟩
  have K3 := K2.next W1 N1 k3
  clear k3 W1 N1 K2 c0 c1 c2 c3 c4 c5 c6 c7 c8 c9 c10
  rw [List.nil_append] at K3
  have K4 : Wk w A g x w5 (ndBi x 0) := K3
  clear K3
  obtain ⟨c0, c1, c2, c3, c4, c5, c6, c7, c8, c9, c10⟩ := K4.cells
  go_wp2_with fail
  clear c0 c1 c2 c3 c4 c5 c6 c7 c8 c9 c10
  go_loopw [29] (fun t wr => ∃ i : Nat, i ≤ 6 ∧ t = .int .i64 i ∧ Wk w A g x wr (ndBi x i)) (fun t _ => 6 - (intOf t).toNat)
  case atStart => exact ⟨0, by omega, rfl, K4⟩
  case round =>
    clear K4
    obtain ⟨i, hi, rfl, K⟩ := hrel
    by_cases hlt : i < 6
    · have ix := HX.out i hlt
      have C := hid (Cd.out i)
      have hnext : Hid (ndBi x (i + 1) = ndBi x i ++ fixB (x.d i).toNat 2) := hid rfl
      have hL := hid (ndBi_len x i)
      obtain ⟨v1, W1, N1⟩ := K.own
      go_wp2_with fail
      refine (C.out _ g _ _ W1 (by have := hL.out; unfold Len; omega)).mono ?_
      rintro e w6 ⟨rfl, k3⟩
      have K1 := K.next W1 N1 k3
      clear k3 W1 N1 K
      go_wp2_with fail
      go_roundw
      case rel => exact ⟨i + 1, by omega, by go_num, by rw [hnext.out]; exact K1⟩
      case measure => simp [intOf]; omega
    · obtain rfl : i = 6 := by omega
      clear hlt hi
      have hL := hid (ndBi_len x 6)
      obtain ⟨v1, W1, N1⟩ := K.own
      obtain ⟨c0, c1, c2, c3, c4, c5, c6, c7, c8, c9, c10⟩ := K.cells
      go_wp2_with fail
      refine (Ca.out _ g _ _ W1 (by have := hL.out; unfold Len; omega)).mono ?_
      rintro e w6 ⟨rfl, k3⟩
      have K1 := K.next W1 N1 k3
      clear k3 W1 N1 K c0 c1 c2 c3 c4 c5 c6 c7 c8 c9 c10
      obtain ⟨v1, W1, N1⟩ := K1.own
      obtain ⟨c0, c1, c2, c3, c4, c5, c6, c7, c8, c9, c10⟩ := K1.cells
      go_wp2_with fail
      refine (Cb.out _ g _ _ W1 (by have := hL.out; unfold Len; simp only [List.length_append, fixB_len]; omega)).mono ?_
      rintro e w7 ⟨rfl, k3⟩
      have K2 : Wk w A g x w7 (nd22 x) := K1.next W1 N1 k3
      clear k3 W1 N1 K1 c0 c1 c2 c3 c4 c5 c6 c7 c8 c9 c10
      obtain ⟨v1, W1, N1⟩ := K2.own
      go_wp2_with fail
      refine (wOut_calls w7 g _ _ W1).mono ?_
      rintro e w8 ⟨rfl, rfl⟩
      have h22 := nd22_len x
      generalize hbs : nd22 x = bs at *
      have HBS := hid hbs
      have H22 := hid h22
      clear hbs h22
      have hmk := fun w => make10 w bs H22.out
      have hcv := conv10
      have hsz : ¬ 9223372036854775807 < bs.length + 10 := by have := H22.out; omega
      go_wp2_with fail
      go_ret2
      exact ⟨rets (by unfold ndB; rw [HBS.out]; rfl) rfl, K2.fr.alloc _⟩
end Go.Proofs.Ytmbfcnacoijmaaa.Cw
