/- The reference's bytes of an inode. Own work. -/
import Derived.Test.YtmbfcnacoijmaaaIoC
import Derived.Deep.RegionHeld3
import Derived.WalkLawsBesides
namespace Go.Proofs.Ytmbfcnacoijmaaa.Cw
open Go.RowKit
set_option linter.unusedVariables false
set_option linter.unusedSimpArgs false

def zerosB (n : Nat) : List UInt8 := List.replicate n 0
theorem zerosB_len (n : Nat) : (zerosB n).length = n := List.length_replicate
theorem zerosB_succ (n : Nat) : zerosB (n + 1) = zerosB n ++ [0] := List.replicate_succ'

set_option maxRecDepth 100000 in
set_option maxHeartbeats 1600000 in
theorem zeros_calls (w : World) (n : Nat) (hn : n ≤ 1000) :
    Calls Try.prog 33 #[.int .i64 n] w fun e w' => e = .returned (.string ⟨(zerosB n).toArray⟩) ∧ w = w' := by
  go_enter Try.func33, Try.ntmps33
  go_wp2
  go_loop [3, 4] (fun s t => ∃ i : Nat, i ≤ n ∧ t = .int .i64 i ∧ s = .string ⟨(zerosB i).toArray⟩) (fun _ t => n - (intOf t).toNat)
  case atStart => exact ⟨0, by omega, rfl, rfl⟩
  case round =>
    obtain ⟨i, hi, rfl, rfl⟩ := hrel
    have hs := hid (zerosB_succ i)
    have hl := hid (zerosB_len i)
    generalize hz : zerosB i = z at *
    have HZ := hid hz
    clear hz
    have hsz : ¬ 9223372036854775807 < z.length + 1 := by have := hl.out; omega
    by_cases hlt : i < n
    · go_wp2
      go_round
      case rel => exact ⟨i + 1, by omega, by go_num, by rw [hs.out]; rfl⟩
      case measure => simp [intOf]; omega
    · have hin : Hid (i = n) := hid (by omega)
      go_wp2
      go_ret
      exact ⟨by rw [← hin.out, HZ.out]; rfl, rfl⟩

theorem refFixed_at (n : Int) (size : Nat) (hz : size ≤ 8) (h0 : 0 ≤ n) (h1 : n ≤ 2 ^ 63 - 1) (w : World) :
    Calls Try.prog 32 #[.int .i64 n, .int .i64 size] w fun e w' => e = .returned (.string ⟨(fixB n.toNat size).toArray⟩) ∧ Fr w w' (fun _ => False) := by
  obtain ⟨m, rfl⟩ := Int.eq_ofNat_of_zero_le h0
  exact refFixed_calls w m size (by omega) hz

theorem keep3 {w0 w w' : World} {b o1 o2 o3 : Nat} {v1 v2 v3 : Value} (hf : Fr w w' (fun _ => False)) (h : w.cell? ⟨b, o1, none⟩ = some v1 ∧ w.cell? ⟨b, o2, none⟩ = some v2 ∧ w.cell? ⟨b, o3, none⟩ = some v3 ∧ Fr w0 w (fun _ => False)) :
    w'.cell? ⟨b, o1, none⟩ = some v1 ∧ w'.cell? ⟨b, o2, none⟩ = some v2 ∧ w'.cell? ⟨b, o3, none⟩ = some v3 ∧ Fr w0 w' (fun _ => False) := by
  obtain ⟨h1, h2, h3, h4⟩ := h
  exact ⟨cell_fr h1 hf, cell_fr h2 hf, cell_fr h3 hf, h4.trans hf⟩
theorem last3 {w0 w : World} {b o1 o2 o3 : Nat} {v1 v2 v3 : Value} (h : w.cell? ⟨b, o1, none⟩ = some v1 ∧ w.cell? ⟨b, o2, none⟩ = some v2 ∧ w.cell? ⟨b, o3, none⟩ = some v3 ∧ Fr w0 w (fun _ => False)) : Fr w0 w (fun _ => False) := h.2.2.2
theorem last2 {w0 w : World} {b o1 o2 : Nat} {v1 v2 : Value} (h : w.cell? ⟨b, o1, none⟩ = some v1 ∧ w.cell? ⟨b, o2, none⟩ = some v2 ∧ Fr w0 w (fun _ => False)) : Fr w0 w (fun _ => False) := h.2.2
theorem keep2 {w0 w w' : World} {b o1 o2 : Nat} {v1 v2 : Value} (hf : Fr w w' (fun _ => False)) (h : w.cell? ⟨b, o1, none⟩ = some v1 ∧ w.cell? ⟨b, o2, none⟩ = some v2 ∧ Fr w0 w (fun _ => False)) :
    w'.cell? ⟨b, o1, none⟩ = some v1 ∧ w'.cell? ⟨b, o2, none⟩ = some v2 ∧ Fr w0 w' (fun _ => False) := by
  obtain ⟨h1, h2, h4⟩ := h
  exact ⟨cell_fr h1 hf, cell_fr h2 hf, h4.trans hf⟩

set_option maxRecDepth 100000 in
set_option maxHeartbeats 6400000 in
theorem refEncode12_no (w : World) (x : Nd) (h : ¬ x.R) :
    Calls Try.prog 11 #[x.V] w fun e w' => e = .returned (.tuple #[.string ⟨#[]⟩, .int .i64 120]) ∧ Fr w w' (fun _ => False) := by
  have RC := hid (fun w => refRight12_calls w x)
  rw [Nd.Rb_no h] at RC
  unfold Nd.V at *
  clear h
  go_enter Try.func11, Try.ntmps11
  go_wp2_with fail
  refine (RC.out _).mono ?_
  rintro e w1 ⟨rfl, hf1⟩
  have hA := ((Fr.refl w (fun _ => False)).alloc _).trans hf1
  go_wp2_with fail
  go_ret2
  exact ⟨rfl, hA⟩

set_option maxRecDepth 100000 in
set_option maxHeartbeats 6400000 in
theorem refEncode12_yes (w : World) (x : Nd) (h : x.R) :
    Calls Try.prog 11 #[x.V] w fun e w' => e = .returned (.tuple #[.string ⟨(ndB x).toArray⟩, .int .i64 0]) ∧ Fr w w' (fun _ => False) := by
  have RC := hid (fun w => refRight12_calls w x)
  rw [Nd.Rb_yes h] at RC
  obtain ⟨hk, hl, hs, hd, ha, hb⟩ := R_nat h
  have Ck := hid (refFixed_at x.k 1 (by omega) hk.1 (by omega))
  have Cl := hid (refFixed_at x.l 1 (by omega) hl.1 (by omega))
  have Cs := hid (refFixed_at x.s 4 (by omega) hs.1 (by omega))
  have Cd := hid (fun i => refFixed_at (x.d i) 2 (by omega) (hd i).1 (by have := hd i; omega))
  have Ca := hid (refFixed_at x.a 2 (by omega) ha.1 (by omega))
  have Cb := hid (refFixed_at x.b 2 (by omega) hb.1 (by omega))
  have Cz := hid (fun w => zeros_calls w 10 (by omega))
  clear hk hl hs hd ha hb h
  have hcl : Hid (∀ i : Nat, i < 6 → (#[.int .i64 x.k, .int .i64 x.l, .int .i64 x.s, .int .i64 x.d0, .int .i64 x.d1, .int .i64 x.d2, .int .i64 x.d3, .int .i64 x.d4, .int .i64 x.d5, .int .i64 x.a, .int .i64 x.b] : Array Value)[3 + i]? = some (.int .i64 (x.d i))) := hid (fun i hi => x.d_cell i hi)
  have lk := fixB_len x.k.toNat 1
  have ll := fixB_len x.l.toNat 1
  have ls := fixB_len x.s.toNat 4
  unfold Nd.V at *
  go_enter Try.func11, Try.ntmps11
  go_wp2_with fail
  refine (RC.out _).mono ?_
  rintro e w1 ⟨rfl, hf1⟩
  have hx1 := hf1.at_ (alloc_new w _) (fun x => x)
  have hA := ((Fr.refl w (fun _ => False)).alloc _).trans hf1
  have c0 := (cell_blk hx1 0).trans rfl
  have c1 := (cell_blk hx1 1).trans rfl
  have c2 := (cell_blk hx1 2).trans rfl
  generalize w.heap.size = A at *
  have e3 : Hid (ndB3 x = fixB x.k.toNat 1 ++ fixB x.l.toNat 1 ++ fixB x.s.toNat 4) := hid rfl
  generalize fixB x.k.toNat 1 = bk at *
  generalize fixB x.l.toNat 1 = bl at *
  generalize fixB x.s.toNat 4 = bs at *
  have g1 : ¬ 9223372036854775807 < bk.length + bl.length := by omega
  have g2 : ¬ 9223372036854775807 < bk.length + bl.length + bs.length := by omega
  clear hf1
  go_upto_region 3 with fail
  go_cut [4] (fun s wx => s = .string ⟨(ndB3 x).toArray⟩ ∧ Fr w1 wx (fun _ => False))
  case first =>
    have hF0 := Fr.refl w1 (fun _ => False)
    go_region_held3 (fun w' => w'.cell? ⟨A, 0, none⟩ = some (.int .i64 x.k) ∧ w'.cell? ⟨A, 1, none⟩ = some (.int .i64 x.l) ∧ w'.cell? ⟨A, 2, none⟩ = some (.int .i64 x.s) ∧ Fr w1 w' (fun _ => False)) (first | exact ⟨c0, c1, c2, hF0⟩ | exact ⟨c0, c1, c2, hF0.drew⟩ | exact keep3 (by assumption) (by assumption))
      (first
        | (go_at_call_of 32 (Value.int .i64 x.k); refine (Ck.out _).mono ?_; rintro e w' ⟨rfl, hf⟩)
        | (go_at_call_of 32 (Value.int .i64 x.l); refine (Cl.out _).mono ?_; rintro e w' ⟨rfl, hf⟩)
        | (go_at_call_of 32 (Value.int .i64 x.s); refine (Cs.out _).mono ?_; rintro e w' ⟨rfl, hf⟩))
    all_goals
      go_wp2_with fail
      go_meet
      exact ⟨by simp only [str_app, e3.out], last3 (by assumption)⟩
  case rest =>
    obtain ⟨rfl, hF⟩ := hcut
    clear c0 c1 c2 g1 g2 lk ll ls
    have K4 : Hid (ndB3 x = ndBi x 0) := hid rfl
    rw [K4.out]
    go_wp2_with fail
    go_loopw [4, 5] (fun s t wr => ∃ i : Nat, i ≤ 6 ∧ t = .int .i64 i ∧ s = .string ⟨(ndBi x i).toArray⟩ ∧ Fr w1 wr (fun _ => False)) (fun _ t _ => 6 - (intOf t).toNat)
    case atStart => exact ⟨0, by omega, rfl, rfl, hF⟩
    case round =>
      clear hF
      obtain ⟨i, hi, rfl, rfl, hF⟩ := hrel
      by_cases hlt : i < 6
      · have hb := hF.at_ hx1 (fun x => x)
        have ix := (cell_blk hb (3 + i)).trans (hcl.out i hlt)
        have C := hid (Cd.out i)
        have hnext : Hid (ndBi x (i + 1) = ndBi x i ++ fixB (x.d i).toNat 2) := hid rfl
        have hL := ndBi_len x i
        have hL2 := fixB_len (x.d i).toNat 2
        generalize ndBi x i = bi at *
        generalize fixB (x.d i).toNat 2 = fi at *
        have g1 : ¬ 9223372036854775807 < bi.length + fi.length := by omega
        clear hL hL2
        go_wp2_with fail
        refine (C.out _).mono ?_
        rintro e w6 ⟨rfl, hf⟩
        have hF2 := hF.trans hf
        clear ix hb hf hF
        go_wp2_with fail
        go_roundw
        case rel => exact ⟨i + 1, by omega, by go_num, by rw [hnext.out, str_app], hF2⟩
        case measure => simp [intOf]; omega
      · obtain rfl : i = 6 := by omega
        clear hlt hi
        have hb := hF.at_ hx1 (fun x => x)
        have c9 := (cell_blk hb 9).trans rfl
        have c10 := (cell_blk hb 10).trans rfl
        have hL := ndBi_len x 6
        have la := fixB_len x.a.toNat 2
        have lb := fixB_len x.b.toNat 2
        have h22 : Hid (nd22 x = ndBi x 6 ++ fixB x.a.toNat 2 ++ fixB x.b.toNat 2) := hid rfl
        generalize ndBi x 6 = bi at *
        generalize fixB x.a.toNat 2 = ba at *
        generalize fixB x.b.toNat 2 = bb at *
        have g1 : ¬ 9223372036854775807 < bi.length + ba.length := by omega
        have g2 : ¬ 9223372036854775807 < bi.length + ba.length + bb.length := by omega
        have g3 : ¬ 9223372036854775807 < bi.length + ba.length + bb.length + (zerosB 10).length := by rw [zerosB_len]; omega
        clear hL la lb
        go_wp2_with fail
        go_region_held3 (fun w' => w'.cell? ⟨A, 9, none⟩ = some (.int .i64 x.a) ∧ w'.cell? ⟨A, 10, none⟩ = some (.int .i64 x.b) ∧ Fr w1 w' (fun _ => False)) (first | exact ⟨c9, c10, hF⟩ | exact ⟨c9, c10, hF.drew⟩ | assumption | exact keep2 (by assumption) (by assumption))
          (first
            | (go_at_call_of 32 (Value.int .i64 x.a); refine (Ca.out _).mono ?_; rintro e w' ⟨rfl, hf⟩)
            | (go_at_call_of 32 (Value.int .i64 x.b); refine (Cb.out _).mono ?_; rintro e w' ⟨rfl, hf⟩)
            | (go_at_call 33; refine (Cz.out _).mono ?_; rintro e w' ⟨rfl, rfl⟩))
        all_goals
          go_wp2_with fail
          go_ret2
          refine ⟨rets ?_ rfl, hA.trans ?_⟩
          · unfold ndB
            rw [h22.out]
            simp only [str_app]
            rfl
          · exact last2 (by assumption)
end Go.Proofs.Ytmbfcnacoijmaaa.Cw
