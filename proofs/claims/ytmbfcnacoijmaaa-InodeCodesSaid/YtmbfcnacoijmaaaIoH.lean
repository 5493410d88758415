/- The reference's Decode of an inode, walked. Own work. -/
import Derived.Test.YtmbfcnacoijmaaaIoG
import Derived.Deep.RegionHeld3
import Derived.Deep.RegionWith
namespace Go.Proofs.Ytmbfcnacoijmaaa.Cw
open Go.RowKit
set_option linter.unusedVariables false
set_option linter.unusedSimpArgs false

set_option maxRecDepth 100000 in
set_option maxHeartbeats 6400000 in
theorem refDecode12_size (w : World) (s : ByteArray) (h : ¬ s.size = 32) (hs : s.size ≤ maxLen) :
    Calls Try.prog 13 #[.string s] w fun e w' => e = .returned (.tuple #[Nd.zero.V, .int .i64 120]) ∧ Fr w w' (fun _ => False) := by
  have hb : ((s.size : Int) != 32) = true := by rw [bne_iff_ne]; omega
  unfold maxLen at hs
  clear h
  go_enter Try.func13, Try.ntmps13
  go_wp2_with fail
  have hr2 := alloc_new w (.cells #[.int .i64 0, .int .i64 0, .int .i64 0, .int .i64 0, .int .i64 0, .int .i64 0, .int .i64 0, .int .i64 0, .int .i64 0, .int .i64 0, .int .i64 0] 24)
  have hA := (Fr.refl w (fun _ => False)).alloc (.cells #[.int .i64 0, .int .i64 0, .int .i64 0, .int .i64 0, .int .i64 0, .int .i64 0, .int .i64 0, .int .i64 0, .int .i64 0, .int .i64 0, .int .i64 0] 24)
  refine bodyPost_ret (results_node rfl _ _ _ rfl (load11 (v0 := (.int .i64 0)) (v1 := (.int .i64 0)) (v2 := (.int .i64 0)) (v3 := (.int .i64 0)) (v4 := (.int .i64 0)) (v5 := (.int .i64 0)) (v6 := (.int .i64 0)) (v7 := (.int .i64 0)) (v8 := (.int .i64 0)) (v9 := (.int .i64 0)) (v10 := (.int .i64 0)) (t := 24) ?hb)) rfl ?_
  case hb => exact hr2
  exact ⟨rfl, hA⟩

def OsIs (w v : World) : Prop := w.os = v.os
theorem OsIs.mk1 (w : World) : OsIs w w := rfl
theorem rfv3 (s : ByteArray) (i : Nat) : rfv s (3 + i) = (two s (6 + 2 * i) : Int) := by
  rw [Nat.add_comm]
  rfl
/-- What is kept while the reference reads an inode. -/
structure Qk (w : World) (R E : Nat) (s : ByteArray) (m : Nat) (wr : World) : Prop where
  blk : wr.heap[E]? = some (.cells (arr11 (upto (rfv s) m)) 24 (0, 0))
  res : wr.heap[R]? = some (.cells #[.int .i64 0, .int .i64 0, .int .i64 0, .int .i64 0, .int .i64 0, .int .i64 0, .int .i64 0, .int .i64 0, .int .i64 0, .int .i64 0, .int .i64 0] 24 (0, 0))
  fr : Fr w wr (fun _ => False)
  ne : R ≠ E ∧ w.heap.size ≤ E ∧ w.heap.size ≤ R
theorem Qk.next {w : World} {R E : Nat} {s : ByteArray} {m : Nat} {wr w2 : World} (h : Qk w R E s m wr) (hm : m < 11) (hf : Fr wr w2 (fun _ => False)) :
    Qk w R E s (m + 1) (w2.setCell ⟨E, m, none⟩ (.int .i64 (rfv s m))) := by
  have hb := hf.at_ h.blk (fun x => x)
  have hr := hf.at_ h.res (fun x => x)
  have f1 := Fr.set1 w2 E m (.int .i64 (rfv s m))
  refine ⟨?_, f1.at_ hr h.ne.1, (h.fr.trans hf).fresh f1 (fun i e => by subst e; exact h.ne.2.1), h.ne⟩
  rw [set_blk hb m, upto_set (rfv s) m hm]
theorem Qk.cell {w : World} {R E : Nat} {s : ByteArray} {m : Nat} {wr w2 : World} (h : Qk w R E s m wr) (hm : m < 11) (hf : Fr wr w2 (fun _ => False)) : w2.cell? ⟨E, m, none⟩ = some (.int .i64 (upto (rfv s) m m)) ∧ w2.frozen? ⟨E, m, none⟩ = false := by
  have hb := hf.at_ h.blk (fun x => x)
  exact ⟨(cell_blk hb m).trans (arr11_get _ m hm), free_blk hb m⟩

theorem fr11e (w : World) (b : Nat) (v0 v1 v2 v3 v4 v5 v6 v7 v8 v9 v10 : Value) : Fr w (((((((((((w.setCell ⟨b, 0, none⟩ v0).setCell ⟨b, 1, none⟩ v1).setCell ⟨b, 2, none⟩ v2).setCell ⟨b, 3, none⟩ v3).setCell ⟨b, 4, none⟩ v4).setCell ⟨b, 5, none⟩ v5).setCell ⟨b, 6, none⟩ v6).setCell ⟨b, 7, none⟩ v7).setCell ⟨b, 8, none⟩ v8).setCell ⟨b, 9, none⟩ v9).setCell ⟨b, 10, none⟩ v10) (fun i => i = b) := Fr.set (S := fun i => i = b) (Fr.set (S := fun i => i = b) (Fr.set (S := fun i => i = b) (Fr.set (S := fun i => i = b) (Fr.set (S := fun i => i = b) (Fr.set (S := fun i => i = b) (Fr.set (S := fun i => i = b) (Fr.set (S := fun i => i = b) (Fr.set (S := fun i => i = b) (Fr.set (S := fun i => i = b) (Fr.set (S := fun i => i = b) (Fr.refl w _) ⟨b, 0, none⟩ (fun _ => rfl) v0) ⟨b, 1, none⟩ (fun _ => rfl) v1) ⟨b, 2, none⟩ (fun _ => rfl) v2) ⟨b, 3, none⟩ (fun _ => rfl) v3) ⟨b, 4, none⟩ (fun _ => rfl) v4) ⟨b, 5, none⟩ (fun _ => rfl) v5) ⟨b, 6, none⟩ (fun _ => rfl) v6) ⟨b, 7, none⟩ (fun _ => rfl) v7) ⟨b, 8, none⟩ (fun _ => rfl) v8) ⟨b, 9, none⟩ (fun _ => rfl) v9) ⟨b, 10, none⟩ (fun _ => rfl) v10
theorem Qk.of11 {w W : World} {R E : Nat} {s : ByteArray} (a0 a1 a2 : Int) (h0 : a0 = rfv s 0) (h1 : a1 = rfv s 1) (h2 : a2 = rfv s 2) (hE : W.heap[E]? = some (.cells #[.int .i64 0, .int .i64 0, .int .i64 0, .int .i64 0, .int .i64 0, .int .i64 0, .int .i64 0, .int .i64 0, .int .i64 0, .int .i64 0, .int .i64 0] 24 (0, 0))) (hR : W.heap[R]? = some (.cells #[.int .i64 0, .int .i64 0, .int .i64 0, .int .i64 0, .int .i64 0, .int .i64 0, .int .i64 0, .int .i64 0, .int .i64 0, .int .i64 0, .int .i64 0] 24 (0, 0))) (hf : Fr w W (fun _ => False)) (hne : R ≠ E ∧ w.heap.size ≤ E ∧ w.heap.size ≤ R) :
    Qk w R E s (3 + 0) (((((((((((W.setCell ⟨E, 0, none⟩ (.int .i64 a0)).setCell ⟨E, 1, none⟩ (.int .i64 a1)).setCell ⟨E, 2, none⟩ (.int .i64 a2)).setCell ⟨E, 3, none⟩ (.int .i64 0)).setCell ⟨E, 4, none⟩ (.int .i64 0)).setCell ⟨E, 5, none⟩ (.int .i64 0)).setCell ⟨E, 6, none⟩ (.int .i64 0)).setCell ⟨E, 7, none⟩ (.int .i64 0)).setCell ⟨E, 8, none⟩ (.int .i64 0)).setCell ⟨E, 9, none⟩ (.int .i64 0)).setCell ⟨E, 10, none⟩ (.int .i64 0)) := by
  subst h0 h1 h2
  have k := fr11e W E (.int .i64 (rfv s 0)) (.int .i64 (rfv s 1)) (.int .i64 (rfv s 2)) (.int .i64 0) (.int .i64 0) (.int .i64 0) (.int .i64 0) (.int .i64 0) (.int .i64 0) (.int .i64 0) (.int .i64 0)
  refine ⟨(set11 (.int .i64 (rfv s 0)) (.int .i64 (rfv s 1)) (.int .i64 (rfv s 2)) (.int .i64 0) (.int .i64 0) (.int .i64 0) (.int .i64 0) (.int .i64 0) (.int .i64 0) (.int .i64 0) (.int .i64 0) hE).trans rfl, k.at_ hR hne.1, fr11 (.int .i64 (rfv s 0)) (.int .i64 (rfv s 1)) (.int .i64 (rfv s 2)) (.int .i64 0) (.int .i64 0) (.int .i64 0) (.int .i64 0) (.int .i64 0) (.int .i64 0) (.int .i64 0) (.int .i64 0) hf hne.2.1, hne⟩

set_option maxRecDepth 100000 in
set_option maxHeartbeats 6400000 in
theorem refDecode12_32 (w : World) (s : ByteArray) (hs : s.size = 32) :
    Calls Try.prog 13 #[.string s] w fun e w' => e = .returned (ndV (Nd.ofF (rfv s)) s) ∧ Fr w w' (fun _ => False) := by
  have T2 := hid (fun w => two_at w s 2 2 rfl (by omega) (by omega))
  have T4 := hid (fun w => two_at w s 4 4 rfl (by omega) (by omega))
  have U2 := hid (fun w => two_calls w s 2 (by omega) (by omega))
  have U4 := hid (fun w => two_calls w s 4 (by omega) (by omega))
  have z2 : IntKind.i64.wrap (65536 * (two s 4 : Int)) = 65536 * (two s 4 : Int) := IntWalk.i64_in _ (by have := two_lt s 4; omega)
  have z3 : IntKind.i64.wrap ((two s 2 : Int) + 65536 * (two s 4 : Int)) = (two s 2 : Int) + 65536 * (two s 4 : Int) := IntWalk.i64_in _ (by have := two_lt s 4; have := two_lt s 2; omega)
  have T18 := hid (fun w => two_at w s 18 18 rfl (by omega) (by omega))
  have T20 := hid (fun w => two_at w s 20 20 rfl (by omega) (by omega))
  have Ti := hid (fun (i : Nat) (hi : i < 6) w => two_at w s (6 + 2 * (i : Int)) (6 + 2 * i) (by omega) (by omega) (by omega))
  have hb : ((s.size : Int) != 32) = false := by rw [hs]; rfl
  have h0 : 0 < s.size := by omega
  have h1 : 1 < s.size := by omega
  have z0 : IntKind.i64.wrap (s[0].toNat : Int) = s[0].toNat := IntWalk.i64_in _ (by have := s[0].toNat_lt; omega)
  have z1 : IntKind.i64.wrap (s[1].toNat : Int) = s[1].toNat := IntWalk.i64_in _ (by have := s[1].toNat_lt; omega)
  have i0 : (0 : Int) < (s.size : Int) := by omega
  have i1 : (1 : Int) < (s.size : Int) := by omega
  have H0 : Hid ((s[0].toNat : Int) = rfv s 0) := hid (by show _ = ((byt s 0 : Nat) : Int); rw [byt_eq s 0 h0])
  have H1 : Hid ((s[1].toNat : Int) = rfv s 1) := hid (by show _ = ((byt s 1 : Nat) : Int); rw [byt_eq s 1 h1])
  have b2 := two_lt s 2
  have b4 := two_lt s 4
  clear hs
  go_enter Try.func13, Try.ntmps13
  go_wp2_with fail
  have hR := alloc_new w (.cells #[.int .i64 0, .int .i64 0, .int .i64 0, .int .i64 0, .int .i64 0, .int .i64 0, .int .i64 0, .int .i64 0, .int .i64 0, .int .i64 0, .int .i64 0] 24)
  have hA := (Fr.refl w (fun _ => False)).alloc (.cells #[.int .i64 0, .int .i64 0, .int .i64 0, .int .i64 0, .int .i64 0, .int .i64 0, .int .i64 0, .int .i64 0, .int .i64 0, .int .i64 0, .int .i64 0] 24)
  have hsz : w.heap.size < (w.alloc (.cells #[.int .i64 0, .int .i64 0, .int .i64 0, .int .i64 0, .int .i64 0, .int .i64 0, .int .i64 0, .int .i64 0, .int .i64 0, .int .i64 0, .int .i64 0] 24)).heap.size := by simp
  generalize w.alloc (.cells #[.int .i64 0, .int .i64 0, .int .i64 0, .int .i64 0, .int .i64 0, .int .i64 0, .int .i64 0, .int .i64 0, .int .i64 0, .int .i64 0, .int .i64 0] 24) = w1 at *
  generalize hRR : w.heap.size = R at *
  have HRR := hid hRR
  clear hRR
  go_upto_region 3 with fail
  go_cut [4] (fun p wx => ∃ E, p = .pointer (some ⟨E, 0, none⟩) ∧ Qk w R E s (3 + 0) wx)
  case first =>
    have dn1 : ∀ (k : Nat) (C : Array Value) (t : TypeId) (i : Nat), ((w1.drewN k).alloc (.cells C t)).cell? ⟨w1.heap.size, i, none⟩ = C[i]? := fun k C t i => World.cell?_alloc_at (w := w1.drewN k) C t _ i rfl
    have dn2 : ∀ (k : Nat) (C : Array Value) (t : TypeId) (i : Nat), ((w1.drewN k).alloc (.cells C t)).frozen? ⟨w1.heap.size, i, none⟩ = false := fun k C t i => free_blk (alloc_new (w1.drewN k) _) i
    have dn3 : ∀ (k : Nat) (C : Array Value) (t : TypeId) (i : Nat) (v : Value), ((w1.drewN k).alloc (.cells C t)).setCell ⟨w1.heap.size, i, none⟩ v = (w1.drewN k).alloc (.cells (C.setIfInBounds i v) t) := fun k C t i v => World.setCell_alloc_at (w := w1.drewN k) C t _ i v rfl
    have HQ : Hid (∀ W : World, W.heap = (w1.alloc (.cells #[.int .i64 s[0].toNat, .int .i64 s[1].toNat, .int .i64 ((two s 2 : Int) + 65536 * (two s 4 : Int)), .int .i64 0, .int .i64 0, .int .i64 0, .int .i64 0, .int .i64 0, .int .i64 0, .int .i64 0, .int .i64 0] 24)).heap → W.os = w1.os → W.tape = w1.tape → W.output = w1.output → Qk w R w1.heap.size s (3 + 0) W) := hid (fun W h1 h2 h3 h4 => by
      have hq1 := hA.alloc (.cells #[.int .i64 s[0].toNat, .int .i64 s[1].toNat, .int .i64 ((two s 2 : Int) + 65536 * (two s 4 : Int)), .int .i64 0, .int .i64 0, .int .i64 0, .int .i64 0, .int .i64 0, .int .i64 0, .int .i64 0, .int .i64 0] 24)
      refine ⟨?_, ?_, ⟨h2.trans hA.os, h3.trans hA.tape, h4.trans hA.output, by rw [h1]; exact hq1.size, fun i hi hs => by rw [h1]; exact hq1.block i hi hs⟩, by omega, hA.size, by rw [HRR.out]; exact Nat.le_refl _⟩
      · rw [h1]
        refine (alloc_new w1 _).trans ?_
        rw [H0.out, H1.out]
        rfl
      · rw [h1]
        exact ((Fr.refl w1 (fun _ => False)).alloc _).at_ hR (fun x => x))
    have hz1 : (w1.alloc (.cells #[.int .i64 0, .int .i64 0, .int .i64 0, .int .i64 0, .int .i64 0, .int .i64 0, .int .i64 0, .int .i64 0, .int .i64 0, .int .i64 0, .int .i64 0] 24)).heap[w1.heap.size]? = some (.cells #[.int .i64 0, .int .i64 0, .int .i64 0, .int .i64 0, .int .i64 0, .int .i64 0, .int .i64 0, .int .i64 0, .int .i64 0, .int .i64 0, .int .i64 0] 24 (0, 0)) := alloc_new w1 _
    have hz2 : (w1.alloc (.cells #[.int .i64 0, .int .i64 0, .int .i64 0, .int .i64 0, .int .i64 0, .int .i64 0, .int .i64 0, .int .i64 0, .int .i64 0, .int .i64 0, .int .i64 0] 24)).heap[R]? = some (.cells #[.int .i64 0, .int .i64 0, .int .i64 0, .int .i64 0, .int .i64 0, .int .i64 0, .int .i64 0, .int .i64 0, .int .i64 0, .int .i64 0, .int .i64 0] 24 (0, 0)) := ((Fr.refl w1 (fun _ => False)).alloc _).at_ hR (fun x => x)
    have hz3 := hA.alloc (.cells #[.int .i64 0, .int .i64 0, .int .i64 0, .int .i64 0, .int .i64 0, .int .i64 0, .int .i64 0, .int .i64 0, .int .i64 0, .int .i64 0, .int .i64 0] 24)
    have HQ2 : Hid (∀ W : World, W.heap = (w1.alloc (.cells #[.int .i64 0, .int .i64 0, .int .i64 0, .int .i64 0, .int .i64 0, .int .i64 0, .int .i64 0, .int .i64 0, .int .i64 0, .int .i64 0, .int .i64 0] 24)).heap → W.os = w1.os → W.tape = w1.tape → W.output = w1.output → Qk w R w1.heap.size s (3 + 0) (((((((((((W.setCell ⟨w1.heap.size, 0, none⟩ (.int .i64 (s[0].toNat : Int))).setCell ⟨w1.heap.size, 1, none⟩ (.int .i64 (s[1].toNat : Int))).setCell ⟨w1.heap.size, 2, none⟩ (.int .i64 ((two s 2 : Int) + 65536 * (two s 4 : Int)))).setCell ⟨w1.heap.size, 3, none⟩ (.int .i64 0)).setCell ⟨w1.heap.size, 4, none⟩ (.int .i64 0)).setCell ⟨w1.heap.size, 5, none⟩ (.int .i64 0)).setCell ⟨w1.heap.size, 6, none⟩ (.int .i64 0)).setCell ⟨w1.heap.size, 7, none⟩ (.int .i64 0)).setCell ⟨w1.heap.size, 8, none⟩ (.int .i64 0)).setCell ⟨w1.heap.size, 9, none⟩ (.int .i64 0)).setCell ⟨w1.heap.size, 10, none⟩ (.int .i64 0))) := hid (fun W e1 e2 e3 e4 =>
      Qk.of11 _ _ _ H0.out H1.out rfl (by rw [e1]; exact hz1) (by rw [e1]; exact hz2) ⟨e2.trans hA.os, e3.trans hA.tape, e4.trans hA.output, by rw [e1]; exact hz3.size, fun i hi hs => by rw [e1]; exact hz3.block i hi hs⟩ ⟨by omega, hA.size, by rw [HRR.out]; exact Nat.le_refl _⟩)
    clear hz1 hz2 hz3
    clear T2 T4 T18 T20 Ti H0 H1 hR hA hb
    refine wp_region_any (by kernel_rfl) ?_
    change wpAny _ _ _ _ _ _ _ (World.drew _)
    refine wpAny_take (i := 0) (v := .string s) rfl (by kernel_rfl) (by kernel_rfl) (by kernel_rfl) (fun _ _ _ h => h) (Or.inl ⟨by rfl, fun w => by go_simp⟩) ?_
    simp only [Act.put, List.setIfInBounds_toArray, List.set_cons_zero, List.set_cons_succ]
    refine wpAny_take (i := 1) (v := .int .u8 s[0].toNat) rfl (by kernel_rfl) (by kernel_rfl) (by kernel_rfl) (fun _ _ _ h => h) (Or.inl ⟨by rfl, fun w => by go_simp⟩) ?_
    simp only [Act.put, List.setIfInBounds_toArray, List.set_cons_zero, List.set_cons_succ]
    refine wpAny_take (i := 2) (v := .int .i64 s[0].toNat) rfl (by kernel_rfl) (by kernel_rfl) (by kernel_rfl) (fun _ _ _ h => h) (Or.inl ⟨by rfl, fun w => by go_simp⟩) ?_
    simp only [Act.put, List.setIfInBounds_toArray, List.set_cons_zero, List.set_cons_succ]
    refine wpAny_take (i := 3) (v := .string s) rfl (by kernel_rfl) (by kernel_rfl) (by kernel_rfl) (fun _ _ _ h => h) (Or.inl ⟨by rfl, fun w => by go_simp⟩) ?_
    simp only [Act.put, List.setIfInBounds_toArray, List.set_cons_zero, List.set_cons_succ]
    refine wpAny_take (i := 4) (v := .int .u8 s[1].toNat) rfl (by kernel_rfl) (by kernel_rfl) (by kernel_rfl) (fun _ _ _ h => h) (Or.inl ⟨by rfl, fun w => by go_simp⟩) ?_
    simp only [Act.put, List.setIfInBounds_toArray, List.set_cons_zero, List.set_cons_succ]
    refine wpAny_take (i := 5) (v := .int .i64 s[1].toNat) rfl (by kernel_rfl) (by kernel_rfl) (by kernel_rfl) (fun _ _ _ h => h) (Or.inl ⟨by rfl, fun w => by go_simp⟩) ?_
    simp only [Act.put, List.setIfInBounds_toArray, List.set_cons_zero, List.set_cons_succ]
    refine wpAny_take (i := 6) (v := .string s) rfl (by kernel_rfl) (by kernel_rfl) (by kernel_rfl) (fun _ _ _ h => h) (Or.inl ⟨by rfl, fun w => by go_simp⟩) ?_
    simp only [Act.put, List.setIfInBounds_toArray, List.set_cons_zero, List.set_cons_succ]
    refine wpAny_take (i := 8) (v := .string s) rfl (by kernel_rfl) (by kernel_rfl) (by kernel_rfl) (fun _ _ _ h => h) (Or.inl ⟨by rfl, fun w => by go_simp⟩) ?_
    simp only [Act.put, List.setIfInBounds_toArray, List.set_cons_zero, List.set_cons_succ]
    refine wpAny_ready (rs := [7, 13]) (by kernel_rfl) (by simp) ?_
    refine AllReady.cons rfl (fun K hK => ?_) (AllReady.cons rfl (fun K hK => ?_) AllReady.nil)
    · go_simp
      go_wp2_with (go_at_call 36; refine (U2.out _).mono ?_; rintro e w' ⟨rfl, n2, rfl⟩)
      (try (refine hK _ _ ?_))
      (try clear hK K)
      (try simp only [Act.put, List.setIfInBounds_toArray, List.set_cons_zero, List.set_cons_succ])
      refine wpAny_ready (rs := [9, 13]) (by kernel_rfl) (by simp) ?_
      refine AllReady.cons rfl (fun K hK => ?_) (AllReady.cons rfl (fun K hK => ?_) AllReady.nil)
      · go_simp
        go_wp2_with (go_at_call 36; refine (U4.out _).mono ?_; rintro e w' ⟨rfl, n4, rfl⟩)
        (try (refine hK _ _ ?_))
        (try clear hK K)
        (try simp only [Act.put, List.setIfInBounds_toArray, List.set_cons_zero, List.set_cons_succ])
        refine wpAny_take (i := 10) (v := .int .i64 (65536 * (two s 4 : Int))) rfl (by kernel_rfl) (by kernel_rfl) (by kernel_rfl) (fun _ _ _ h => h) (Or.inl ⟨by rfl, fun w => by go_simp⟩) ?_
        simp only [Act.put, List.setIfInBounds_toArray, List.set_cons_zero, List.set_cons_succ]
        refine wpAny_take (i := 11) (v := .int .i64 ((two s 2 : Int) + 65536 * (two s 4 : Int))) rfl (by kernel_rfl) (by kernel_rfl) (by kernel_rfl) (fun _ _ _ h => h) (Or.inl ⟨by rfl, fun w => by go_simp⟩) ?_
        simp only [Act.put, List.setIfInBounds_toArray, List.set_cons_zero, List.set_cons_succ]
        refine wpAny_take (i := 12) (v := .agg #[.int .i64 s[0].toNat, .int .i64 s[1].toNat, .int .i64 ((two s 2 : Int) + 65536 * (two s 4 : Int)), .int .i64 0, .int .i64 0, .int .i64 0, .int .i64 0, .int .i64 0, .int .i64 0, .int .i64 0, .int .i64 0]) rfl (by kernel_rfl) (by kernel_rfl) (by kernel_rfl) (fun _ _ _ h => h) (Or.inl ⟨by rfl, fun w => by go_simp⟩) ?_
        simp only [Act.put, List.setIfInBounds_toArray, List.set_cons_zero, List.set_cons_succ]
        refine wpAny_ready (rs := [13]) (by kernel_rfl) (by simp) ?_
        refine AllReady.cons rfl (fun K hK => ?_) AllReady.nil
        go_simp
        (try go_wp2_with fail)
        (try (refine hK _ _ ?_))
        (try clear hK K)
        (try simp only [Act.put, List.setIfInBounds_toArray, List.set_cons_zero, List.set_cons_succ])
        refine wpAny_ready (rs := [14]) (by kernel_rfl) (by simp) ?_
        refine AllReady.cons rfl (fun K hK => ?_) AllReady.nil
        go_simp
        (try go_wp2_with fail)
        (try (refine hK _ _ ?_))
        (try clear hK K)
        (try simp only [Act.put, List.setIfInBounds_toArray, List.set_cons_zero, List.set_cons_succ])
        refine wpAny_done (by kernel_rfl) ?_ _
        go_wp2_with fail
        go_meet
        exact ⟨w1.heap.size, rfl, HQ.out _ rfl rfl rfl rfl⟩
      · go_simp
        (try go_wp2_with fail)
        (try (refine hK _ _ ?_))
        (try clear hK K)
        (try simp only [Act.put, List.setIfInBounds_toArray, List.set_cons_zero, List.set_cons_succ])
        refine wpAny_ready (rs := [9]) (by kernel_rfl) (by simp) ?_
        refine AllReady.cons rfl (fun K hK => ?_) AllReady.nil
        go_simp
        go_wp2_with (go_at_call 36; refine (U4.out _).mono ?_; rintro e w' ⟨rfl, n4, rfl⟩)
        (try (refine hK _ _ ?_))
        (try clear hK K)
        (try simp only [Act.put, List.setIfInBounds_toArray, List.set_cons_zero, List.set_cons_succ])
        refine wpAny_take (i := 10) (v := .int .i64 (65536 * (two s 4 : Int))) rfl (by kernel_rfl) (by kernel_rfl) (by kernel_rfl) (fun _ _ _ h => h) (Or.inl ⟨by rfl, fun w => by go_simp⟩) ?_
        simp only [Act.put, List.setIfInBounds_toArray, List.set_cons_zero, List.set_cons_succ]
        refine wpAny_take (i := 11) (v := .int .i64 ((two s 2 : Int) + 65536 * (two s 4 : Int))) rfl (by kernel_rfl) (by kernel_rfl) (by kernel_rfl) (fun _ _ _ h => h) (Or.inl ⟨by rfl, fun w => by go_simp⟩) ?_
        simp only [Act.put, List.setIfInBounds_toArray, List.set_cons_zero, List.set_cons_succ]
        refine wpAny_take (i := 12) (v := .agg #[.int .i64 s[0].toNat, .int .i64 s[1].toNat, .int .i64 ((two s 2 : Int) + 65536 * (two s 4 : Int)), .int .i64 0, .int .i64 0, .int .i64 0, .int .i64 0, .int .i64 0, .int .i64 0, .int .i64 0, .int .i64 0]) rfl (by kernel_rfl) (by kernel_rfl) (by kernel_rfl) (fun _ _ _ h => h) (Or.inl ⟨by rfl, fun w => by go_simp⟩) ?_
        simp only [Act.put, List.setIfInBounds_toArray, List.set_cons_zero, List.set_cons_succ]
        refine wpAny_ready (rs := [14]) (by kernel_rfl) (by simp) ?_
        refine AllReady.cons rfl (fun K hK => ?_) AllReady.nil
        go_simp
        (try go_wp2_with fail)
        (try (refine hK _ _ ?_))
        (try clear hK K)
        (try simp only [Act.put, List.setIfInBounds_toArray, List.set_cons_zero, List.set_cons_succ])
        refine wpAny_done (by kernel_rfl) ?_ _
        go_wp2_with fail
        go_meet
        exact ⟨w1.heap.size, rfl, HQ2.out _ rfl rfl rfl rfl⟩
    · go_simp
      (try go_wp2_with fail)
      (try (refine hK _ _ ?_))
      (try clear hK K)
      (try simp only [Act.put, List.setIfInBounds_toArray, List.set_cons_zero, List.set_cons_succ])
      refine wpAny_ready (rs := [7]) (by kernel_rfl) (by simp) ?_
      refine AllReady.cons rfl (fun K hK => ?_) AllReady.nil
      go_simp
      go_wp2_with (go_at_call 36; refine (U2.out _).mono ?_; rintro e w' ⟨rfl, n2, rfl⟩)
      (try (refine hK _ _ ?_))
      (try clear hK K)
      (try simp only [Act.put, List.setIfInBounds_toArray, List.set_cons_zero, List.set_cons_succ])
      refine wpAny_ready (rs := [9]) (by kernel_rfl) (by simp) ?_
      refine AllReady.cons rfl (fun K hK => ?_) AllReady.nil
      go_simp
      go_wp2_with (go_at_call 36; refine (U4.out _).mono ?_; rintro e w' ⟨rfl, n4, rfl⟩)
      (try (refine hK _ _ ?_))
      (try clear hK K)
      (try simp only [Act.put, List.setIfInBounds_toArray, List.set_cons_zero, List.set_cons_succ])
      refine wpAny_take (i := 10) (v := .int .i64 (65536 * (two s 4 : Int))) rfl (by kernel_rfl) (by kernel_rfl) (by kernel_rfl) (fun _ _ _ h => h) (Or.inl ⟨by rfl, fun w => by go_simp⟩) ?_
      simp only [Act.put, List.setIfInBounds_toArray, List.set_cons_zero, List.set_cons_succ]
      refine wpAny_take (i := 11) (v := .int .i64 ((two s 2 : Int) + 65536 * (two s 4 : Int))) rfl (by kernel_rfl) (by kernel_rfl) (by kernel_rfl) (fun _ _ _ h => h) (Or.inl ⟨by rfl, fun w => by go_simp⟩) ?_
      simp only [Act.put, List.setIfInBounds_toArray, List.set_cons_zero, List.set_cons_succ]
      refine wpAny_take (i := 12) (v := .agg #[.int .i64 s[0].toNat, .int .i64 s[1].toNat, .int .i64 ((two s 2 : Int) + 65536 * (two s 4 : Int)), .int .i64 0, .int .i64 0, .int .i64 0, .int .i64 0, .int .i64 0, .int .i64 0, .int .i64 0, .int .i64 0]) rfl (by kernel_rfl) (by kernel_rfl) (by kernel_rfl) (fun _ _ _ h => h) (Or.inl ⟨by rfl, fun w => by go_simp⟩) ?_
      simp only [Act.put, List.setIfInBounds_toArray, List.set_cons_zero, List.set_cons_succ]
      refine wpAny_ready (rs := [14]) (by kernel_rfl) (by simp) ?_
      refine AllReady.cons rfl (fun K hK => ?_) AllReady.nil
      go_simp
      (try go_wp2_with fail)
      (try (refine hK _ _ ?_))
      (try clear hK K)
      (try simp only [Act.put, List.setIfInBounds_toArray, List.set_cons_zero, List.set_cons_succ])
      refine wpAny_done (by kernel_rfl) ?_ _
      go_wp2_with fail
      go_meet
      exact ⟨w1.heap.size, rfl, HQ2.out _ rfl rfl rfl rfl⟩
  case rest =>
    obtain ⟨E, rfl, K3⟩ := hcut
    clear hR hA hsz z0 z1 z2 z3 H0 H1 b2 b4 U2 U4 T2 T4 i0 i1 h0 h1
    go_wp2_with fail
    go_loopw [5] (fun t wr => ∃ i : Nat, i ≤ 6 ∧ t = .int .i64 i ∧ Qk w R E s (3 + i) wr) (fun t _ => 6 - (intOf t).toNat)
    case atStart => exact ⟨0, by omega, rfl, K3⟩
    case round =>
      clear K3
      obtain ⟨i, hi, rfl, K⟩ := hrel
      by_cases hlt : i < 6
      · have C4 := hid (Ti.out i hlt)
        have hv := rfv3 s i
        rw [← hv] at C4
        have w1 : IntKind.i64.wrap (2 * (i : Int)) = 2 * (i : Int) := IntWalk.i64_in _ (by omega)
        have w2 : IntKind.i64.wrap (6 + 2 * (i : Int)) = 6 + 2 * (i : Int) := IntWalk.i64_in _ (by omega)
        clear hv
        go_wp2_with fail
        refine (C4.out _).mono ?_
        rintro e w6 ⟨rfl, hf3⟩
        obtain ⟨c, f⟩ := K.cell (by omega) hf3
        have K1 := K.next (by omega) hf3
        clear hf3 K
        go_wp2_with fail
        go_roundw
        case rel => exact ⟨i + 1, by omega, by go_num, K1⟩
        case measure => simp [intOf]; omega
      · obtain rfl : i = 6 := by omega
        clear hlt hi
        have K9 : Qk w R E s 9 wr := K
        clear K
        go_wp2_with fail
        refine (T18.out _).mono ?_
        rintro e w6 ⟨rfl, hf3⟩
        obtain ⟨c, f⟩ := K9.cell (by omega) hf3
        have K1 : Qk w R E s 10 _ := K9.next (by omega) hf3
        clear hf3 K9
        go_wp2_with fail
        refine (T20.out _).mono ?_
        rintro e w7 ⟨rfl, hf3⟩
        obtain ⟨c, f⟩ := K1.cell (by omega) hf3
        have K2 : Qk w R E s 11 _ := K1.next (by omega) hf3
        have hb7 := hf3.at_ K1.blk (fun x => x)
        have c0 : w7.cell? ⟨E, 0, none⟩ = some (.int .i64 (rfv s 0)) := (cell_blk hb7 0).trans rfl
        have c1 : w7.cell? ⟨E, 1, none⟩ = some (.int .i64 (rfv s 1)) := (cell_blk hb7 1).trans rfl
        have c2 : w7.cell? ⟨E, 2, none⟩ = some (.int .i64 (rfv s 2)) := (cell_blk hb7 2).trans rfl
        have c3 : w7.cell? ⟨E, 3, none⟩ = some (.int .i64 (rfv s 3)) := (cell_blk hb7 3).trans rfl
        have c4 : w7.cell? ⟨E, 4, none⟩ = some (.int .i64 (rfv s 4)) := (cell_blk hb7 4).trans rfl
        have c5 : w7.cell? ⟨E, 5, none⟩ = some (.int .i64 (rfv s 5)) := (cell_blk hb7 5).trans rfl
        have c6 : w7.cell? ⟨E, 6, none⟩ = some (.int .i64 (rfv s 6)) := (cell_blk hb7 6).trans rfl
        have c7 : w7.cell? ⟨E, 7, none⟩ = some (.int .i64 (rfv s 7)) := (cell_blk hb7 7).trans rfl
        have c8 : w7.cell? ⟨E, 8, none⟩ = some (.int .i64 (rfv s 8)) := (cell_blk hb7 8).trans rfl
        have c9 : w7.cell? ⟨E, 9, none⟩ = some (.int .i64 (rfv s 9)) := (cell_blk hb7 9).trans rfl
        clear hf3 K1 hb7
        have hr := K2.res
        have hA := K2.fr
        have hRR2 := hid (show w.heap.size ≤ R from K2.ne.2.2)
        have hb := K2.blk
        rw [upto_all] at hb
        clear K2
        by_cases hR : (Nd.ofF (rfv s)).R
        · have EC := hid (fun w => refEncode12_yes w (Nd.ofF (rfv s)) hR)
          have HR := hid hR
          clear hR
          by_cases hq : (⟨(ndB (Nd.ofF (rfv s))).toArray⟩ : ByteArray) = s
          · have HV := hid (ndV_yes ⟨HR.out, hq⟩)
            have hbq : (ndB (Nd.ofF (rfv s)) == s.toList) = true := beq_iff_eq.2 (list_of hq)
            clear hq
            go_wp2_with fail
            refine (EC.out _).mono ?_
            rintro e w9 ⟨rfl, hf9⟩
            have hr2 := hf9.at_ hr (fun x => x)
            have hb2 := hf9.at_ hb (fun x => x)
            have hA2 := hA.trans hf9
            have e0 : w9.cell? ⟨E, 0, none⟩ = some (.int .i64 (rfv s 0)) := (cell_blk hb2 0).trans rfl
            have e1 : w9.cell? ⟨E, 1, none⟩ = some (.int .i64 (rfv s 1)) := (cell_blk hb2 1).trans rfl
            have e2 : w9.cell? ⟨E, 2, none⟩ = some (.int .i64 (rfv s 2)) := (cell_blk hb2 2).trans rfl
            have e3 : w9.cell? ⟨E, 3, none⟩ = some (.int .i64 (rfv s 3)) := (cell_blk hb2 3).trans rfl
            have e4 : w9.cell? ⟨E, 4, none⟩ = some (.int .i64 (rfv s 4)) := (cell_blk hb2 4).trans rfl
            have e5 : w9.cell? ⟨E, 5, none⟩ = some (.int .i64 (rfv s 5)) := (cell_blk hb2 5).trans rfl
            have e6 : w9.cell? ⟨E, 6, none⟩ = some (.int .i64 (rfv s 6)) := (cell_blk hb2 6).trans rfl
            have e7 : w9.cell? ⟨E, 7, none⟩ = some (.int .i64 (rfv s 7)) := (cell_blk hb2 7).trans rfl
            have e8 : w9.cell? ⟨E, 8, none⟩ = some (.int .i64 (rfv s 8)) := (cell_blk hb2 8).trans rfl
            have e9 : w9.cell? ⟨E, 9, none⟩ = some (.int .i64 (rfv s 9)) := (cell_blk hb2 9).trans rfl
            have e10 : w9.cell? ⟨E, 10, none⟩ = some (.int .i64 (rfv s 10)) := (cell_blk hb2 10).trans rfl
            have r0 := (cell_blk hr2 0).trans rfl
            have f0 := free_blk hr2 0
            have r1 := (cell_blk hr2 1).trans rfl
            have f1 := free_blk hr2 1
            have r2 := (cell_blk hr2 2).trans rfl
            have f2 := free_blk hr2 2
            have r3 := (cell_blk hr2 3).trans rfl
            have f3 := free_blk hr2 3
            have r4 := (cell_blk hr2 4).trans rfl
            have f4 := free_blk hr2 4
            have r5 := (cell_blk hr2 5).trans rfl
            have f5 := free_blk hr2 5
            have r6 := (cell_blk hr2 6).trans rfl
            have f6 := free_blk hr2 6
            have r7 := (cell_blk hr2 7).trans rfl
            have f7 := free_blk hr2 7
            have r8 := (cell_blk hr2 8).trans rfl
            have f8 := free_blk hr2 8
            have r9 := (cell_blk hr2 9).trans rfl
            have f9 := free_blk hr2 9
            have r10 := (cell_blk hr2 10).trans rfl
            have f10 := free_blk hr2 10
            clear c0 c1 c2 c3 c4 c5 c6 c7 c8 c9 c
            go_wp2_with fail
            (try simp only [Exit.inBlock, Exit.then])
            refine bodyPost_ret (results_node rfl _ _ _ rfl (load11 (v0 := (.int .i64 (rfv s 0))) (v1 := (.int .i64 (rfv s 1))) (v2 := (.int .i64 (rfv s 2))) (v3 := (.int .i64 (rfv s 3))) (v4 := (.int .i64 (rfv s 4))) (v5 := (.int .i64 (rfv s 5))) (v6 := (.int .i64 (rfv s 6))) (v7 := (.int .i64 (rfv s 7))) (v8 := (.int .i64 (rfv s 8))) (v9 := (.int .i64 (rfv s 9))) (v10 := (.int .i64 (rfv s 10))) (t := 24) ?hb)) rfl ?_
            case hb => exact set11 (.int .i64 (rfv s 0)) (.int .i64 (rfv s 1)) (.int .i64 (rfv s 2)) (.int .i64 (rfv s 3)) (.int .i64 (rfv s 4)) (.int .i64 (rfv s 5)) (.int .i64 (rfv s 6)) (.int .i64 (rfv s 7)) (.int .i64 (rfv s 8)) (.int .i64 (rfv s 9)) (.int .i64 (rfv s 10)) hr2
            rw [HV.out]
            exact ⟨rfl, fr11 (.int .i64 (rfv s 0)) (.int .i64 (rfv s 1)) (.int .i64 (rfv s 2)) (.int .i64 (rfv s 3)) (.int .i64 (rfv s 4)) (.int .i64 (rfv s 5)) (.int .i64 (rfv s 6)) (.int .i64 (rfv s 7)) (.int .i64 (rfv s 8)) (.int .i64 (rfv s 9)) (.int .i64 (rfv s 10)) hA2 hRR2.out⟩
          · have HV := hid (ndV_no (y := Nd.ofF (rfv s)) (s := s) (fun h => hq h.2))
            have hbq : (ndB (Nd.ofF (rfv s)) == s.toList) = false := beq_eq_false_iff_ne.2 (fun h => hq (of_list h))
            clear hq
            go_wp2_with fail
            refine (EC.out _).mono ?_
            rintro e w9 ⟨rfl, hf9⟩
            have hr2 := hf9.at_ hr (fun x => x)
            have hA2 := hA.trans hf9
            have r0 := (cell_blk hr2 0).trans rfl
            have f0 := free_blk hr2 0
            have r1 := (cell_blk hr2 1).trans rfl
            have f1 := free_blk hr2 1
            have r2 := (cell_blk hr2 2).trans rfl
            have f2 := free_blk hr2 2
            have r3 := (cell_blk hr2 3).trans rfl
            have f3 := free_blk hr2 3
            have r4 := (cell_blk hr2 4).trans rfl
            have f4 := free_blk hr2 4
            have r5 := (cell_blk hr2 5).trans rfl
            have f5 := free_blk hr2 5
            have r6 := (cell_blk hr2 6).trans rfl
            have f6 := free_blk hr2 6
            have r7 := (cell_blk hr2 7).trans rfl
            have f7 := free_blk hr2 7
            have r8 := (cell_blk hr2 8).trans rfl
            have f8 := free_blk hr2 8
            have r9 := (cell_blk hr2 9).trans rfl
            have f9 := free_blk hr2 9
            have r10 := (cell_blk hr2 10).trans rfl
            have f10 := free_blk hr2 10
            go_wp2_with fail
            (try simp only [Exit.inBlock, Exit.then])
            refine bodyPost_ret (results_node rfl _ _ _ rfl (load11 (v0 := (.int .i64 0)) (v1 := (.int .i64 0)) (v2 := (.int .i64 0)) (v3 := (.int .i64 0)) (v4 := (.int .i64 0)) (v5 := (.int .i64 0)) (v6 := (.int .i64 0)) (v7 := (.int .i64 0)) (v8 := (.int .i64 0)) (v9 := (.int .i64 0)) (v10 := (.int .i64 0)) (t := 24) ?hb2)) rfl ?_
            case hb2 => exact set11 (.int .i64 0) (.int .i64 0) (.int .i64 0) (.int .i64 0) (.int .i64 0) (.int .i64 0) (.int .i64 0) (.int .i64 0) (.int .i64 0) (.int .i64 0) (.int .i64 0) hr2
            rw [HV.out]
            exact ⟨rfl, fr11 (.int .i64 0) (.int .i64 0) (.int .i64 0) (.int .i64 0) (.int .i64 0) (.int .i64 0) (.int .i64 0) (.int .i64 0) (.int .i64 0) (.int .i64 0) (.int .i64 0) hA2 hRR2.out⟩
        · have EC := hid (fun w => refEncode12_no w (Nd.ofF (rfv s)) hR)
          have HV := hid (ndV_no (y := Nd.ofF (rfv s)) (s := s) (fun h => hR h.1))
          clear hR
          go_wp2_with fail
          refine (EC.out _).mono ?_
          rintro e w9 ⟨rfl, hf9⟩
          have hr2 := hf9.at_ hr (fun x => x)
          have hA2 := hA.trans hf9
          have r0 := (cell_blk hr2 0).trans rfl
          have f0 := free_blk hr2 0
          have r1 := (cell_blk hr2 1).trans rfl
          have f1 := free_blk hr2 1
          have r2 := (cell_blk hr2 2).trans rfl
          have f2 := free_blk hr2 2
          have r3 := (cell_blk hr2 3).trans rfl
          have f3 := free_blk hr2 3
          have r4 := (cell_blk hr2 4).trans rfl
          have f4 := free_blk hr2 4
          have r5 := (cell_blk hr2 5).trans rfl
          have f5 := free_blk hr2 5
          have r6 := (cell_blk hr2 6).trans rfl
          have f6 := free_blk hr2 6
          have r7 := (cell_blk hr2 7).trans rfl
          have f7 := free_blk hr2 7
          have r8 := (cell_blk hr2 8).trans rfl
          have f8 := free_blk hr2 8
          have r9 := (cell_blk hr2 9).trans rfl
          have f9 := free_blk hr2 9
          have r10 := (cell_blk hr2 10).trans rfl
          have f10 := free_blk hr2 10
          go_wp2_with fail
          (try simp only [Exit.inBlock, Exit.then])
          refine bodyPost_ret (results_node rfl _ _ _ rfl (load11 (v0 := (.int .i64 0)) (v1 := (.int .i64 0)) (v2 := (.int .i64 0)) (v3 := (.int .i64 0)) (v4 := (.int .i64 0)) (v5 := (.int .i64 0)) (v6 := (.int .i64 0)) (v7 := (.int .i64 0)) (v8 := (.int .i64 0)) (v9 := (.int .i64 0)) (v10 := (.int .i64 0)) (t := 24) ?hb3)) rfl ?_
          case hb3 => exact set11 (.int .i64 0) (.int .i64 0) (.int .i64 0) (.int .i64 0) (.int .i64 0) (.int .i64 0) (.int .i64 0) (.int .i64 0) (.int .i64 0) (.int .i64 0) (.int .i64 0) hr2
          rw [HV.out]
          exact ⟨rfl, fr11 (.int .i64 0) (.int .i64 0) (.int .i64 0) (.int .i64 0) (.int .i64 0) (.int .i64 0) (.int .i64 0) (.int .i64 0) (.int .i64 0) (.int .i64 0) (.int .i64 0) hA2 hRR2.out⟩

theorem refDecode12_calls (w : World) (s : ByteArray) (hs : s.size ≤ maxLen) :
    Calls Try.prog 13 #[.string s] w fun e w' => e = .returned (ndV (Nd.ofF (rvl s)) s) ∧ Fr w w' (fun _ => False) := by
  by_cases h : s.size = 32
  · rw [ofF_ext (rvl_ref s h)]
    exact refDecode12_32 w s h
  · rw [ndV_size _ s h]
    exact refDecode12_size w s h hs
end Go.Proofs.Ytmbfcnacoijmaaa.Cw
