/- InodeBack by a walk over contracts. Own work. -/
import Derived.Test.YtmbfcnacoijmaaaIoX
import Derived.Test.YtmbfcnacoijmaaaIoZ
namespace Go.Proofs.Ytmbfcnacoijmaaa.Cw
open Go.RowKit
set_option linter.unusedVariables false
set_option linter.unusedSimpArgs false
attribute [local go_sem ↓ high] eqNd

set_option maxRecDepth 100000 in
set_option maxHeartbeats 3200000 in
theorem back12_enc (w : World) (b : ByteArray) (k : Int) (x : Nd) (hR : ¬ x.R) :
    Calls Try.prog 9 #[.string b, .int .i64 k, x.V] w fun e w' => e = .returned (.bool true) ∧ Fr w w' (fun _ => False) := by
  have H1 := hid (fun w => encode12_no w x hR)
  unfold Nd.V at *
  clear hR
  go_enter Try.func9, Try.ntmps9
  go_wp2_with fail
  refine (H1.out _).mono ?_
  rintro e w1 ⟨rfl, hf1⟩
  have hA1 := ((Fr.refl w (fun _ => False)).alloc _).trans hf1
  go_wp2_with (go_at_call 16; refine (speaks12_calls _).mono ?_; rintro e6 w6 ⟨rfl, hf6⟩)
  go_ret
  exact ⟨rfl, hA1.trans hf6⟩

/-- Encoded and decoded: up to Put. -/
def BackAt : Nat := 0
set_option maxRecDepth 100000 in
set_option maxHeartbeats 6400000 in
theorem back12_ask (w : World) (b : ByteArray) (k X : Int) (x : Nd) (hR : x.R) (hX : X ≠ 0)
    (h3 : ∀ w, Calls Try.prog 27 #[.string b, .int .i64 k, x.V] w fun e w' => e = .returned (.tuple #[.string ⟨#[]⟩, .int .i64 X]) ∧ Fr w w' (fun _ => False)) :
    Calls Try.prog 9 #[.string b, .int .i64 k, x.V] w fun e w' => e = .returned (.bool true) ∧ Fr w w' (fun _ => False) := by
  have H1 := hid (fun w => encode12_yes w x hR)
  have H2 := hid (fun w => decode12_calls w ⟨(ndB x).toArray⟩ (by show (ndB x).toArray.size ≤ maxLen; rw [List.size_toArray, ndB_len]; decide))
  rw [ndV_back x hR] at H2
  have H3 := hid h3
  have hq := eq11_yes x.k x.l x.s x.d0 x.d1 x.d2 x.d3 x.d4 x.d5 x.a x.b
  have hb : (X != 0) = true := bne_iff_ne.2 hX
  generalize ndB x = l at *
  unfold Nd.V at *
  clear hR h3 hX
  go_enter Try.func9, Try.ntmps9
  go_wp2_with fail
  refine (H1.out _).mono ?_
  rintro e w1 ⟨rfl, hf1⟩
  have hx1 := hf1.at_ (alloc_new w _) (fun x => x)
  have hA1 := ((Fr.refl w (fun _ => False)).alloc _).trans hf1
  generalize w.heap.size = A at *
  clear hf1
  go_wp2_with fail
  refine (H2.out _).mono ?_
  rintro e w2 ⟨rfl, hf2⟩
  have hx2 := hf2.at_ hx1 (fun x => x)
  have hA2 := hA1.trans hf2
  clear hf2 hx1 hA1
  have hD3 := alloc_new w2 (.cells #[.int .i64 x.k, .int .i64 x.l, .int .i64 x.s, .int .i64 x.d0, .int .i64 x.d1, .int .i64 x.d2, .int .i64 x.d3, .int .i64 x.d4, .int .i64 x.d5, .int .i64 x.a, .int .i64 x.b] 24)
  have hF3 := (Fr.refl w2 (fun _ => False)).alloc (.cells #[.int .i64 x.k, .int .i64 x.l, .int .i64 x.s, .int .i64 x.d0, .int .i64 x.d1, .int .i64 x.d2, .int .i64 x.d3, .int .i64 x.d4, .int .i64 x.d5, .int .i64 x.a, .int .i64 x.b] 24)
  have hx3 := hF3.at_ hx2 (fun x => x)
  have hA3 := hA2.trans hF3
  have c0 := (cell_blk hx3 0).trans rfl
  have c1 := (cell_blk hx3 1).trans rfl
  have c2 := (cell_blk hx3 2).trans rfl
  have c3 := (cell_blk hx3 3).trans rfl
  have c4 := (cell_blk hx3 4).trans rfl
  have c5 := (cell_blk hx3 5).trans rfl
  have c6 := (cell_blk hx3 6).trans rfl
  have c7 := (cell_blk hx3 7).trans rfl
  have c8 := (cell_blk hx3 8).trans rfl
  have c9 := (cell_blk hx3 9).trans rfl
  have c10 := (cell_blk hx3 10).trans rfl
  clear hF3 hx2 hA2
  go_wp2_with fail
  refine (H3.out _).mono ?_
  rintro e w4 ⟨rfl, hf4⟩
  have hA4 := hA3.trans hf4
  clear c0 c1 c2 c3 c4 c5 c6 c7 c8 c9 c10
  go_wp2_with (go_at_call 16; refine (speaks12_calls _).mono ?_; rintro e6 w6 ⟨rfl, hf6⟩)
  go_ret
  exact ⟨rfl, hA4.trans hf6⟩

set_option maxRecDepth 100000 in
set_option maxHeartbeats 12800000 in
theorem back12_yes (w : World) (b : ByteArray) (k : Nat) (x : Nd) (hR : x.R) (hs : b.size = 128) (hk : k < 4) :
    Calls Try.prog 9 #[.string b, .int .i64 k, x.V] w fun e w' => e = .returned (.bool true) ∧ Fr w w' (fun _ => False) := by
  have H1 := hid (fun w => encode12_yes w x hR)
  have H2 := hid (fun w => decode12_calls w ⟨(ndB x).toArray⟩ (by show (ndB x).toArray.size ≤ maxLen; rw [List.size_toArray, ndB_len]; decide))
  rw [ndV_back x hR] at H2
  have H3 := hid (fun w => put_yes w b k x hs hk hR)
  have hcs := putB_size b k x hs hk
  have hq := eq11_yes x.k x.l x.s x.d0 x.d1 x.d2 x.d3 x.d4 x.d5 x.a x.b
  have G1 : Hid (∀ i : Nat, i < 4 → ∃ (z : Nd) (e : Int), (∀ w, Calls Try.prog 25 #[.string b, .int .i64 i] w fun r w' => r = .returned (.tuple #[z.V, .int .i64 e]) ∧ Fr w w' (fun _ => False)) ∧
      (∀ w, Calls Try.prog 25 #[.string (putB b k x), .int .i64 i] w fun r w' => r = .returned (if i = k then .tuple #[x.V, .int .i64 0] else .tuple #[z.V, .int .i64 e]) ∧ Fr w w' (fun _ => False))) := hid (fun i hi => by
    obtain ⟨z, e, hz⟩ := dV_split (Nd.ofF (rvl (cut32 b i))) (cut32 b i)
    refine ⟨z, e, fun w => ?_, fun w => ?_⟩
    · rw [← hz]; exact get_yes w b i hs hi
    · have := get_yes w (putB b k x) i hcs hi
      rw [putB_cut b k x hs hk i hi] at this
      by_cases h : i = k
      · rw [if_pos h, ndV_back x hR] at this
        rw [if_pos h]
        exact this
      · rw [if_neg h, hz] at this
        rw [if_neg h]
        exact this)
  generalize putB b k x = c at *
  have hl : ((c.size : Int) == 128) = true := by rw [hcs]; rfl
  have hc2 : c.size ≤ 128 := by omega
  generalize ndB x = l at *
  unfold Nd.V at *
  clear hR hs hcs
  go_enter Try.func9, Try.ntmps9
  go_wp2_with fail
  refine (H1.out _).mono ?_
  rintro e w1 ⟨rfl, hf1⟩
  have hx1 := hf1.at_ (alloc_new w _) (fun x => x)
  have hA1 := ((Fr.refl w (fun _ => False)).alloc _).trans hf1
  generalize w.heap.size = A at *
  clear hf1
  go_wp2_with fail
  refine (H2.out _).mono ?_
  rintro e w2 ⟨rfl, hf2⟩
  have hx2 := hf2.at_ hx1 (fun x => x)
  have hA2 := hA1.trans hf2
  clear hf2 hx1 hA1
  have hD3 := alloc_new w2 (.cells #[.int .i64 x.k, .int .i64 x.l, .int .i64 x.s, .int .i64 x.d0, .int .i64 x.d1, .int .i64 x.d2, .int .i64 x.d3, .int .i64 x.d4, .int .i64 x.d5, .int .i64 x.a, .int .i64 x.b] 24)
  have hF3 := (Fr.refl w2 (fun _ => False)).alloc (.cells #[.int .i64 x.k, .int .i64 x.l, .int .i64 x.s, .int .i64 x.d0, .int .i64 x.d1, .int .i64 x.d2, .int .i64 x.d3, .int .i64 x.d4, .int .i64 x.d5, .int .i64 x.a, .int .i64 x.b] 24)
  have hx3 := hF3.at_ hx2 (fun x => x)
  have hA3 := hA2.trans hF3
  have c0 := (cell_blk hx3 0).trans rfl
  have c1 := (cell_blk hx3 1).trans rfl
  have c2 := (cell_blk hx3 2).trans rfl
  have c3 := (cell_blk hx3 3).trans rfl
  have c4 := (cell_blk hx3 4).trans rfl
  have c5 := (cell_blk hx3 5).trans rfl
  have c6 := (cell_blk hx3 6).trans rfl
  have c7 := (cell_blk hx3 7).trans rfl
  have c8 := (cell_blk hx3 8).trans rfl
  have c9 := (cell_blk hx3 9).trans rfl
  have c10 := (cell_blk hx3 10).trans rfl
  clear hF3 hx2 hA2
  go_wp2_with fail
  refine (H3.out _).mono ?_
  rintro e w4 ⟨rfl, hf4⟩
  have hx4 := hf4.at_ hx3 (fun x => x)
  have hA4 := hA3.trans hf4
  clear c0 c1 c2 c3 c4 c5 c6 c7 c8 c9 c10 hf4 hx3 hA3 hD3
  generalize w2.heap.size = D at *
  go_wp2_with fail
  go_loopw [13] (fun t wr => ∃ i : Nat, i ≤ 4 ∧ t = .int .i64 i ∧ wr.heap[A]? = some (.cells #[.int .i64 x.k, .int .i64 x.l, .int .i64 x.s, .int .i64 x.d0, .int .i64 x.d1, .int .i64 x.d2, .int .i64 x.d3, .int .i64 x.d4, .int .i64 x.d5, .int .i64 x.a, .int .i64 x.b] 24 (0, 0)) ∧ Fr w wr (fun _ => False)) (fun t _ => 4 - (intOf t).toNat)
  case atStart => exact ⟨0, by omega, rfl, hx4, hA4⟩
  case round =>
    clear hx4 hA4
    obtain ⟨i, hi, rfl, hx, hF⟩ := hrel
    by_cases hlt : i < 4
    · obtain ⟨z, ee, g1, g2⟩ := G1.out i hlt
      have C1 := hid g2
      have C2 := hid g1
      clear g1 g2
      have hqz := eq11_yes z.k z.l z.s z.d0 z.d1 z.d2 z.d3 z.d4 z.d5 z.a z.b
      by_cases e : i = k
      · subst e
        rw [show (∀ w : World, Calls Try.prog 25 #[.string c, .int .i64 i] w fun r w' => r = .returned (if i = i then .tuple #[.agg #[.int .i64 x.k, .int .i64 x.l, .int .i64 x.s, .int .i64 x.d0, .int .i64 x.d1, .int .i64 x.d2, .int .i64 x.d3, .int .i64 x.d4, .int .i64 x.d5, .int .i64 x.a, .int .i64 x.b], .int .i64 0] else .tuple #[.agg #[.int .i64 z.k, .int .i64 z.l, .int .i64 z.s, .int .i64 z.d0, .int .i64 z.d1, .int .i64 z.d2, .int .i64 z.d3, .int .i64 z.d4, .int .i64 z.d5, .int .i64 z.a, .int .i64 z.b], .int .i64 ee]) ∧ Fr w w' (fun _ => False)) = (∀ w : World, Calls Try.prog 25 #[.string c, .int .i64 i] w fun r w' => r = .returned (.tuple #[.agg #[.int .i64 x.k, .int .i64 x.l, .int .i64 x.s, .int .i64 x.d0, .int .i64 x.d1, .int .i64 x.d2, .int .i64 x.d3, .int .i64 x.d4, .int .i64 x.d5, .int .i64 x.a, .int .i64 x.b], .int .i64 0]) ∧ Fr w w' (fun _ => False)) by simp only [if_true]] at C1
        go_wp2_with fail
        refine (C1.out _).mono ?_
        rintro e w5 ⟨rfl, hf5⟩
        have hx5 := hf5.at_ hx (fun x => x)
        have hA5 := hF.trans hf5
        have hD6 := alloc_new w5 (.cells #[.int .i64 x.k, .int .i64 x.l, .int .i64 x.s, .int .i64 x.d0, .int .i64 x.d1, .int .i64 x.d2, .int .i64 x.d3, .int .i64 x.d4, .int .i64 x.d5, .int .i64 x.a, .int .i64 x.b] 24)
        have hF6 := (Fr.refl w5 (fun _ => False)).alloc (.cells #[.int .i64 x.k, .int .i64 x.l, .int .i64 x.s, .int .i64 x.d0, .int .i64 x.d1, .int .i64 x.d2, .int .i64 x.d3, .int .i64 x.d4, .int .i64 x.d5, .int .i64 x.a, .int .i64 x.b] 24)
        have hx6 := hF6.at_ hx5 (fun x => x)
        have hA6 := hA5.trans hF6
        clear hf5 hx5 hA5 hF6 hx hF
        go_wp2_with fail
        generalize w5.heap.size = E at *
        generalize w5.alloc (.cells #[.int .i64 x.k, .int .i64 x.l, .int .i64 x.s, .int .i64 x.d0, .int .i64 x.d1, .int .i64 x.d2, .int .i64 x.d3, .int .i64 x.d4, .int .i64 x.d5, .int .i64 x.a, .int .i64 x.b] 24) = w6 at *
        refine (C2.out _).mono ?_
        rintro e w7 ⟨rfl, hf7⟩
        have hx7 := hf7.at_ hx6 (fun x => x)
        have hD7 := hf7.at_ hD6 (fun x => x)
        have hA7 := hA6.trans hf7
        have hF8 := (Fr.refl w7 (fun _ => False)).alloc (.cells #[.int .i64 z.k, .int .i64 z.l, .int .i64 z.s, .int .i64 z.d0, .int .i64 z.d1, .int .i64 z.d2, .int .i64 z.d3, .int .i64 z.d4, .int .i64 z.d5, .int .i64 z.a, .int .i64 z.b] 24)
        have hx8 := hF8.at_ hx7 (fun x => x)
        have hD8 := hF8.at_ hD7 (fun x => x)
        have hA8 := hA7.trans hF8
        clear hf7 hx6 hD6 hA6 hF8 hx7 hD7 hA7
        have c0 := (cell_blk hx8 0).trans rfl
        have c1 := (cell_blk hx8 1).trans rfl
        have c2 := (cell_blk hx8 2).trans rfl
        have c3 := (cell_blk hx8 3).trans rfl
        have c4 := (cell_blk hx8 4).trans rfl
        have c5 := (cell_blk hx8 5).trans rfl
        have c6 := (cell_blk hx8 6).trans rfl
        have c7 := (cell_blk hx8 7).trans rfl
        have c8 := (cell_blk hx8 8).trans rfl
        have c9 := (cell_blk hx8 9).trans rfl
        have c10 := (cell_blk hx8 10).trans rfl
        have d0 := (cell_blk hD8 0).trans rfl
        have d1 := (cell_blk hD8 1).trans rfl
        have d2 := (cell_blk hD8 2).trans rfl
        have d3 := (cell_blk hD8 3).trans rfl
        have d4 := (cell_blk hD8 4).trans rfl
        have d5 := (cell_blk hD8 5).trans rfl
        have d6 := (cell_blk hD8 6).trans rfl
        have d7 := (cell_blk hD8 7).trans rfl
        have d8 := (cell_blk hD8 8).trans rfl
        have d9 := (cell_blk hD8 9).trans rfl
        have d10 := (cell_blk hD8 10).trans rfl
        go_wp2_with fail
        go_roundw
        case rel => exact ⟨i + 1, by omega, by go_num, hx8, hA8⟩
        case measure => simp [intOf]; omega
      · rw [show (∀ w : World, Calls Try.prog 25 #[.string c, .int .i64 i] w fun r w' => r = .returned (if i = k then .tuple #[.agg #[.int .i64 x.k, .int .i64 x.l, .int .i64 x.s, .int .i64 x.d0, .int .i64 x.d1, .int .i64 x.d2, .int .i64 x.d3, .int .i64 x.d4, .int .i64 x.d5, .int .i64 x.a, .int .i64 x.b], .int .i64 0] else .tuple #[.agg #[.int .i64 z.k, .int .i64 z.l, .int .i64 z.s, .int .i64 z.d0, .int .i64 z.d1, .int .i64 z.d2, .int .i64 z.d3, .int .i64 z.d4, .int .i64 z.d5, .int .i64 z.a, .int .i64 z.b], .int .i64 ee]) ∧ Fr w w' (fun _ => False)) = (∀ w : World, Calls Try.prog 25 #[.string c, .int .i64 i] w fun r w' => r = .returned (.tuple #[.agg #[.int .i64 z.k, .int .i64 z.l, .int .i64 z.s, .int .i64 z.d0, .int .i64 z.d1, .int .i64 z.d2, .int .i64 z.d3, .int .i64 z.d4, .int .i64 z.d5, .int .i64 z.a, .int .i64 z.b], .int .i64 ee]) ∧ Fr w w' (fun _ => False)) by simp only [if_neg e]] at C1
        have e1 : ((i : Int) == (k : Int)) = false := by rw [beq_eq_false_iff_ne]; omega
        have e2 : ((i : Int) != (k : Int)) = true := by rw [bne_iff_ne]; omega
        clear e
        go_wp2_with fail
        refine (C1.out _).mono ?_
        rintro e w5 ⟨rfl, hf5⟩
        have hx5 := hf5.at_ hx (fun x => x)
        have hA5 := hF.trans hf5
        have hD6 := alloc_new w5 (.cells #[.int .i64 z.k, .int .i64 z.l, .int .i64 z.s, .int .i64 z.d0, .int .i64 z.d1, .int .i64 z.d2, .int .i64 z.d3, .int .i64 z.d4, .int .i64 z.d5, .int .i64 z.a, .int .i64 z.b] 24)
        have hF6 := (Fr.refl w5 (fun _ => False)).alloc (.cells #[.int .i64 z.k, .int .i64 z.l, .int .i64 z.s, .int .i64 z.d0, .int .i64 z.d1, .int .i64 z.d2, .int .i64 z.d3, .int .i64 z.d4, .int .i64 z.d5, .int .i64 z.a, .int .i64 z.b] 24)
        have hx6 := hF6.at_ hx5 (fun x => x)
        have hA6 := hA5.trans hF6
        clear hf5 hx5 hA5 hF6 hx hF
        go_wp2_with fail
        generalize w5.heap.size = E at *
        generalize w5.alloc (.cells #[.int .i64 z.k, .int .i64 z.l, .int .i64 z.s, .int .i64 z.d0, .int .i64 z.d1, .int .i64 z.d2, .int .i64 z.d3, .int .i64 z.d4, .int .i64 z.d5, .int .i64 z.a, .int .i64 z.b] 24) = w6 at *
        refine (C2.out _).mono ?_
        rintro e w7 ⟨rfl, hf7⟩
        have hx7 := hf7.at_ hx6 (fun x => x)
        have hD7 := hf7.at_ hD6 (fun x => x)
        have hA7 := hA6.trans hf7
        have hF8 := (Fr.refl w7 (fun _ => False)).alloc (.cells #[.int .i64 z.k, .int .i64 z.l, .int .i64 z.s, .int .i64 z.d0, .int .i64 z.d1, .int .i64 z.d2, .int .i64 z.d3, .int .i64 z.d4, .int .i64 z.d5, .int .i64 z.a, .int .i64 z.b] 24)
        have hx8 := hF8.at_ hx7 (fun x => x)
        have hD8 := hF8.at_ hD7 (fun x => x)
        have hA8 := hA7.trans hF8
        clear hf7 hx6 hD6 hA6 hF8 hx7 hD7 hA7
        have d0 := (cell_blk hD8 0).trans rfl
        have d1 := (cell_blk hD8 1).trans rfl
        have d2 := (cell_blk hD8 2).trans rfl
        have d3 := (cell_blk hD8 3).trans rfl
        have d4 := (cell_blk hD8 4).trans rfl
        have d5 := (cell_blk hD8 5).trans rfl
        have d6 := (cell_blk hD8 6).trans rfl
        have d7 := (cell_blk hD8 7).trans rfl
        have d8 := (cell_blk hD8 8).trans rfl
        have d9 := (cell_blk hD8 9).trans rfl
        have d10 := (cell_blk hD8 10).trans rfl
        go_wp2_with fail
        go_roundw
        case rel => exact ⟨i + 1, by omega, by go_num, hx8, hA8⟩
        case measure => simp [intOf]; omega
    · obtain rfl : i = 4 := by omega
      clear hlt hi
      go_wp2_with (go_at_call 16; refine (speaks12_calls _).mono ?_; rintro e6 w6 ⟨rfl, hf6⟩)
      go_ret
      exact ⟨rfl, hF.trans hf6⟩

theorem back12_calls (w : World) (b : ByteArray) (k : Int) (x : Nd) (hb : b.size ≤ 140737488351232) :
    Calls Try.prog 9 #[.string b, .int .i64 k, x.V] w fun e w' => e = .returned (.bool true) ∧ Fr w w' (fun _ => False) := by
  have hs : b.size ≤ maxLen := by unfold maxLen; omega
  by_cases hR : x.R
  · by_cases h : askE b k 4 = 0
    · obtain ⟨h1, h2, h3⟩ := ask_zero h
      obtain ⟨m, rfl⟩ := Int.eq_ofNat_of_zero_le h2
      exact back12_yes w b m x hR h1 (by omega)
    · exact back12_ask w b k _ x hR h (fun w => put_ask w b k x hs h)
  · exact back12_enc w b k x hR
/-- The same, with the number's bounds. -/
theorem back12_row (w : World) (b : ByteArray) (k : Int) (x : Nd) (hb : b.size ≤ 140737488351232) (_ : -9223372036854775808 ≤ k) (_ : k < 9223372036854775808) :
    Calls Try.prog 9 #[.string b, .int .i64 k, x.V] w fun e w' => e = .returned (.bool true) ∧ Fr w w' (fun _ => False) := back12_calls w b k x hb
end Go.Proofs.Ytmbfcnacoijmaaa.Cw
