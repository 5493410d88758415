/- InodeNames and InodeTables by walks over contracts. Own work. -/
import Derived.Test.YtmbfcnacoijmaaaIoV
namespace Go.Proofs.Ytmbfcnacoijmaaa.Cw
open Go.RowKit
set_option linter.unusedVariables false
set_option linter.unusedSimpArgs false

theorem plV_split (x : Int) : ∃ a b c e : Int, plV x = .tuple #[.int .i64 a, .int .i64 b, .int .i64 c, .int .i64 e] := by
  by_cases h : Ix x
  · exact ⟨_, _, _, _, if_pos h⟩
  · exact ⟨_, _, _, _, plV_no h⟩
theorem ask_zero {b : ByteArray} {k many : Int} (h : askE b k many = 0) : b.size = 128 ∧ 0 ≤ k ∧ k < many := by
  unfold askE at h
  split at h
  · split at h
    · refine ⟨by assumption, by omega, by omega⟩
    · omega
  · omega
/-- What Name tells, either one. -/
theorem name_any (b : ByteArray) (k : Int) (hs : b.size ≤ maxLen) : ∃ N X : Int,
    (∀ w, Calls Try.prog 21 #[.string b, .int .i64 k] w fun e w' => e = .returned (.tuple #[.int .i64 N, .int .i64 X]) ∧ Fr w w' (fun _ => False)) ∧
    (∀ w, Calls Try.prog 22 #[.string b, .int .i64 k] w fun e w' => e = .returned (.tuple #[.int .i64 N, .int .i64 X]) ∧ Fr w w' (fun _ => False)) := by
  by_cases h : askE b k 64 = 0
  · obtain ⟨h1, h2, h3⟩ := ask_zero h
    obtain ⟨m, rfl⟩ := Int.eq_ofNat_of_zero_le h2
    exact ⟨_, _, fun w => name_yes w b m h1 (by omega), fun w => refName_yes w b m h1 (by omega)⟩
  · exact ⟨_, _, fun w => name_no w b k hs h, fun w => refName_no w b k hs h⟩
theorem rename_any (b : ByteArray) (k tn : Int) (hs : b.size ≤ maxLen) : ∃ (S : ByteArray) (X : Int),
    (∀ w, Calls Try.prog 23 #[.string b, .int .i64 k, .int .i64 tn] w fun e w' => e = .returned (.tuple #[.string S, .int .i64 X]) ∧ Fr w w' (fun _ => False)) ∧
    (∀ w, Calls Try.prog 24 #[.string b, .int .i64 k, .int .i64 tn] w fun e w' => e = .returned (.tuple #[.string S, .int .i64 X]) ∧ Fr w w' (fun _ => False)) := by
  by_cases h : askE b k 64 = 0
  · by_cases ht : Bk tn
    · obtain ⟨h1, h2, h3⟩ := ask_zero h
      obtain ⟨m, rfl⟩ := Int.eq_ofNat_of_zero_le h2
      have ht2 := ht
      unfold Bk at ht2
      obtain ⟨t, rfl⟩ := Int.eq_ofNat_of_zero_le ht2.1
      exact ⟨_, _, fun w => rename_yes w b m t h1 (by omega) (by omega), fun w => refRename_yes w b m t h1 (by omega) (by omega)⟩
    · exact ⟨_, _, fun w => rename_arg w b k tn hs h ht, fun w => refRename_arg w b k tn hs h ht⟩
  · exact ⟨_, _, fun w => rename_ask w b k tn hs h, fun w => refRename_ask w b k tn hs h⟩

set_option maxRecDepth 100000 in
set_option maxHeartbeats 3200000 in
theorem names_calls (w : World) (k tn : Int) (b : ByteArray) (k1 : -9223372036854775808 ≤ k) (k2 : k < 9223372036854775808) (t1 : -9223372036854775808 ≤ tn) (t2 : tn < 9223372036854775808) (hb : b.size ≤ 140737488351232) :
    Calls Try.prog 6 #[.int .i64 k, .int .i64 tn, .string b] w fun e w' => e = .returned (.bool true) ∧ Fr w w' (fun _ => False) := by
  have hs : b.size ≤ maxLen := by unfold maxLen; omega
  obtain ⟨N, X, n1, n2⟩ := name_any b k hs
  obtain ⟨S, Y, r1, r2⟩ := rename_any b k tn hs
  obtain ⟨p, q, r, e0, hp⟩ := plV_split k
  have P1 := hid (fun w => place_calls w k k1 k2)
  have P2 := hid (fun w => refPlace_calls w k k1 k2)
  rw [hp] at P1 P2
  have N1 := hid n1
  have N2 := hid n2
  have R1 := hid r1
  have R2 := hid r2
  clear n1 n2 r1 r2 hp k1 k2 t1 t2 hb hs
  go_enter Try.func6, Try.ntmps6
  go_wp2_with fail
  refine (P1.out _).mono ?_
  rintro e w1 ⟨rfl, rfl⟩
  go_wp2_with fail
  refine (P2.out _).mono ?_
  rintro e w1 ⟨rfl, rfl⟩
  go_wp2_with fail
  refine (N1.out _).mono ?_
  rintro e w1 ⟨rfl, hf1⟩
  go_wp2_with fail
  refine (N2.out _).mono ?_
  rintro e w2 ⟨rfl, hf2⟩
  have hA2 := hf1.trans hf2
  clear hf1 hf2
  go_wp2_with fail
  refine (R1.out _).mono ?_
  rintro e w3 ⟨rfl, hf3⟩
  have hA3 := hA2.trans hf3
  clear hA2 hf3
  go_wp2_with fail
  refine (R2.out _).mono ?_
  rintro e w4 ⟨rfl, hf4⟩
  have hA4 := hA3.trans hf4
  clear hA3 hf4
  go_wp2_with (go_at_call 16; refine (speaks12_calls _).mono ?_; rintro e6 w6 ⟨rfl, hf6⟩)
  go_ret
  exact ⟨rfl, hA4.trans hf6⟩

theorem get_any (b : ByteArray) (k : Int) (hs : b.size ≤ maxLen) : ∃ (z : Nd) (X : Int),
    (∀ w, Calls Try.prog 25 #[.string b, .int .i64 k] w fun e w' => e = .returned (.tuple #[z.V, .int .i64 X]) ∧ Fr w w' (fun _ => False)) ∧
    (∀ w, Calls Try.prog 26 #[.string b, .int .i64 k] w fun e w' => e = .returned (.tuple #[z.V, .int .i64 X]) ∧ Fr w w' (fun _ => False)) := by
  by_cases h : askE b k 4 = 0
  · obtain ⟨h1, h2, h3⟩ := ask_zero h
    obtain ⟨m, rfl⟩ := Int.eq_ofNat_of_zero_le h2
    obtain ⟨z, e, hz⟩ := dV_split (Nd.ofF (rvl (cut32 b m))) (cut32 b m)
    refine ⟨z, e, fun w => ?_, fun w => ?_⟩
    · rw [← hz]; exact get_yes w b m h1 (by omega)
    · rw [← hz]; exact refGet_yes w b m h1 (by omega)
  · exact ⟨_, _, fun w => get_no w b k hs h, fun w => refGet_no w b k hs h⟩
theorem put_any (b : ByteArray) (k : Int) (x : Nd) (hs : b.size ≤ maxLen) : ∃ (S : ByteArray) (X : Int),
    (∀ w, Calls Try.prog 27 #[.string b, .int .i64 k, x.V] w fun e w' => e = .returned (.tuple #[.string S, .int .i64 X]) ∧ Fr w w' (fun _ => False)) ∧
    (∀ w, Calls Try.prog 28 #[.string b, .int .i64 k, x.V] w fun e w' => e = .returned (.tuple #[.string S, .int .i64 X]) ∧ Fr w w' (fun _ => False)) := by
  by_cases h : askE b k 4 = 0
  · by_cases hR : x.R
    · obtain ⟨h1, h2, h3⟩ := ask_zero h
      obtain ⟨m, rfl⟩ := Int.eq_ofNat_of_zero_le h2
      exact ⟨_, _, fun w => put_yes w b m x h1 (by omega) hR, fun w => refPut_yes w b m x h1 (by omega) hR⟩
    · exact ⟨_, _, fun w => put_enc w b k x hs h hR, fun w => refPut_enc w b k x hs h hR⟩
  · exact ⟨_, _, fun w => put_ask w b k x hs h, fun w => refPut_ask w b k x hs h⟩

attribute [local go_sem ↓ high] eqNd
set_option maxRecDepth 100000 in
set_option maxHeartbeats 6400000 in
theorem tables_calls (w : World) (b : ByteArray) (k : Int) (x : Nd) (hb : b.size ≤ 140737488351232) :
    Calls Try.prog 8 #[.string b, .int .i64 k, x.V] w fun e w' => e = .returned (.bool true) ∧ Fr w w' (fun _ => False) := by
  have hs : b.size ≤ maxLen := by unfold maxLen; omega
  obtain ⟨z, X, g1, g2⟩ := get_any b k hs
  obtain ⟨S, Y, p1, p2⟩ := put_any b k x hs
  have G1 := hid g1
  have G2 := hid g2
  have P1 := hid p1
  have P2 := hid p2
  have hq := eq11_yes z.k z.l z.s z.d0 z.d1 z.d2 z.d3 z.d4 z.d5 z.a z.b
  clear g1 g2 p1 p2 hb hs
  unfold Nd.V at *
  go_enter Try.func8, Try.ntmps8
  go_wp2_with fail
  have hx0 := alloc_new w (.cells #[.int .i64 x.k, .int .i64 x.l, .int .i64 x.s, .int .i64 x.d0, .int .i64 x.d1, .int .i64 x.d2, .int .i64 x.d3, .int .i64 x.d4, .int .i64 x.d5, .int .i64 x.a, .int .i64 x.b] 24)
  have hA0 := (Fr.refl w (fun _ => False)).alloc (.cells #[.int .i64 x.k, .int .i64 x.l, .int .i64 x.s, .int .i64 x.d0, .int .i64 x.d1, .int .i64 x.d2, .int .i64 x.d3, .int .i64 x.d4, .int .i64 x.d5, .int .i64 x.a, .int .i64 x.b] 24)
  generalize w.heap.size = A at *
  generalize w.alloc (.cells #[.int .i64 x.k, .int .i64 x.l, .int .i64 x.s, .int .i64 x.d0, .int .i64 x.d1, .int .i64 x.d2, .int .i64 x.d3, .int .i64 x.d4, .int .i64 x.d5, .int .i64 x.a, .int .i64 x.b] 24) = w0 at *
  refine (G1.out _).mono ?_
  rintro e w1 ⟨rfl, hf1⟩
  have hx1 := hf1.at_ hx0 (fun x => x)
  have hA1 := hA0.trans hf1
  clear hf1 hx0 hA0
  go_wp2_with fail
  have hx2 := ((Fr.refl w1 (fun _ => False)).alloc (.cells #[.int .i64 z.k, .int .i64 z.l, .int .i64 z.s, .int .i64 z.d0, .int .i64 z.d1, .int .i64 z.d2, .int .i64 z.d3, .int .i64 z.d4, .int .i64 z.d5, .int .i64 z.a, .int .i64 z.b] 24)).at_ hx1 (fun x => x)
  have hA2 := hA1.alloc (.cells #[.int .i64 z.k, .int .i64 z.l, .int .i64 z.s, .int .i64 z.d0, .int .i64 z.d1, .int .i64 z.d2, .int .i64 z.d3, .int .i64 z.d4, .int .i64 z.d5, .int .i64 z.a, .int .i64 z.b] 24)
  have hD2 := alloc_new w1 (.cells #[.int .i64 z.k, .int .i64 z.l, .int .i64 z.s, .int .i64 z.d0, .int .i64 z.d1, .int .i64 z.d2, .int .i64 z.d3, .int .i64 z.d4, .int .i64 z.d5, .int .i64 z.a, .int .i64 z.b] 24)
  clear hx1 hA1
  generalize w1.heap.size = D at *
  generalize w1.alloc (.cells #[.int .i64 z.k, .int .i64 z.l, .int .i64 z.s, .int .i64 z.d0, .int .i64 z.d1, .int .i64 z.d2, .int .i64 z.d3, .int .i64 z.d4, .int .i64 z.d5, .int .i64 z.a, .int .i64 z.b] 24) = w2 at *
  refine (G2.out _).mono ?_
  rintro e w3 ⟨rfl, hf3⟩
  have hx3 := hf3.at_ hx2 (fun x => x)
  have hD3 := hf3.at_ hD2 (fun x => x)
  have hA3 := hA2.trans hf3
  clear hf3 hx2 hA2 hD2
  have hF4 := (Fr.refl w3 (fun _ => False)).alloc (.cells #[.int .i64 z.k, .int .i64 z.l, .int .i64 z.s, .int .i64 z.d0, .int .i64 z.d1, .int .i64 z.d2, .int .i64 z.d3, .int .i64 z.d4, .int .i64 z.d5, .int .i64 z.a, .int .i64 z.b] 24)
  have hx4 := hF4.at_ hx3 (fun x => x)
  have hD4 := hF4.at_ hD3 (fun x => x)
  have hE4 := alloc_new w3 (.cells #[.int .i64 z.k, .int .i64 z.l, .int .i64 z.s, .int .i64 z.d0, .int .i64 z.d1, .int .i64 z.d2, .int .i64 z.d3, .int .i64 z.d4, .int .i64 z.d5, .int .i64 z.a, .int .i64 z.b] 24)
  have hA4 := hA3.alloc (.cells #[.int .i64 z.k, .int .i64 z.l, .int .i64 z.s, .int .i64 z.d0, .int .i64 z.d1, .int .i64 z.d2, .int .i64 z.d3, .int .i64 z.d4, .int .i64 z.d5, .int .i64 z.a, .int .i64 z.b] 24)
  clear hF4 hx3 hD3 hA3
  have c0 := (cell_blk hx4 0).trans rfl
  have c1 := (cell_blk hx4 1).trans rfl
  have c2 := (cell_blk hx4 2).trans rfl
  have c3 := (cell_blk hx4 3).trans rfl
  have c4 := (cell_blk hx4 4).trans rfl
  have c5 := (cell_blk hx4 5).trans rfl
  have c6 := (cell_blk hx4 6).trans rfl
  have c7 := (cell_blk hx4 7).trans rfl
  have c8 := (cell_blk hx4 8).trans rfl
  have c9 := (cell_blk hx4 9).trans rfl
  have c10 := (cell_blk hx4 10).trans rfl
  go_wp2_with fail
  refine (P1.out _).mono ?_
  rintro e w5 ⟨rfl, hf5⟩
  have hx5 := hf5.at_ hx4 (fun x => x)
  have hD5 := hf5.at_ hD4 (fun x => x)
  have hE5 := hf5.at_ hE4 (fun x => x)
  have hA5 := hA4.trans hf5
  clear c0 c1 c2 c3 c4 c5 c6 c7 c8 c9 c10 hf5 hx4 hD4 hE4 hA4
  have c0 := (cell_blk hx5 0).trans rfl
  have c1 := (cell_blk hx5 1).trans rfl
  have c2 := (cell_blk hx5 2).trans rfl
  have c3 := (cell_blk hx5 3).trans rfl
  have c4 := (cell_blk hx5 4).trans rfl
  have c5 := (cell_blk hx5 5).trans rfl
  have c6 := (cell_blk hx5 6).trans rfl
  have c7 := (cell_blk hx5 7).trans rfl
  have c8 := (cell_blk hx5 8).trans rfl
  have c9 := (cell_blk hx5 9).trans rfl
  have c10 := (cell_blk hx5 10).trans rfl
  go_wp2_with fail
  refine (P2.out _).mono ?_
  rintro e w6 ⟨rfl, hf6⟩
  have hD6 := hf6.at_ hD5 (fun x => x)
  have hE6 := hf6.at_ hE5 (fun x => x)
  have hA6 := hA5.trans hf6
  clear c0 c1 c2 c3 c4 c5 c6 c7 c8 c9 c10 hf6 hx5 hD5 hE5 hA5
  have c0 := (cell_blk hD6 0).trans rfl
  have c1 := (cell_blk hD6 1).trans rfl
  have c2 := (cell_blk hD6 2).trans rfl
  have c3 := (cell_blk hD6 3).trans rfl
  have c4 := (cell_blk hD6 4).trans rfl
  have c5 := (cell_blk hD6 5).trans rfl
  have c6 := (cell_blk hD6 6).trans rfl
  have c7 := (cell_blk hD6 7).trans rfl
  have c8 := (cell_blk hD6 8).trans rfl
  have c9 := (cell_blk hD6 9).trans rfl
  have c10 := (cell_blk hD6 10).trans rfl
  have d0 := (cell_blk hE6 0).trans rfl
  have d1 := (cell_blk hE6 1).trans rfl
  have d2 := (cell_blk hE6 2).trans rfl
  have d3 := (cell_blk hE6 3).trans rfl
  have d4 := (cell_blk hE6 4).trans rfl
  have d5 := (cell_blk hE6 5).trans rfl
  have d6 := (cell_blk hE6 6).trans rfl
  have d7 := (cell_blk hE6 7).trans rfl
  have d8 := (cell_blk hE6 8).trans rfl
  have d9 := (cell_blk hE6 9).trans rfl
  have d10 := (cell_blk hE6 10).trans rfl
  go_wp2_with (go_at_call 16; refine (speaks12_calls _).mono ?_; rintro e6 w7 ⟨rfl, hf7⟩)
  go_ret
  exact ⟨rfl, hA6.trans hf7⟩
/-- The same, with the number's bounds. -/
theorem tables_row (w : World) (b : ByteArray) (k : Int) (x : Nd) (hb : b.size ≤ 140737488351232) (_ : -9223372036854775808 ≤ k) (_ : k < 9223372036854775808) :
    Calls Try.prog 8 #[.string b, .int .i64 k, x.V] w fun e w' => e = .returned (.bool true) ∧ Fr w w' (fun _ => False) := tables_calls w b k x hb
end Go.Proofs.Ytmbfcnacoijmaaa.Cw
