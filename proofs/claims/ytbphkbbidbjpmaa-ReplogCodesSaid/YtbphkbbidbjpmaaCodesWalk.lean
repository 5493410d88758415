/- ReplogCodes by a walk over contracts. Own work. -/
import Derived.Test.YtbphkbbidbjpmaaRpI
namespace Go.Proofs.Ytbphkbbidbjpmaa.Cw
open Go.RowKit
set_option linter.unusedVariables false
set_option linter.unusedSimpArgs false

set_option maxRecDepth 100000 in
set_option maxHeartbeats 6400000 in
theorem codes_gen (w : World) (a b c k t n : Int) (p q r s : ByteArray) (EB : ByteArray) (EE : Int) (xa xb xc xk xt xn : Int) (xp xq xr : ByteArray) (N X : Int)
    (h1 : ∀ w, Calls Try.prog 9 #[enV a b c k t n p q r] w fun e w' => e = .returned (.tuple #[.string EB, .int .i64 EE]) ∧ Fr w w' (fun _ => False))
    (h2 : ∀ w, Calls Try.prog 10 #[enV a b c k t n p q r] w fun e w' => e = .returned (.tuple #[.string EB, .int .i64 EE]) ∧ Fr w w' (fun _ => False))
    (h3 : ∀ w, Calls Try.prog 11 #[.string s] w fun e w' => e = .returned (.tuple #[enV xa xb xc xk xt xn xp xq xr, .int .i64 N, .int .i64 X]) ∧ Fr w w' (fun _ => False))
    (h4 : ∀ w, Calls Try.prog 12 #[.string s] w fun e w' => e = .returned (.tuple #[enV xa xb xc xk xt xn xp xq xr, .int .i64 N, .int .i64 X]) ∧ Fr w w' (fun _ => False)) :
    Calls Try.prog 3 #[enV a b c k t n p q r, .string s] w fun e w' => e = .returned (.bool true) ∧ Fr w w' (fun _ => False) := by
  have H1 := hid h1
  have H2 := hid h2
  have H3 := hid h3
  have H4 := hid h4
  clear h1 h2 h3 h4
  unfold enV at *
  go_enter Try.func3, Try.ntmps3
  go_wp2_with fail
  refine (H1.out _).mono ?_
  rintro e w1 ⟨rfl, hf1⟩
  have hx1 := hf1.at_ (alloc_new w _) (fun x => x)
  have hA1 := ((Fr.refl w (fun _ => False)).alloc _).trans hf1
  have c0 := cell_blk hx1 0
  have c1 := cell_blk hx1 1
  have c2 := cell_blk hx1 2
  have c3 := cell_blk hx1 3
  have c4 := cell_blk hx1 4
  have c5 := cell_blk hx1 5
  have c6 := cell_blk hx1 6
  have c7 := cell_blk hx1 7
  have c8 := cell_blk hx1 8
  simp only [List.getElem?_toArray, List.getElem?_cons_zero, List.getElem?_cons_succ] at c0 c1 c2 c3 c4 c5 c6 c7 c8
  go_wp2_with fail
  refine (H2.out _).mono ?_
  rintro e w2 ⟨rfl, hf2⟩
  have hA2 := hA1.trans hf2
  clear c0 c1 c2 c3 c4 c5 c6 c7 c8 hf1 hf2 hx1 hA1
  go_wp2_with fail
  refine (H3.out _).mono ?_
  rintro e w3 ⟨rfl, hf3⟩
  have hA3 := hA2.trans hf3
  clear hA2 hf3
  go_wp2_with fail
  have hD := alloc_new w3 (.cells #[.int .i64 xa, .int .i64 xb, .int .i64 xc, .int .i64 xk, .int .i64 xt, .int .i64 xn, .string xp, .string xq, .string xr] 25)
  have hA4 := hA3.alloc (.cells #[.int .i64 xa, .int .i64 xb, .int .i64 xc, .int .i64 xk, .int .i64 xt, .int .i64 xn, .string xp, .string xq, .string xr] 25)
  refine (H4.out _).mono ?_
  rintro e w5 ⟨rfl, hf5⟩
  have hA5 := hA4.trans hf5
  have hE := alloc_new w5 (.cells #[.int .i64 xa, .int .i64 xb, .int .i64 xc, .int .i64 xk, .int .i64 xt, .int .i64 xn, .string xp, .string xq, .string xr] 25)
  have hD5 := ((Fr.refl w5 (fun _ => False)).alloc (.cells #[.int .i64 xa, .int .i64 xb, .int .i64 xc, .int .i64 xk, .int .i64 xt, .int .i64 xn, .string xp, .string xq, .string xr] 25)).at_ (hf5.at_ hD (fun x => x)) (fun x => x)
  have d0 := cell_blk hD5 0
  have d1 := cell_blk hD5 1
  have d2 := cell_blk hD5 2
  have d3 := cell_blk hD5 3
  have d4 := cell_blk hD5 4
  have d5 := cell_blk hD5 5
  have d6 := cell_blk hD5 6
  have d7 := cell_blk hD5 7
  have d8 := cell_blk hD5 8
  simp only [List.getElem?_toArray, List.getElem?_cons_zero, List.getElem?_cons_succ] at d0 d1 d2 d3 d4 d5 d6 d7 d8
  have g0 := cell_blk hE 0
  have g1 := cell_blk hE 1
  have g2 := cell_blk hE 2
  have g3 := cell_blk hE 3
  have g4 := cell_blk hE 4
  have g5 := cell_blk hE 5
  have g6 := cell_blk hE 6
  have g7 := cell_blk hE 7
  have g8 := cell_blk hE 8
  simp only [List.getElem?_toArray, List.getElem?_cons_zero, List.getElem?_cons_succ] at g0 g1 g2 g3 g4 g5 g6 g7 g8
  clear hA4 hA3 hf5 hD
  go_wp2_with (go_at_call 13; refine (speaks20_calls _).mono ?_; rintro e6 w6 ⟨rfl, hf6⟩)
  go_ret
  exact ⟨rfl, (hA5.alloc _).trans hf6⟩

theorem codes_calls (w : World) (x : En) (s : ByteArray) (hk : i64 x.k) (ht : i64 x.t) (hn : i64 x.n) (hs : s.size ≤ 140737488351232) :
    Calls Try.prog 3 #[x.V, .string s] w fun e w' => e = .returned (.bool true) ∧ Fr w w' (fun _ => False) := by
  obtain ⟨a, b, c, k, t, n, p, q, r⟩ := x
  simp only at hk ht hn
  have hs2 : s.size ≤ maxLen := by unfold maxLen; omega
  obtain ⟨⟨a1, y1, t1, e1⟩, E1⟩ : ∃ u, rdN 9 127 s 0 = u := ⟨_, rfl⟩
  obtain ⟨⟨b1, y2, t2, e2⟩, E2⟩ : ∃ u, rdN 9 127 t1 e1 = u := ⟨_, rfl⟩
  obtain ⟨⟨c1, y3, t3, e3⟩, E3⟩ : ∃ u, rdN 9 127 t2 e2 = u := ⟨_, rfl⟩
  obtain ⟨⟨k1, y4, t4, e4⟩, E4⟩ : ∃ u, rdN 10 1 t3 e3 = u := ⟨_, rfl⟩
  obtain ⟨⟨d1, y5, t5, e5⟩, E5⟩ : ∃ u, rdN 10 1 t4 e4 = u := ⟨_, rfl⟩
  obtain ⟨⟨n1, y6, t6, e6⟩, E6⟩ : ∃ u, rdN 10 1 t5 e5 = u := ⟨_, rfl⟩
  obtain ⟨⟨p1, y7, t7, e7⟩, E7⟩ : ∃ u, rdT 4096 t6 e6 = u := ⟨_, rfl⟩
  obtain ⟨⟨q1, y8, t8, e8⟩, E8⟩ : ∃ u, rdT 4096 t7 e7 = u := ⟨_, rfl⟩
  obtain ⟨⟨r1, y9, t9, e9⟩, E9⟩ : ∃ u, rdT 4096 t8 e8 = u := ⟨_, rfl⟩
  have D1 := fun w => decode_calls w s hs2 a1 b1 c1 k1 d1 n1 p1 q1 r1 y1 y2 y3 y4 y5 y6 y7 y8 y9 t1 t2 t3 t4 t5 t6 t7 t8 t9 e1 e2 e3 e4 e5 e6 e7 e8 e9 E1 E2 E3 E4 E5 E6 E7 E8 E9
  have D2 := fun w => refDecode_calls w s hs2 a1 b1 c1 k1 d1 n1 p1 q1 r1 y1 y2 y3 y4 y5 y6 y7 y8 y9 t1 t2 t3 t4 t5 t6 t7 t8 t9 e1 e2 e3 e4 e5 e6 e7 e8 e9 E1 E2 E3 E4 E5 E6 E7 E8 E9
  obtain ⟨xa, xb, xc, xk, xt, xn, xp, xq, xr, N, X, hd⟩ : ∃ (xa xb xc xk xt xn : Int) (xp xq xr : ByteArray) (N X : Int), deV a1 b1 c1 k1 d1 n1 p1 q1 r1 s t9 e9 = .tuple #[enV xa xb xc xk xt xn xp xq xr, .int .i64 N, .int .i64 X] := by
    unfold deV
    split
    · split
      · exact ⟨_, _, _, _, _, _, _, _, _, _, _, rfl⟩
      · exact ⟨_, _, _, _, _, _, _, _, _, _, _, rfl⟩
    · exact ⟨_, _, _, _, _, _, _, _, _, _, _, rfl⟩
  rw [hd] at D1 D2
  unfold En.V
  by_cases hR : Rt a b c p q r
  · have hR2 := hR
    obtain ⟨⟨ha, _⟩, ⟨hb, _⟩, ⟨hc, _⟩, _⟩ := hR
    obtain ⟨a2, rfl⟩ := Int.eq_ofNat_of_zero_le ha
    obtain ⟨b2, rfl⟩ := Int.eq_ofNat_of_zero_le hb
    obtain ⟨c2, rfl⟩ := Int.eq_ofNat_of_zero_le (show 0 ≤ c by omega)
    exact codes_gen w a2 b2 c2 k t n p q r s _ _ xa xb xc xk xt xn xp xq xr N X (fun w => encode_yes w a2 b2 c2 k t n p q r hR2 hk ht hn) (fun w => refEncode_yes w a2 b2 c2 k t n p q r hR2 hk ht hn) D1 D2
  · exact codes_gen w a b c k t n p q r s _ _ xa xb xc xk xt xn xp xq xr N X (fun w => encode_no w a b c k t n p q r hR) (fun w => refEncode_no w a b c k t n p q r hR) D1 D2
end Go.Proofs.Ytbphkbbidbjpmaa.Cw
