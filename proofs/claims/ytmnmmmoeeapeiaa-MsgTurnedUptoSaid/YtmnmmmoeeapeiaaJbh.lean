/- What entries' bytes tell, and that they have one form. Own work. -/
import Derived.Test.YtmnmmmoeeapeiaaJbf
import Derived.Test.YtmnmmmoeeapeiaaJbg
namespace Go.Proofs.Ytmnmmmoeeapeiaa.Cw
open Go.RowKit
set_option linter.unusedVariables false
set_option linter.unusedSimpArgs false

theorem list_of (l : List UInt8) : (⟨l.toArray⟩ : ByteArray).data.toList = l := by simp
theorem ba_self (x : ByteArray) : (⟨x.data.toList.toArray⟩ : ByteArray) = x := by
  apply ByteArray.ext
  simp
theorem ba_of {s : ByteArray} {l : List UInt8} (h : s.data.toList = l) : s = ⟨l.toArray⟩ := by rw [← h, ba_self]
theorem ba_len (s : ByteArray) : s.data.toList.length = s.size := by rw [Array.length_toList]; rfl
theorem ext_list (s : ByteArray) (n : Nat) : (s.extract n s.size).data.toList = s.data.toList.drop n := by
  rw [ByteArray.data_extract, Array.toList_extract, List.extract_eq_take_drop, List.take_of_length_le]
  rw [List.length_drop, ba_len]
  exact Nat.le_refl _
theorem ext_mid (s : ByteArray) (n m : Nat) : (s.extract n m).data.toList = (s.data.toList.drop n).take (m - n) := by
  rw [ByteArray.data_extract, Array.toList_extract, List.extract_eq_take_drop]

theorem rdN_err {most top : Nat} {s t : ByteArray} {v x e f : Nat} (h : rdN most top s f = (v, x, t, e)) (he : e = 0) : f = 0 ∧ x = 0 := by
  have h1 := rdN_same most top s f
  rw [h] at h1
  simp only at h1
  refine ⟨?_, h1.trans he⟩
  by_cases hf : f = 0
  · exact hf
  · rw [rdN_failed _ _ _ _ hf] at h
    simp only [Prod.mk.injEq] at h
    omega
theorem rdT_err {most : Int} {s x t : ByteArray} {y e f : Nat} (h : rdT most s f = (x, y, t, e)) (h0 : 0 ≤ most) (he : e = 0) : f = 0 ∧ y = 0 := by
  have h1 := rdT_same most s f h0
  rw [h] at h1
  simp only at h1
  refine ⟨?_, h1.trans he⟩
  by_cases hf : f = 0
  · exact hf
  · unfold rdT at h
    rw [if_neg (by omega), if_neg hf] at h
    simp only [Prod.mk.injEq] at h
    omega
/-- A number has one form. -/
theorem rdN_one {most top : Nat} {s t : ByteArray} {v x e : Nat} (h : rdN most top s 0 = (v, x, t, e)) (hx : x = 0) : s.data.toList = uv v ++ t.data.toList ∧ e = 0 := by
  by_cases hw : (sv s most top most 0 0).2.2 = 0
  · rw [rdN_ok _ _ _ hw] at h
    obtain ⟨r, e1, e2, _, _, e5⟩ := sv_bytes s most top most 0 0 hw
    simp only [Prod.mk.injEq] at h
    obtain ⟨ha, hb, hc, hd⟩ := h
    refine ⟨?_, hd.symm⟩
    have er : v = r := by rw [← ha, e1]; simp
    rw [er, e2, ← hc, ext_list, Nat.sub_zero, List.drop_zero, List.take_append_drop]
  · rw [rdN_wrong _ _ _ hw] at h
    simp only [Prod.mk.injEq] at h
    exact absurd (h.2.1.trans hx) hw
theorem rdN_lt9 {s t : ByteArray} {v x e : Nat} (h : rdN 9 127 s 0 = (v, x, t, e)) (hx : x = 0) : v ≤ 2 ^ 63 - 1 := by
  by_cases hw : (sv s 9 127 9 0 0).2.2 = 0
  · rw [rdN_ok _ _ _ hw] at h
    simp only [Prod.mk.injEq] at h
    have := sv_facts s 9 127 9 0 0 (by omega) (by omega) hw
    have h9 : 128 ^ (sv s 9 127 9 0 0).2.1 ≤ 128 ^ 9 := Nat.pow_le_pow_right (by decide) this.2.2.1
    have : (128 : Nat) ^ 9 = 2 ^ 63 := by decide
    omega
  · rw [rdN_wrong _ _ _ hw] at h
    simp only [Prod.mk.injEq] at h
    exact absurd (h.2.1.trans hx) hw
theorem rdT_one {most : Int} {s x t : ByteArray} {y e : Nat} (h : rdT most s 0 = (x, y, t, e)) (h0 : 0 ≤ most) (hy : y = 0) : s.data.toList = (uv x.size ++ x.data.toList) ++ t.data.toList ∧ (x.size : Int) ≤ most ∧ e = 0 := by
  unfold rdT at h
  rw [if_neg (by omega), if_pos rfl] at h
  by_cases hw : (sv s 9 127 9 0 0).2.2 = 0
  · rw [if_pos hw] at h
    obtain ⟨r, e1, e2, _, _, e5⟩ := sv_bytes s 9 127 9 0 0 hw
    have er : (sv s 9 127 9 0 0).1 = r := by rw [e1]; simp
    rw [er] at h
    generalize (sv s 9 127 9 0 0).2.1 = n at *
    by_cases hm : most < r
    · rw [if_pos hm] at h
      simp only [Prod.mk.injEq] at h
      omega
    · rw [if_neg hm] at h
      by_cases hl : s.size < n + r
      · rw [if_pos hl] at h
        simp only [Prod.mk.injEq] at h
        omega
      · rw [if_neg hl] at h
        simp only [Prod.mk.injEq] at h
        obtain ⟨ha, hb, hc, hd⟩ := h
        have hxs : x.size = r := by rw [← ha, ByteArray.size_extract]; omega
        refine ⟨?_, by omega, hd.symm⟩
        rw [hxs, e2, ← hc, ← ha, ext_list, ext_mid, Nat.sub_zero, List.drop_zero, show n + r - n = r by omega, List.append_assoc, ← List.drop_drop, List.take_append_drop, List.take_append_drop]
  · rw [if_neg hw] at h
    simp only [Prod.mk.injEq] at h
    exact absurd (h.2.1.trans hy) hw
theorem rdN_lt10' {s t : ByteArray} {v x e f : Nat} (h : rdN 10 1 s f = (v, x, t, e)) : v < 18446744073709551616 := by
  have := rdN_lt10 s f
  rw [h] at this
  exact this
theorem zig_zz9 (n : Nat) (h : n < 18446744073709551616) : zig (zz n) = n := by
  unfold zig zz
  split <;> split <;> omega

/-- What was read of an entry is, byte by byte, what that entry is written as. -/
theorem dec_one {s : ByteArray} {a b c k t n : Nat} {p q r : ByteArray} {x1 x2 x3 x4 x5 x6 x7 x8 x9 : Nat} {t1 t2 t3 t4 t5 t6 t7 t8 t9 : ByteArray} {e1 e2 e3 e4 e5 e6 e7 e8 e9 : Nat}
    (E1 : rdN 9 127 s 0 = (a, x1, t1, e1)) (E2 : rdN 9 127 t1 e1 = (b, x2, t2, e2)) (E3 : rdN 9 127 t2 e2 = (c, x3, t3, e3)) (E4 : rdN 10 1 t3 e3 = (k, x4, t4, e4)) (E5 : rdN 10 1 t4 e4 = (t, x5, t5, e5)) (E6 : rdN 10 1 t5 e5 = (n, x6, t6, e6)) (E7 : rdT 4096 t6 e6 = (p, x7, t7, e7)) (E8 : rdT 4096 t7 e7 = (q, x8, t8, e8)) (E9 : rdT 4096 t8 e8 = (r, x9, t9, e9)) (he : e9 = 0) :
    s.data.toList = enB a b c (zz k) (zz t) (zz n) p q r ++ t9.data.toList ∧ i64 (zz k) ∧ i64 (zz t) ∧ i64 (zz n) := by
  obtain ⟨he, f9⟩ := rdT_err E9 (by decide) he
  subst he
  obtain ⟨he, f8⟩ := rdT_err E8 (by decide) rfl
  subst he
  obtain ⟨he, f7⟩ := rdT_err E7 (by decide) rfl
  subst he
  obtain ⟨he, f6⟩ := rdN_err E6 rfl
  subst he
  obtain ⟨he, f5⟩ := rdN_err E5 rfl
  subst he
  obtain ⟨he, f4⟩ := rdN_err E4 rfl
  subst he
  obtain ⟨he, f3⟩ := rdN_err E3 rfl
  subst he
  obtain ⟨he, f2⟩ := rdN_err E2 rfl
  subst he
  obtain ⟨_, f1⟩ := rdN_err E1 rfl
  have k4 := rdN_lt10' E4
  have k5 := rdN_lt10' E5
  have k6 := rdN_lt10' E6
  refine ⟨?_, zz_i64 k k4, zz_i64 t k5, zz_i64 n k6⟩
  rw [(rdN_one E1 f1).1, (rdN_one E2 f2).1, (rdN_one E3 f3).1, (rdN_one E4 f4).1, (rdN_one E5 f5).1, (rdN_one E6 f6).1, (rdT_one E7 (by decide) f7).1, (rdT_one E8 (by decide) f8).1, (rdT_one E9 (by decide) f9).1]
  unfold enB
  rw [zig_zz9 k k4, zig_zz9 t k5, zig_zz9 n k6]
  simp only [Int.toNat_natCast, List.append_assoc]
/-- What an entry is written as is read as that entry, whatever is behind it. -/
theorem chain {s : ByteArray} {a b c k t n : Nat} {p q r : ByteArray} {x1 x2 x3 x4 x5 x6 x7 x8 x9 : Nat} {t1 t2 t3 t4 t5 t6 t7 t8 t9 : ByteArray} {e1 e2 e3 e4 e5 e6 e7 e8 e9 : Nat}
    (E1 : rdN 9 127 s 0 = (a, x1, t1, e1)) (E2 : rdN 9 127 t1 e1 = (b, x2, t2, e2)) (E3 : rdN 9 127 t2 e2 = (c, x3, t3, e3)) (E4 : rdN 10 1 t3 e3 = (k, x4, t4, e4)) (E5 : rdN 10 1 t4 e4 = (t, x5, t5, e5)) (E6 : rdN 10 1 t5 e5 = (n, x6, t6, e6)) (E7 : rdT 4096 t6 e6 = (p, x7, t7, e7)) (E8 : rdT 4096 t7 e7 = (q, x8, t8, e8)) (E9 : rdT 4096 t8 e8 = (r, x9, t9, e9))
    (y : En) (z : List UInt8) (hR : y.R) (hO : y.Ok) (h : s.data.toList = y.B ++ z) :
    e9 = 0 ∧ (⟨a, b, c, zz k, zz t, zz n, p, q, r⟩ : En) = y ∧ t9.data.toList = z := by
  obtain ⟨ya, yb, yc, yk, yt, yn, yp, yq, yr⟩ := y
  obtain ⟨⟨_, _, _, hk, ht, hn⟩, _⟩ := hO
  have hR2 : Rt ya yb yc yp yq yr := hR
  obtain ⟨⟨g1, g2⟩, ⟨g3, g4⟩, ⟨g5, g6⟩, g7, g8, g9⟩ := hR2
  obtain ⟨a', rfl⟩ : ∃ a' : Nat, ya = a' := ⟨ya.toNat, by omega⟩
  obtain ⟨b', rfl⟩ : ∃ a' : Nat, yb = a' := ⟨yb.toNat, by omega⟩
  obtain ⟨c', rfl⟩ : ∃ a' : Nat, yc = a' := ⟨yc.toNat, by omega⟩
  have hs : s = ⟨(uv a' ++ (uv b' ++ (uv c' ++ (uv (zig yk) ++ (uv (zig yt) ++ (uv (zig yn) ++ ((uv yp.size ++ yp.data.toList) ++ ((uv yq.size ++ yq.data.toList) ++ ((uv yr.size ++ yr.data.toList) ++ z))))))))).toArray⟩ := ba_of (h.trans (by
    show enB _ _ _ _ _ _ _ _ _ ++ z = _
    unfold enB
    simp only [Int.toNat_natCast, List.append_assoc]))
  rw [hs, rd_uint a' _ (by omega)] at E1
  simp only [Prod.mk.injEq] at E1
  obtain ⟨rfl, rfl, rfl, rfl⟩ := E1
  rw [rd_uint b' _ (by omega)] at E2
  simp only [Prod.mk.injEq] at E2
  obtain ⟨rfl, rfl, rfl, rfl⟩ := E2
  rw [rd_uint c' _ (by omega)] at E3
  simp only [Prod.mk.injEq] at E3
  obtain ⟨rfl, rfl, rfl, rfl⟩ := E3
  rw [rd_int yk _ hk.1 hk.2] at E4
  simp only [Prod.mk.injEq] at E4
  obtain ⟨rfl, rfl, rfl, rfl⟩ := E4
  rw [rd_int yt _ ht.1 ht.2] at E5
  simp only [Prod.mk.injEq] at E5
  obtain ⟨rfl, rfl, rfl, rfl⟩ := E5
  rw [rd_int yn _ hn.1 hn.2] at E6
  simp only [Prod.mk.injEq] at E6
  obtain ⟨rfl, rfl, rfl, rfl⟩ := E6
  have w7 := rd_textN 4096 yp ((uv yq.size ++ yq.data.toList) ++ ((uv yr.size ++ yr.data.toList) ++ z)) (by omega) (by omega)
  rw [show ((4096 : Nat) : Int) = 4096 from rfl] at w7
  rw [w7] at E7
  simp only [Prod.mk.injEq] at E7
  obtain ⟨rfl, rfl, rfl, rfl⟩ := E7
  have w8 := rd_textN 4096 yq ((uv yr.size ++ yr.data.toList) ++ z) (by omega) (by omega)
  rw [show ((4096 : Nat) : Int) = 4096 from rfl] at w8
  rw [w8] at E8
  simp only [Prod.mk.injEq] at E8
  obtain ⟨rfl, rfl, rfl, rfl⟩ := E8
  have w9 := rd_textN 4096 yr z (by omega) (by omega)
  rw [show ((4096 : Nat) : Int) = 4096 from rfl] at w9
  rw [w9] at E9
  simp only [Prod.mk.injEq] at E9
  obtain ⟨rfl, rfl, rfl, rfl⟩ := E9
  refine ⟨rfl, ?_, list_of z⟩
  rw [zz_zig, zz_zig, zz_zig]

theorem nine_eqs (s : ByteArray) : ∃ (a b c k t n : Nat) (p q r : ByteArray) (x1 x2 x3 x4 x5 x6 x7 x8 x9 : Nat) (t1 t2 t3 t4 t5 t6 t7 t8 t9 : ByteArray) (e1 e2 e3 e4 e5 e6 e7 e8 e9 : Nat),
    rdN 9 127 s 0 = (a, x1, t1, e1) ∧ rdN 9 127 t1 e1 = (b, x2, t2, e2) ∧ rdN 9 127 t2 e2 = (c, x3, t3, e3) ∧ rdN 10 1 t3 e3 = (k, x4, t4, e4) ∧ rdN 10 1 t4 e4 = (t, x5, t5, e5) ∧ rdN 10 1 t5 e5 = (n, x6, t6, e6) ∧ rdT 4096 t6 e6 = (p, x7, t7, e7) ∧ rdT 4096 t7 e7 = (q, x8, t8, e8) ∧ rdT 4096 t8 e8 = (r, x9, t9, e9) := by
  obtain ⟨a, x1, t1, e1, E1⟩ : ∃ a' x' t' e', rdN 9 127 s 0 = (a', x', t', e') := ⟨_, _, _, _, rfl⟩
  obtain ⟨b, x2, t2, e2, E2⟩ : ∃ a' x' t' e', rdN 9 127 t1 e1 = (a', x', t', e') := ⟨_, _, _, _, rfl⟩
  obtain ⟨c, x3, t3, e3, E3⟩ : ∃ a' x' t' e', rdN 9 127 t2 e2 = (a', x', t', e') := ⟨_, _, _, _, rfl⟩
  obtain ⟨k, x4, t4, e4, E4⟩ : ∃ a' x' t' e', rdN 10 1 t3 e3 = (a', x', t', e') := ⟨_, _, _, _, rfl⟩
  obtain ⟨t, x5, t5, e5, E5⟩ : ∃ a' x' t' e', rdN 10 1 t4 e4 = (a', x', t', e') := ⟨_, _, _, _, rfl⟩
  obtain ⟨n, x6, t6, e6, E6⟩ : ∃ a' x' t' e', rdN 10 1 t5 e5 = (a', x', t', e') := ⟨_, _, _, _, rfl⟩
  obtain ⟨p, x7, t7, e7, E7⟩ : ∃ a' x' t' e', rdT 4096 t6 e6 = (a', x', t', e') := ⟨_, _, _, _, rfl⟩
  obtain ⟨q, x8, t8, e8, E8⟩ : ∃ a' x' t' e', rdT 4096 t7 e7 = (a', x', t', e') := ⟨_, _, _, _, rfl⟩
  obtain ⟨r, x9, t9, e9, E9⟩ : ∃ a' x' t' e', rdT 4096 t8 e8 = (a', x', t', e') := ⟨_, _, _, _, rfl⟩
  exact ⟨a, b, c, k, t, n, p, q, r, x1, x2, x3, x4, x5, x6, x7, x8, x9, t1, t2, t3, t4, t5, t6, t7, t8, t9, e1, e2, e3, e4, e5, e6, e7, e8, e9, E1, E2, E3, E4, E5, E6, E7, E8, E9⟩
/-- Of two entries' bytes, with anything behind them, the entries are told. -/
theorem B_cancel {x y : En} {r z : List UInt8} (hx : x.R) (ox : x.Ok) (hy : y.R) (oy : y.Ok) (h : x.B ++ r = y.B ++ z) : x = y ∧ r = z := by
  obtain ⟨a, b, c, k, t, n, p, q, u, x1, x2, x3, x4, x5, x6, x7, x8, x9, t1, t2, t3, t4, t5, t6, t7, t8, t9, e1, e2, e3, e4, e5, e6, e7, e8, e9, E1, E2, E3, E4, E5, E6, E7, E8, E9⟩ := nine_eqs ⟨(x.B ++ r).toArray⟩
  obtain ⟨_, h1, h2⟩ := chain E1 E2 E3 E4 E5 E6 E7 E8 E9 x r hx ox (list_of _)
  obtain ⟨_, h3, h4⟩ := chain E1 E2 E3 E4 E5 E6 E7 E8 E9 y z hy oy ((list_of _).trans h)
  exact ⟨h1.symm.trans h3, h2.symm.trans h4⟩

set_option maxRecDepth 100000 in
/-- What both Decodes of an entry answer: an entry and how many bytes it has, if the text begins with an entry's bytes. -/
theorem dec_full (s : ByteArray) : ∃ (x : En) (m : Nat) (f : Int),
    (s.size ≤ maxLen → ∀ w, Calls Try.prog 46 #[.string s] w fun e w' => e = .returned (.tuple #[x.V, .int .i64 (m : Int), .int .i64 f]) ∧ Fr w w' (fun _ => False)) ∧
    (s.size ≤ maxLen → ∀ w, Calls Try.prog 33 #[.string s] w fun e w' => e = .returned (.tuple #[x.V, .int .i64 (m : Int), .int .i64 f]) ∧ Fr w w' (fun _ => False)) ∧
    m ≤ s.size ∧ (f = 0 → x.R ∧ x.Ok ∧ s.data.toList = x.B ++ (s.extract m s.size).data.toList) ∧ (¬ f = 0 → ∀ (y : En) (z : List UInt8), y.R → y.Ok → ¬ s.data.toList = y.B ++ z) := by
  obtain ⟨a, b, c, k, t, n, p, q, r, x1, x2, x3, x4, x5, x6, x7, x8, x9, t1, t2, t3, t4, t5, t6, t7, t8, t9, e1, e2, e3, e4, e5, e6, e7, e8, e9, E1, E2, E3, E4, E5, E6, E7, E8, E9⟩ := nine_eqs s
  have D1 := fun (hs : s.size ≤ maxLen) w => decode_calls w s hs a b c k t n p q r x1 x2 x3 x4 x5 x6 x7 x8 x9 t1 t2 t3 t4 t5 t6 t7 t8 t9 e1 e2 e3 e4 e5 e6 e7 e8 e9 E1 E2 E3 E4 E5 E6 E7 E8 E9
  have D2 := fun (hs : s.size ≤ maxLen) w => refDecode_calls w s hs a b c k t n p q r x1 x2 x3 x4 x5 x6 x7 x8 x9 t1 t2 t3 t4 t5 t6 t7 t8 t9 e1 e2 e3 e4 e5 e6 e7 e8 e9 E1 E2 E3 E4 E5 E6 E7 E8 E9
  have CH := chain E1 E2 E3 E4 E5 E6 E7 E8 E9
  by_cases h0 : e9 = 0
  · obtain ⟨hl, k4, k5, k6⟩ := dec_one E1 E2 E3 E4 E5 E6 E7 E8 E9 h0
    have hz : s.size = (enB a b c (zz k) (zz t) (zz n) p q r).length + t9.size := by
      have := congrArg List.length hl
      rw [List.length_append, ba_len, ba_len] at this
      exact this
    by_cases hr : Rt a b c p q r
    · unfold deV at D1 D2
      rw [if_pos h0, if_pos hr] at D1 D2
      refine ⟨⟨a, b, c, zz k, zz t, zz n, p, q, r⟩, s.size - t9.size, 0, ?_, ?_, by omega, fun _ => ⟨hr, ⟨⟨?_, ?_, ?_, k4, k5, k6⟩, ?_⟩, ?_⟩, fun h => absurd rfl h⟩
      · rw [show ((s.size - t9.size : Nat) : Int) = (s.size : Int) - t9.size by omega]
        exact D1
      · rw [show ((s.size - t9.size : Nat) : Int) = (s.size : Int) - t9.size by omega]
        exact D2
      · unfold Rt at hr; unfold i64; simp only; omega
      · unfold Rt at hr; unfold i64; simp only; omega
      · unfold Rt at hr; unfold i64; simp only; omega
      · unfold Rt at hr; unfold maxLen; simp only; omega
      · rw [ext_list, hl]
        show _ = enB a b c (zz k) (zz t) (zz n) p q r ++ _
        rw [hz, show (enB a b c (zz k) (zz t) (zz n) p q r).length + t9.size - t9.size = (enB a b c (zz k) (zz t) (zz n) p q r).length by omega, List.drop_left]
    · unfold deV at D1 D2
      rw [if_pos h0, if_neg hr] at D1 D2
      refine ⟨⟨0, 0, 0, 0, 0, 0, ⟨#[]⟩, ⟨#[]⟩, ⟨#[]⟩⟩, 0, 4, D1, D2, by omega, fun h => by omega, fun _ y z hR hO h => ?_⟩
      obtain ⟨_, h2, _⟩ := CH y z hR hO h
      subst h2
      exact hr hR
  · unfold deV at D1 D2
    rw [if_neg h0] at D1 D2
    refine ⟨⟨0, 0, 0, 0, 0, 0, ⟨#[]⟩, ⟨#[]⟩, ⟨#[]⟩⟩, 0, e9, D1, D2, by omega, fun h => by omega, fun _ y z hR hO h => ?_⟩
    exact h0 (CH y z hR hO h).1
end Go.Proofs.Ytmnmmmoeeapeiaa.Cw

