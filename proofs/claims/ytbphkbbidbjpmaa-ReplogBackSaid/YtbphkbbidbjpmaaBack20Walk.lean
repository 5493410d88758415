/- ReplogBack by a walk over contracts. Own work. -/
import Derived.Test.YtbphkbbidbjpmaaRpI
import Derived.Test.YtbphkbbidbjpmaaCwK
namespace Go.Proofs.Ytbphkbbidbjpmaa.Cw
open Go.RowKit
set_option linter.unusedVariables false
set_option linter.unusedSimpArgs false

theorem ba_list (x : ByteArray) : (⟨x.data.toList.toArray⟩ : ByteArray) = x := by
  apply ByteArray.ext
  simp

theorem enB_len (a b c : Nat) (k t n : Int) (p q r : ByteArray) (h : Rt a b c p q r) (hk : i64 k) (ht : i64 t) (hn : i64 n) : (enB a b c k t n p q r).length ≤ 20000 := by
  obtain ⟨⟨_, ha⟩, ⟨_, hb⟩, ⟨_, hc⟩, hp, hq, hr⟩ := h
  have la := uv_len10 a (by omega)
  have lb := uv_len10 b (by omega)
  have lc := uv_len10 c (by omega)
  have lk := uv_len10 (zig k) (zig_lt k hk.1 hk.2)
  have lt := uv_len10 (zig t) (zig_lt t ht.1 ht.2)
  have ln := uv_len10 (zig n) (zig_lt n hn.1 hn.2)
  have lp := uv_len10 p.size (by omega)
  have lq := uv_len10 q.size (by omega)
  have lr := uv_len10 r.size (by omega)
  have ep : p.data.toList.length = p.size := by rw [Array.length_toList]; rfl
  have eq : q.data.toList.length = q.size := by rw [Array.length_toList]; rfl
  have er : r.data.toList.length = r.size := by rw [Array.length_toList]; rfl
  unfold enB
  simp only [List.length_append, Int.toNat_natCast]
  omega

/-- What was encoded is decoded, whatever is behind it. -/
theorem back_dec (w : World) (a b c : Nat) (k t n : Int) (p q r more : ByteArray) (h : Rt a b c p q r) (hk : i64 k) (ht : i64 t) (hn : i64 n) (hm : more.size ≤ 140737488351232) :
    Calls Try.prog 11 #[.string (⟨(enB a b c k t n p q r).toArray⟩ ++ more)] w fun e w' => e = .returned (.tuple #[enV a b c k t n p q r, .int .i64 (enB a b c k t n p q r).length, .int .i64 0]) ∧ Fr w w' (fun _ => False) := by
  have hlen := enB_len a b c k t n p q r h hk ht hn
  have hR := h
  obtain ⟨⟨_, ha⟩, ⟨_, hb⟩, ⟨_, hc⟩, hp, hq, hr⟩ := h
  have hs : (⟨(enB a b c k t n p q r).toArray⟩ ++ more : ByteArray) = ⟨(uv a ++ (uv b ++ (uv c ++ (uv (zig k) ++ (uv (zig t) ++ (uv (zig n) ++ ((uv p.size ++ p.data.toList) ++ ((uv q.size ++ q.data.toList) ++ ((uv r.size ++ r.data.toList) ++ more.data.toList))))))))).toArray⟩ := by
    rw [← ba_list more, str_app]
    unfold enB
    simp only [Int.toNat_natCast, List.append_assoc]
  have hsz : (⟨(enB a b c k t n p q r).toArray⟩ ++ more : ByteArray).size = (enB a b c k t n p q r).length + more.size := by
    rw [ByteArray.size_append]
    rfl
  have hmax : (⟨(enB a b c k t n p q r).toArray⟩ ++ more : ByteArray).size ≤ maxLen := by
    rw [hsz]
    unfold maxLen
    omega
  have hd : deV a b c (zig k) (zig t) (zig n) p q r (⟨(enB a b c k t n p q r).toArray⟩ ++ more) ⟨more.data.toList.toArray⟩ 0 = .tuple #[enV a b c k t n p q r, .int .i64 (enB a b c k t n p q r).length, .int .i64 0] := by
    unfold deV
    have hq : (((⟨(enB a b c k t n p q r).toArray⟩ ++ more : ByteArray).size : Nat) : Int) - (more.size : Int) = (((enB a b c k t n p q r).length : Nat) : Int) := by
      rw [hsz]
      omega
    rw [if_pos rfl, if_pos hR, zz_zig, zz_zig, zz_zig, ba_list, hq]
  rw [← hd]
  rw [hs] at hmax ⊢
  exact decode_calls w _ hmax a b c (zig k) (zig t) (zig n) p q r 0 0 0 0 0 0 0 0 0 _ _ _ _ _ _ _ _ _ 0 0 0 0 0 0 0 0 0
    (rd_uint a _ (by omega)) (rd_uint b _ (by omega)) (rd_uint c _ (by omega)) (rd_int k _ hk.1 hk.2) (rd_int t _ ht.1 ht.2) (rd_int n _ hn.1 hn.2)
    (rd_textN 4096 p _ (by omega) hp) (rd_textN 4096 q _ (by omega) hq) (rd_textN 4096 r _ (by omega) hr)

set_option maxRecDepth 100000 in
set_option maxHeartbeats 6400000 in
theorem back_no (w : World) (a b c k t n : Int) (p q r more : ByteArray) (h : ¬ Rt a b c p q r) :
    Calls Try.prog 4 #[enV a b c k t n p q r, .string more] w fun e w' => e = .returned (.bool true) ∧ Fr w w' (fun _ => False) := by
  have H1 := hid (fun w => encode_no w a b c k t n p q r h)
  clear h
  unfold enV at *
  go_enter Try.func4, Try.ntmps4
  go_wp2_with fail
  refine (H1.out _).mono ?_
  rintro e w1 ⟨rfl, hf1⟩
  have hA1 := ((Fr.refl w (fun _ => False)).alloc _).trans hf1
  go_wp2_with (go_at_call 13; refine (speaks20_calls _).mono ?_; rintro e6 w6 ⟨rfl, hf6⟩)
  go_ret
  exact ⟨rfl, hA1.trans hf6⟩

set_option maxRecDepth 100000 in
set_option maxHeartbeats 6400000 in
theorem back_yes (w : World) (a b c k t n : Int) (p q r more EB : ByteArray) (N : Nat) (hN : EB.size = N) (hsum : ¬ 9223372036854775807 < EB.size + more.size)
    (h1 : ∀ w, Calls Try.prog 9 #[enV a b c k t n p q r] w fun e w' => e = .returned (.tuple #[.string EB, .int .i64 0]) ∧ Fr w w' (fun _ => False))
    (h3 : ∀ w, Calls Try.prog 11 #[.string (EB ++ more)] w fun e w' => e = .returned (.tuple #[enV a b c k t n p q r, .int .i64 N, .int .i64 0]) ∧ Fr w w' (fun _ => False)) :
    Calls Try.prog 4 #[enV a b c k t n p q r, .string more] w fun e w' => e = .returned (.bool true) ∧ Fr w w' (fun _ => False) := by
  subst hN
  have H1 := hid h1
  have H3 := hid h3
  clear h1 h3
  unfold enV at *
  go_enter Try.func4, Try.ntmps4
  go_wp2_with fail
  refine (H1.out _).mono ?_
  rintro e w1 ⟨rfl, hf1⟩
  have hx1 := hf1.at_ (alloc_new w _) (fun x => x)
  have hA1 := ((Fr.refl w (fun _ => False)).alloc _).trans hf1
  go_wp2_with fail
  refine (H3.out _).mono ?_
  rintro e w2 ⟨rfl, hf2⟩
  have hA2 := hA1.trans hf2
  have hx2 := ((Fr.refl w2 (fun _ => False)).alloc (.cells #[.int .i64 a, .int .i64 b, .int .i64 c, .int .i64 k, .int .i64 t, .int .i64 n, .string p, .string q, .string r] 25)).at_ (hf2.at_ hx1 (fun x => x)) (fun x => x)
  have hE := alloc_new w2 (.cells #[.int .i64 a, .int .i64 b, .int .i64 c, .int .i64 k, .int .i64 t, .int .i64 n, .string p, .string q, .string r] 25)
  have c0 := cell_blk hx2 0
  have c1 := cell_blk hx2 1
  have c2 := cell_blk hx2 2
  have c3 := cell_blk hx2 3
  have c4 := cell_blk hx2 4
  have c5 := cell_blk hx2 5
  have c6 := cell_blk hx2 6
  have c7 := cell_blk hx2 7
  have c8 := cell_blk hx2 8
  simp only [List.getElem?_toArray, List.getElem?_cons_zero, List.getElem?_cons_succ] at c0 c1 c2 c3 c4 c5 c6 c7 c8
  have d0 := cell_blk hE 0
  have d1 := cell_blk hE 1
  have d2 := cell_blk hE 2
  have d3 := cell_blk hE 3
  have d4 := cell_blk hE 4
  have d5 := cell_blk hE 5
  have d6 := cell_blk hE 6
  have d7 := cell_blk hE 7
  have d8 := cell_blk hE 8
  simp only [List.getElem?_toArray, List.getElem?_cons_zero, List.getElem?_cons_succ] at d0 d1 d2 d3 d4 d5 d6 d7 d8
  clear hf1 hf2 hx1 hx2 hA1 hE
  go_wp2_with (go_at_call 13; refine (speaks20_calls _).mono ?_; rintro e6 w6 ⟨rfl, hf6⟩)
  go_ret
  exact ⟨rfl, (hA2.alloc _).trans hf6⟩

theorem replogBack_calls (w : World) (x : En) (more : ByteArray) (hk : i64 x.k) (ht : i64 x.t) (hn : i64 x.n) (hm : more.size ≤ 140737488351232) :
    Calls Try.prog 4 #[x.V, .string more] w fun e w' => e = .returned (.bool true) ∧ Fr w w' (fun _ => False) := by
  obtain ⟨a, b, c, k, t, n, p, q, r⟩ := x
  simp only at hk ht hn
  unfold En.V
  by_cases hR : Rt a b c p q r
  · have hR2 := hR
    obtain ⟨⟨ha, _⟩, ⟨hb, _⟩, ⟨hc, _⟩, _⟩ := hR
    obtain ⟨a2, rfl⟩ := Int.eq_ofNat_of_zero_le ha
    obtain ⟨b2, rfl⟩ := Int.eq_ofNat_of_zero_le hb
    obtain ⟨c2, rfl⟩ := Int.eq_ofNat_of_zero_le (show 0 ≤ c by omega)
    have hl := enB_len a2 b2 c2 k t n p q r hR2 hk ht hn
    have hsz : (⟨(enB a2 b2 c2 k t n p q r).toArray⟩ : ByteArray).size = (enB a2 b2 c2 k t n p q r).length := by
      show (enB a2 b2 c2 k t n p q r).toArray.size = _
      simp
    exact back_yes w a2 b2 c2 k t n p q r more _ _ hsz (by rw [hsz]; omega) (fun w => encode_yes w a2 b2 c2 k t n p q r hR2 hk ht hn) (fun w => back_dec w a2 b2 c2 k t n p q r more hR2 hk ht hn hm)
  · exact back_no w a b c k t n p q r more hR
end Go.Proofs.Ytbphkbbidbjpmaa.Cw
