/- The program's Encode of a message. Written by mkmgj.py. Own work. -/
import Derived.Test.YtmnmmmoeeapeiaaJbd
import Derived.Test.YtmnmmmoeeapeiaaJas
import Derived.Handy
namespace Go.Proofs.Ytmnmmmoeeapeiaa.Cw
open Go.RowKit
set_option linter.unusedVariables false
set_option linter.unusedSimpArgs false

set_option maxRecDepth 100000 in
set_option maxHeartbeats 12800000 in
theorem encode23_yes (w : World) (k v n a c : Nat) (u : Value) (l : List En) (hl : Sv w u l) (hok : ∀ x ∈ l, x.Ok) (hn : l.length ≤ 1466015503701) (hb : Hb l) (h : okM k v n a c l = true) :
    Calls Try.prog 7 #[.agg #[.int .i64 k, .int .i64 v, .int .i64 n, .int .i64 a, .int .i64 c, u]] w fun e w' => e = .returned (.tuple #[.string (enS k v n a c l), .int .i64 (enE k v n a c l)]) ∧ Fr w w' (fun _ => False) := by
  have JC := hid (fun (W : World) (hf : Fr w W (fun _ => False)) => joined_calls W u l (hl.fr hf) hok hn hb)
  have SO := hid (fun (W : World) (hf : Fr w W (fun _ => False)) => sorted23_calls W u l (hl.fr hf) (by omega))
  obtain ⟨⟨f0, f1⟩, ⟨_, f2⟩, ⟨_, f3⟩, ⟨_, f4⟩, ⟨_, f5⟩, har, hsr⟩ := okM_facts h
  have hbl := hb.all har
  have hj : jnS l = ⟨(jnB l).toArray⟩ ∧ jnE l = 0 := by
    unfold jnS jnE
    rw [har]
    exact ⟨rfl, rfl⟩
  rw [hj.1, hj.2] at JC
  rw [hsr] at SO
  have i1 : inB (v : Int) = true := decide_eq_true (by omega)
  have i2 : inB (n : Int) = true := decide_eq_true (by omega)
  have i3 : inB (a : Int) = true := decide_eq_true (by omega)
  have i4 : inB (c : Int) = true := decide_eq_true (by omega)
  have I1 := hid (fun (W : World) => in23_calls W v)
  have I2 := hid (fun (W : World) => in23_calls W n)
  have I3 := hid (fun (W : World) => in23_calls W a)
  have I4 := hid (fun (W : World) => in23_calls W c)
  rw [i1] at I1
  rw [i2] at I2
  rw [i3] at I3
  rw [i4] at I4
  have r1 : decide ((k : Int) < 1) = false := decide_eq_false (by omega)
  have r2 : decide ((7 : Int) < (k : Int)) = false := decide_eq_false (by omega)
  have Ck := hid (fun (w : World) (g : Nat) (v0 : Value) (bs : List UInt8) (h : Wr w g v0 bs) (hl : Len bs 10) => wUint_calls w g v0 bs k h (by omega) hl)
  have Cv := hid (fun (w : World) (g : Nat) (v0 : Value) (bs : List UInt8) (h : Wr w g v0 bs) (hl : Len bs 10) => wUint_calls w g v0 bs v h (by omega) hl)
  have Cn := hid (fun (w : World) (g : Nat) (v0 : Value) (bs : List UInt8) (h : Wr w g v0 bs) (hl : Len bs 10) => wUint_calls w g v0 bs n h (by omega) hl)
  have Ca := hid (fun (w : World) (g : Nat) (v0 : Value) (bs : List UInt8) (h : Wr w g v0 bs) (hl : Len bs 10) => wUint_calls w g v0 bs a h (by omega) hl)
  have Cc := hid (fun (w : World) (g : Nat) (v0 : Value) (bs : List UInt8) (h : Wr w g v0 bs) (hl : Len bs 10) => wUint_calls w g v0 bs c h (by omega) hl)
  have CN := hid (fun (w : World) (g : Nat) (v0 : Value) (bs : List UInt8) (h : Wr w g v0 bs) (hl : Len bs 10) => wUint_calls w g v0 bs l.length h (by omega) hl)
  have lk := uv_len10 (k) (by omega)
  have lv := uv_len10 (v) (by omega)
  have ln := uv_len10 (n) (by omega)
  have la := uv_len10 (a) (by omega)
  have lc := uv_len10 (c) (by omega)
  have lN := uv_len10 (l.length) (by omega)
  have HEN : Hid (enE k v n a c l = if 60000 < ([] ++ uv k ++ uv v ++ uv n ++ uv a ++ uv c ++ uv l.length).length + (jnB l).length + 4 then 2 else 0) := hid (by
    unfold enE
    rw [if_neg (by rw [h]; decide)]
    rfl)
  have HES : Hid (enE k v n a c l = 0 → enS k v n a c l = sealS ⟨(([] ++ uv k ++ uv v ++ uv n ++ uv a ++ uv c ++ uv l.length) ++ jnB l).toArray⟩) := hid (fun e => if_pos e)
  have HEZ : Hid (¬ enE k v n a c l = 0 → enS k v n a c l = ⟨#[]⟩) := hid (fun e => if_neg e)
  obtain ⟨A, cap, rfl, h1, _, _⟩ := hl
  clear hok har hsr h hj f0 f1 f2 f3 f4 f5 i1 i2 i3 i4
  generalize enE k v n a c l = EN at *
  generalize enS k v n a c l = ES at *
  generalize uv k = xk at *
  generalize uv v = xv at *
  generalize uv n = xn at *
  generalize uv a = xa at *
  generalize uv c = xc at *
  generalize uv l.length = xN at *
  generalize hN : l.length = N at *
  clear hN
  obtain ⟨J, hJ⟩ : ∃ J, jnB l = J := ⟨_, rfl⟩
  rw [hJ] at JC HEN HES hbl
  clear hJ
  have L0 : Hid (Len ([]) 10) := hid (by unfold Len; simp only [List.length_append, List.length_nil]; omega)
  have L1 : Hid (Len ([] ++ xk) 10) := hid (by unfold Len; simp only [List.length_append, List.length_nil]; omega)
  have L2 : Hid (Len ([] ++ xk ++ xv) 10) := hid (by unfold Len; simp only [List.length_append, List.length_nil]; omega)
  have L3 : Hid (Len ([] ++ xk ++ xv ++ xn) 10) := hid (by unfold Len; simp only [List.length_append, List.length_nil]; omega)
  have L4 : Hid (Len ([] ++ xk ++ xv ++ xn ++ xa) 10) := hid (by unfold Len; simp only [List.length_append, List.length_nil]; omega)
  have L5 : Hid (Len ([] ++ xk ++ xv ++ xn ++ xa ++ xc) 10) := hid (by unfold Len; simp only [List.length_append, List.length_nil]; omega)
  have LL : Hid (([] ++ xk ++ xv ++ xn ++ xa ++ xc ++ xN).length ≤ 60) := hid (by simp only [List.length_append, List.length_nil]; omega)
  clear lk lv ln la lc lN
  go_enter Try.func7, Try.ntmps7
  go_wp2_with fail
  have hP := alloc_new w (.cells #[.int .i64 k, .int .i64 v, .int .i64 n, .int .i64 a, .int .i64 c, .slice A N cap] 24)
  refine (JC.out _ ((Fr.refl w _).alloc _)).mono ?_
  rintro e w1 ⟨rfl, hf1⟩
  have hA1 := ((Fr.refl w (fun _ => False)).alloc (.cells #[.int .i64 k, .int .i64 v, .int .i64 n, .int .i64 a, .int .i64 c, .slice A N cap] 24)).trans hf1
  have hP1 := hf1.at_ hP (fun x => x)
  have q5 := cell_blk hP1 5
  simp only [List.getElem?_toArray, List.getElem?_cons_zero, List.getElem?_cons_succ] at q5
  clear hf1 hP
  go_wp2_with fail
  refine (SO.out _ hA1).mono ?_
  rintro e w2 ⟨rfl, hf2⟩
  have hA2 := hA1.trans hf2
  have hP2 := hf2.at_ hP1 (fun x => x)
  have q0 := cell_blk hP2 0
  have q1 := cell_blk hP2 1
  have q2 := cell_blk hP2 2
  have q3 := cell_blk hP2 3
  have q4 := cell_blk hP2 4
  simp only [List.getElem?_toArray, List.getElem?_cons_zero, List.getElem?_cons_succ] at q0 q1 q2 q3 q4
  clear hf2 hA1 hP1 q5 JC SO
  generalize hPP : w.heap.size = Pb at *
  clear hPP
  go_wp2_with (first
    | (go_at_call_of 19 (Value.int .i64 v); refine (I1.out _).mono ?_; rintro e w' ⟨rfl, rfl⟩)
    | (go_at_call_of 19 (Value.int .i64 n); refine (I2.out _).mono ?_; rintro e w' ⟨rfl, rfl⟩)
    | (go_at_call_of 19 (Value.int .i64 a); refine (I3.out _).mono ?_; rintro e w' ⟨rfl, rfl⟩)
    | (go_at_call_of 19 (Value.int .i64 c); refine (I4.out _).mono ?_; rintro e w' ⟨rfl, rfl⟩))

  clear q0 q1 q2 q3 q4 I1 I2 I3 I4
  refine (new_calls w').mono ?_
  rintro e wB ⟨rfl, hnw, hf2⟩
  have h2 := Wr.new hnw
  have n2 := Nw.nil w'
  have hx2 := hf2.at_ hP2 (fun x => x)
  have HA2 := hid hA2
  generalize hgg : w'.heap.size = g at h2 ⊢
  have HG : Hid (w'.heap.size ≤ g) := hid (Nat.le_of_eq hgg)
  clear hgg hnw hP2 hA2
  have q0 := cell_blk hx2 0
  have q1 := cell_blk hx2 1
  have q2 := cell_blk hx2 2
  have q3 := cell_blk hx2 3
  have q4 := cell_blk hx2 4
  have q5 := cell_blk hx2 5
  simp only [List.getElem?_toArray, List.getElem?_cons_zero, List.getElem?_cons_succ] at q0 q1 q2 q3 q4 q5
  go_wp2_with fail
  have hs := alloc_new wB (.cells #[.int .i64 k, .int .i64 v, .int .i64 n, .int .i64 a, .int .i64 c, .int .i64 N] 3)
  have hv := h2.alloc (.cells #[.int .i64 k, .int .i64 v, .int .i64 n, .int .i64 a, .int .i64 c, .int .i64 N] 3)
  have hB := hf2.alloc (.cells #[.int .i64 k, .int .i64 v, .int .i64 n, .int .i64 a, .int .i64 c, .int .i64 N] 3)
  clear q0 q1 q2 q3 q4 q5 h2 hf2 hx2
  generalize wB.heap.size = sb at *
  refine wp_loop_rounds 7 ?_
  rw [rounds_succ]
  have e3 := cell_blk hs 0
  simp only [List.getElem?_toArray, List.getElem?_cons_zero, List.getElem?_cons_succ] at e3
  go_wp2_with fail
  refine (Ck.out _ g _ _ hv L0.out).mono ?_
  rintro e w3 ⟨rfl, v3, h3, hf3, hn3⟩
  have hs3 := hf3.at_ hs (hv.apart hs (by decide) (by decide))
  have hB3 := hB.fresh hf3 (WS_fresh HG.out n2)
  have n3 := n2.next hB.size hn3
  clear e3 hs hv hB hf3 hn3 n2
  go_wp2_with fail
  rw [rounds_succ]
  have e4 := cell_blk hs3 1
  simp only [List.getElem?_toArray, List.getElem?_cons_zero, List.getElem?_cons_succ] at e4
  go_wp2_with fail
  refine (Cv.out _ g _ _ h3 L1.out).mono ?_
  rintro e w4 ⟨rfl, v4, h4, hf4, hn4⟩
  have hs4 := hf4.at_ hs3 (h3.apart hs3 (by decide) (by decide))
  have hB4 := hB3.fresh hf4 (WS_fresh HG.out n3)
  have n4 := n3.next hB3.size hn4
  clear e4 hs3 h3 hB3 hf4 hn4 n3
  go_wp2_with fail
  rw [rounds_succ]
  have e5 := cell_blk hs4 2
  simp only [List.getElem?_toArray, List.getElem?_cons_zero, List.getElem?_cons_succ] at e5
  go_wp2_with fail
  refine (Cn.out _ g _ _ h4 L2.out).mono ?_
  rintro e w5 ⟨rfl, v5, h5, hf5, hn5⟩
  have hs5 := hf5.at_ hs4 (h4.apart hs4 (by decide) (by decide))
  have hB5 := hB4.fresh hf5 (WS_fresh HG.out n4)
  have n5 := n4.next hB4.size hn5
  clear e5 hs4 h4 hB4 hf5 hn5 n4
  go_wp2_with fail
  rw [rounds_succ]
  have e6 := cell_blk hs5 3
  simp only [List.getElem?_toArray, List.getElem?_cons_zero, List.getElem?_cons_succ] at e6
  go_wp2_with fail
  refine (Ca.out _ g _ _ h5 L3.out).mono ?_
  rintro e w6 ⟨rfl, v6, h6, hf6, hn6⟩
  have hs6 := hf6.at_ hs5 (h5.apart hs5 (by decide) (by decide))
  have hB6 := hB5.fresh hf6 (WS_fresh HG.out n5)
  have n6 := n5.next hB5.size hn6
  clear e6 hs5 h5 hB5 hf6 hn6 n5
  go_wp2_with fail
  rw [rounds_succ]
  have e7 := cell_blk hs6 4
  simp only [List.getElem?_toArray, List.getElem?_cons_zero, List.getElem?_cons_succ] at e7
  go_wp2_with fail
  refine (Cc.out _ g _ _ h6 L4.out).mono ?_
  rintro e w7 ⟨rfl, v7, h7, hf7, hn7⟩
  have hs7 := hf7.at_ hs6 (h6.apart hs6 (by decide) (by decide))
  have hB7 := hB6.fresh hf7 (WS_fresh HG.out n6)
  have n7 := n6.next hB6.size hn7
  clear e7 hs6 h6 hB6 hf7 hn7 n6
  go_wp2_with fail
  rw [rounds_succ]
  have e8 := cell_blk hs7 5
  simp only [List.getElem?_toArray, List.getElem?_cons_zero, List.getElem?_cons_succ] at e8
  go_wp2_with fail
  refine (CN.out _ g _ _ h7 L5.out).mono ?_
  rintro e w8 ⟨rfl, v8, h8, hf8, hn8⟩
  have hs8 := hf8.at_ hs7 (h7.apart hs7 (by decide) (by decide))
  have hB8 := hB7.fresh hf8 (WS_fresh HG.out n7)
  have n8 := n7.next hB7.size hn8
  clear e8 hs7 h7 hB7 hf8 hn8 n7
  go_wp2_with fail
  rw [rounds_succ]
  have HW8 := hid h8
  have HF8 := hid (HA2.out.trans hB8)
  clear hs8 h8 hB8 n8
  obtain ⟨HD, hHD⟩ : ∃ HD, [] ++ xk ++ xv ++ xn ++ xa ++ xc ++ xN = HD := ⟨_, rfl⟩
  rw [hHD] at HW8 LL HEN HES
  clear hHD L0 L1 L2 L3 L4 L5 Ck Cv Cn Ca Cc CN
  have OC := hid (fun (W : World) (hw : Wr W g v8 HD) => wOut_calls W g v8 HD hw)
  obtain ⟨lh, hlh⟩ : ∃ lh, HD.length = lh := ⟨_, rfl⟩
  obtain ⟨lj, hlj⟩ : ∃ lj, J.length = lj := ⟨_, rfl⟩
  have hLH := LL.out
  rw [hlh] at hLH HEN
  rw [hlj] at HEN hbl
  have hsz : (⟨HD.toArray⟩ : ByteArray).size = lh := by
    show HD.toArray.size = _
    rw [List.size_toArray, hlh]
  have hsj : (⟨J.toArray⟩ : ByteArray).size = lj := by
    show J.toArray.size = _
    rw [List.size_toArray, hlj]
  have HLH := hid hlh
  have HLJ := hid hlj
  clear hlh hlj
  by_cases hbig : 60000 < lh + lj + 4
  · have d9 : decide ((60000 : Int) < (lh : Int) + (lj : Int) + 4) = true := decide_eq_true (by omega)
    have HR : Hid (EN = 2 ∧ ES = ⟨#[]⟩) := hid (by
      have h9 := HEN.out
      rw [if_pos hbig] at h9
      exact ⟨h9, HEZ.out (by rw [h9]; decide)⟩)
    clear hbig
    go_wp2_with (first
      | (go_at_call 22; refine (OC.out _ HW8.out).mono ?_; rintro e wO ⟨rfl, rfl⟩))
    go_ret2
    exact ⟨by rw [HR.out.1, HR.out.2]; rfl, HF8.out⟩
  · have d9 : decide ((60000 : Int) < (lh : Int) + (lj : Int) + 4) = false := decide_eq_false (by omega)
    have HR : Hid (EN = 0 ∧ ES = sealS ⟨(HD ++ J).toArray⟩) := hid (by
      have h9 := HEN.out
      rw [if_neg hbig] at h9
      exact ⟨h9, HES.out h9⟩)
    have g9 : ¬ 9223372036854775807 < lh + lj := by omega
    have hs1 : (⟨(HD ++ J).toArray⟩ : ByteArray).size ≤ 70368744177664 := by
      show (HD ++ J).toArray.size ≤ _
      rw [List.size_toArray, List.length_append, HLH.out, HLJ.out]
      omega
    have SC := hid (fun (W : World) => seal_calls W ⟨(HD ++ J).toArray⟩ hs1)
    rw [← str_app] at SC
    clear hbig hs1
    go_wp2_with (first
      | (go_at_call 22; refine (OC.out _ HW8.out).mono ?_; rintro e wO ⟨rfl, rfl⟩)
      | (go_at_call 23; refine (SC.out _).mono ?_; rintro e w9 ⟨rfl, hf9⟩))
    go_ret2
    exact ⟨by rw [HR.out.1, HR.out.2, ← str_app]; rfl, HF8.out.trans hf9⟩
theorem encode23_calls (w : World) (k v n a c : Int) (u : Value) (l : List En) (hl : Sv w u l) (hok : ∀ x ∈ l, x.Ok) (hn : l.length ≤ 1466015503701) (hb : Hb l) :
    Calls Try.prog 7 #[.agg #[.int .i64 k, .int .i64 v, .int .i64 n, .int .i64 a, .int .i64 c, u]] w fun e w' => e = .returned (.tuple #[.string (enS k v n a c l), .int .i64 (enE k v n a c l)]) ∧ Fr w w' (fun _ => False) := by
  cases h : okM k v n a c l with
  | false =>
    have he : enE k v n a c l = 4 := if_pos h
    rw [enS_no (by rw [he]; decide), he]
    exact encode23_no w k v n a c u l hl hok hn hb h
  | true =>
    obtain ⟨f1, f2, f3, f4, f5, _⟩ := okM_facts h
    obtain ⟨k, rfl⟩ : ∃ k' : Nat, k = k' := ⟨k.toNat, by omega⟩
    obtain ⟨v, rfl⟩ : ∃ k' : Nat, v = k' := ⟨v.toNat, by omega⟩
    obtain ⟨n, rfl⟩ : ∃ k' : Nat, n = k' := ⟨n.toNat, by omega⟩
    obtain ⟨a, rfl⟩ : ∃ k' : Nat, a = k' := ⟨a.toNat, by omega⟩
    obtain ⟨c, rfl⟩ : ∃ k' : Nat, c = k' := ⟨c.toNat, by omega⟩
    exact encode23_yes w k v n a c u l hl hok hn hb h
end Go.Proofs.Ytmnmmmoeeapeiaa.Cw

