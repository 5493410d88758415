/- The reference's Encode of a message. Own work. -/
import Derived.Test.YtmnmmmoeeapeiaaJbb
namespace Go.Proofs.Ytmnmmmoeeapeiaa.Cw
open Go.RowKit
set_option linter.unusedVariables false
set_option linter.unusedSimpArgs false

/-- The numbers ahead of a message's entries. -/
def hdB (k v n a c : Nat) (len : Nat) : List UInt8 := uv k ++ uv v ++ uv n ++ uv a ++ uv c ++ uv len
/-- What Encode answers. -/
def enE (k v n a c : Int) (l : List En) : Int := if okM k v n a c l = false then 4 else if 60000 < (hdB k.toNat v.toNat n.toNat a.toNat c.toNat l.length).length + (jnB l).length + 4 then 2 else 0
def enS (k v n a c : Int) (l : List En) : ByteArray := if enE k v n a c l = 0 then sealS ⟨(hdB k.toNat v.toNat n.toNat a.toNat c.toNat l.length ++ jnB l).toArray⟩ else ⟨#[]⟩
theorem enS_no {k v n a c : Int} {l : List En} (h : ¬ enE k v n a c l = 0) : enS k v n a c l = ⟨#[]⟩ := if_neg h
theorem okM_facts {k v n a c : Int} {l : List En} (h : okM k v n a c l = true) : (1 ≤ k ∧ k ≤ 7) ∧ (0 ≤ v ∧ v ≤ 1099511627776) ∧ (0 ≤ n ∧ n ≤ 1099511627776) ∧ (0 ≤ a ∧ a ≤ 1099511627776) ∧ (0 ≤ c ∧ c ≤ 1099511627776) ∧ arB l = true ∧ srw l = true := by
  unfold okM okN inB at h
  rw [rs_arB] at h
  simp only [Bool.and_eq_true, decide_eq_true_eq] at h
  obtain ⟨⟨h1, h2⟩, ⟨⟨⟨h3, h4⟩, h5⟩, h6⟩, h7⟩ := h
  exact ⟨h3, h4, h5, h6, h7, h1, h2⟩
theorem lastM {w0 w : World} {b : Nat} {v0 v1 v2 v3 v4 v5 : Value} (h : w.cell? ⟨b, 0, none⟩ = some v0 ∧ w.cell? ⟨b, 1, none⟩ = some v1 ∧ w.cell? ⟨b, 2, none⟩ = some v2 ∧ w.cell? ⟨b, 3, none⟩ = some v3 ∧ w.cell? ⟨b, 4, none⟩ = some v4 ∧ w.cell? ⟨b, 5, none⟩ = some v5 ∧ Fr w0 w (fun _ => False)) :
    w.cell? ⟨b, 5, none⟩ = some v5 ∧ Fr w0 w (fun _ => False) := ⟨h.2.2.2.2.2.1, h.2.2.2.2.2.2⟩
theorem keepM {w0 w w' : World} {b : Nat} {v0 v1 v2 v3 v4 v5 : Value} (hf : Fr w w' (fun _ => False)) (h : w.cell? ⟨b, 0, none⟩ = some v0 ∧ w.cell? ⟨b, 1, none⟩ = some v1 ∧ w.cell? ⟨b, 2, none⟩ = some v2 ∧ w.cell? ⟨b, 3, none⟩ = some v3 ∧ w.cell? ⟨b, 4, none⟩ = some v4 ∧ w.cell? ⟨b, 5, none⟩ = some v5 ∧ Fr w0 w (fun _ => False)) :
    w'.cell? ⟨b, 0, none⟩ = some v0 ∧ w'.cell? ⟨b, 1, none⟩ = some v1 ∧ w'.cell? ⟨b, 2, none⟩ = some v2 ∧ w'.cell? ⟨b, 3, none⟩ = some v3 ∧ w'.cell? ⟨b, 4, none⟩ = some v4 ∧ w'.cell? ⟨b, 5, none⟩ = some v5 ∧ Fr w0 w' (fun _ => False) := by
  obtain ⟨h0, h1, h2, h3, h4, h5, h9⟩ := h
  exact ⟨cell_fr h0 hf, cell_fr h1 hf, cell_fr h2 hf, cell_fr h3 hf, cell_fr h4 hf, cell_fr h5 hf, h9.trans hf⟩

set_option maxRecDepth 100000 in
set_option maxHeartbeats 6400000 in
theorem refEncode23_no (w : World) (k v n a c : Int) (u : Value) (l : List En) (hl : Sv w u l) (hn : l.length ≤ 1466015503701) (h : okM k v n a c l = false) :
    Calls Try.prog 12 #[.agg #[.int .i64 k, .int .i64 v, .int .i64 n, .int .i64 a, .int .i64 c, u]] w fun e w' => e = .returned (.tuple #[.string ⟨#[]⟩, .int .i64 4]) ∧ Fr w w' (fun _ => False) := by
  have RC := hid (fun (W : World) (hf : Fr w W (fun _ => False)) => refRight23_calls W k v n a c u l (hl.fr hf) hn)
  rw [h] at RC
  obtain ⟨A, cap, rfl, _⟩ := hl
  generalize l.length = N at *
  clear h
  go_enter Try.func12, Try.ntmps12
  go_wp2_with fail
  refine (RC.out _ ((Fr.refl w _).alloc _)).mono ?_
  rintro e w1 ⟨rfl, hf1⟩
  go_wp2_with fail
  go_ret2
  exact ⟨rfl, ((Fr.refl w _).alloc _).trans hf1⟩

set_option maxRecDepth 100000 in
set_option maxHeartbeats 6400000 in
theorem refEncode23_yes (w : World) (k v n a c : Nat) (u : Value) (l : List En) (hl : Sv w u l) (hok : ∀ x ∈ l, x.Ok) (hn : l.length ≤ 1466015503701) (hb : Hb l) (h : okM k v n a c l = true) :
    Calls Try.prog 12 #[.agg #[.int .i64 k, .int .i64 v, .int .i64 n, .int .i64 a, .int .i64 c, u]] w fun e w' => e = .returned (.tuple #[.string (enS k v n a c l), .int .i64 (enE k v n a c l)]) ∧ Fr w w' (fun _ => False) := by
  have RC := hid (fun (W : World) (hf : Fr w W (fun _ => False)) => refRight23_calls W k v n a c u l (hl.fr hf) hn)
  rw [h] at RC
  have SZ := hid (fun (W : World) (hf : Fr w W (fun _ => False)) => refSize_calls W u l (hl.fr hf) hok hn hb)
  obtain ⟨⟨_, f1⟩, ⟨_, f2⟩, ⟨_, f3⟩, ⟨_, f4⟩, ⟨_, f5⟩, har, _⟩ := okM_facts h
  have hbl := hb.all har
  have hj : (jnS l).size = (jnB l).length ∧ jnE l = 0 := by
    rw [jnS_size]
    unfold jnE
    rw [har]
    exact ⟨rfl, rfl⟩
  rw [hj.1, hj.2] at SZ
  have UA := hid (fun w => refUint_calls w k (by omega))
  have UB := hid (fun w => refUint_calls w v (by omega))
  have UC := hid (fun w => refUint_calls w n (by omega))
  have UD := hid (fun w => refUint_calls w a (by omega))
  have UE := hid (fun w => refUint_calls w c (by omega))
  have UF := hid (fun w => refUint_calls w l.length (by omega))
  have la := uv_len10 k (by omega)
  have lb := uv_len10 v (by omega)
  have lc := uv_len10 n (by omega)
  have ld := uv_len10 a (by omega)
  have le := uv_len10 c (by omega)
  have lf := uv_len10 l.length (by omega)
  have HEN : Hid (enE k v n a c l = if 60000 < (uv k ++ uv v ++ uv n ++ uv a ++ uv c ++ uv l.length).length + (jnB l).length + 4 then 2 else 0) := hid (by
    unfold enE
    rw [if_neg (by rw [h]; decide)]
    rfl)
  have HES : Hid (enE k v n a c l = 0 → enS k v n a c l = sealS ⟨((uv k ++ uv v ++ uv n ++ uv a ++ uv c ++ uv l.length) ++ jnB l).toArray⟩) := hid (fun e => if_pos e)
  have HEZ : Hid (¬ enE k v n a c l = 0 → enS k v n a c l = ⟨#[]⟩) := hid (fun e => if_neg e)
  have HX := hid (fun (i : Nat) (hi : i < l.length) => (⟨l[i], List.getElem?_eq_getElem hi, hok _ (List.getElem_mem hi), (by
    unfold arB at har
    have := List.all_eq_true.1 har _ (List.getElem_mem hi)
    exact of_decide_eq_true this)⟩ : ∃ x, l[i]? = some x ∧ x.Ok ∧ x.R))
  have HLE := hid (fun i => jnB_le l i)
  have HTK := hid (fun (i : Nat) (x : En) (hx : l[i]? = some x) => jnB_take hx)
  have HTA : Hid (jnB (l.take l.length) = jnB l) := hid (by rw [List.take_length])
  have HSV := hid hl
  obtain ⟨A, cap, rfl, h1, h2, h3⟩ := hl
  have HNN := hid (fun (i : Nat) (x : En) (hx : l[i]? = some x) => (fun e => by rw [e] at hx; simp at hx : ¬ l = []))
  have HA := hid (fun hn => h3 hn)
  clear h3 hok har h hj f1 f2 f3 f4 f5
  generalize enE k v n a c l = EN at *
  generalize enS k v n a c l = ES at *
  generalize uv k = xa at *
  generalize uv v = xb at *
  generalize uv n = xc at *
  generalize uv a = xd at *
  generalize uv c = xe at *
  generalize uv l.length = xf at *
  have HLN : Hid True := hid True.intro
  generalize hN : l.length = N at *
  clear hN
  obtain ⟨J, hJ⟩ : ∃ J, (jnB l).length = J := ⟨_, rfl⟩
  rw [hJ] at SZ HEN hbl
  have HJ := hid hJ
  clear hJ
  have g1 : ¬ 9223372036854775807 < xa.length + xb.length := by omega
  have g2 : ¬ 9223372036854775807 < xa.length + xb.length + xc.length := by omega
  have g3 : ¬ 9223372036854775807 < xa.length + xb.length + xc.length + xd.length := by omega
  have g4 : ¬ 9223372036854775807 < xa.length + xb.length + xc.length + xd.length + xe.length := by omega
  have g5 : ¬ 9223372036854775807 < xa.length + xb.length + xc.length + xd.length + xe.length + xf.length := by omega
  have LL : Hid (xa.length + xb.length + xc.length + xd.length + xe.length + xf.length ≤ 60) := hid (by omega)
  clear la lb lc ld le lf
  go_enter Try.func12, Try.ntmps12
  go_wp2_with fail
  refine (RC.out _ ((Fr.refl w _).alloc _)).mono ?_
  rintro e w1 ⟨rfl, hf1⟩
  have hx1 := hf1.at_ (alloc_new w _) (fun x => x)
  have d0 := cell_blk hx1 0
  have d1 := cell_blk hx1 1
  have d2 := cell_blk hx1 2
  have d3 := cell_blk hx1 3
  have d4 := cell_blk hx1 4
  have d5 := cell_blk hx1 5
  simp only [List.getElem?_toArray, List.getElem?_cons_zero, List.getElem?_cons_succ] at d0 d1 d2 d3 d4 d5
  have hA := ((Fr.refl w (fun _ => False)).alloc _).trans hf1
  clear hf1 hx1
  go_wp2_with fail
  go_region_held3 (fun w' => w'.cell? ⟨w.heap.size, 0, none⟩ = some (.int .i64 k) ∧ w'.cell? ⟨w.heap.size, 1, none⟩ = some (.int .i64 v) ∧ w'.cell? ⟨w.heap.size, 2, none⟩ = some (.int .i64 n) ∧ w'.cell? ⟨w.heap.size, 3, none⟩ = some (.int .i64 a) ∧ w'.cell? ⟨w.heap.size, 4, none⟩ = some (.int .i64 c) ∧ w'.cell? ⟨w.heap.size, 5, none⟩ = some (.slice A N cap) ∧ Fr w w' (fun _ => False)) (first | exact ⟨d0, d1, d2, d3, d4, d5, hA.drew⟩ | exact ⟨d0, d1, d2, d3, d4, d5, hA⟩ | exact keepM (by assumption) (by assumption))
    (first
      | (go_at_call_of 28 (Value.int .i64 k); refine (UA.out _).mono ?_; rintro e w' ⟨rfl, hf⟩)
      | (go_at_call_of 28 (Value.int .i64 v); refine (UB.out _).mono ?_; rintro e w' ⟨rfl, hf⟩)
      | (go_at_call_of 28 (Value.int .i64 n); refine (UC.out _).mono ?_; rintro e w' ⟨rfl, hf⟩)
      | (go_at_call_of 28 (Value.int .i64 a); refine (UD.out _).mono ?_; rintro e w' ⟨rfl, hf⟩)
      | (go_at_call_of 28 (Value.int .i64 c); refine (UE.out _).mono ?_; rintro e w' ⟨rfl, hf⟩)
      | (go_at_call_of 28 (Value.int .i64 N); refine (UF.out _).mono ?_; rintro e w' ⟨rfl, hf⟩))
  obtain ⟨d5, hF⟩ := lastM (w0 := w) (w := w') (b := w.heap.size) (v0 := .int .i64 k) (v1 := .int .i64 v) (v2 := .int .i64 n) (v3 := .int .i64 a) (v4 := .int .i64 c) (v5 := .slice A N cap) (by assumption)
  simp only [str_app]
  have hLH : (xa ++ xb ++ xc ++ xd ++ xe ++ xf).length ≤ 60 := by
    simp only [List.length_append]
    exact LL.out
  have HDW : ∃ HD, xa ++ xb ++ xc ++ xd ++ xe ++ xf = HD := ⟨_, rfl⟩
  clear UA UB UC UD UE UF g1 g2 g3 g4 g5 LL
  clear RC hA
  clear d0 d1 d2 d3 d4
  obtain ⟨HD, hHD⟩ := HDW
  rw [hHD] at hLH HEN HES ⊢
  clear hHD
  have HF := hid hF
  have HD5 := hid d5
  clear hF d5
  obtain ⟨lh, hlh⟩ : ∃ lh, HD.length = lh := ⟨_, rfl⟩
  rw [hlh] at hLH HEN
  have hsz : (⟨HD.toArray⟩ : ByteArray).size = lh := by
    show HD.toArray.size = _
    rw [List.size_toArray, hlh]
  have HLH := hid hlh
  clear hlh
  have q5 := HD5.out
  by_cases hbig : 60000 < lh + J + 4
  · have d9 : decide ((60000 : Int) < (lh : Int) + (J : Int) + 4) = true := decide_eq_true (by omega)
    have HR : Hid (EN = 2 ∧ ES = ⟨#[]⟩) := hid (by
      have h9 := HEN.out
      rw [if_pos hbig] at h9
      exact ⟨h9, HEZ.out (by rw [h9]; decide)⟩)
    clear hbig
    go_wp2_with (first
      | (go_at_call 15; refine (SZ.out _ HF.out).mono ?_; rintro e w3 ⟨rfl, hf3⟩))
    go_ret2
    exact ⟨by rw [HR.out.1, HR.out.2]; rfl, HF.out.trans hf3⟩
  · have d9 : decide ((60000 : Int) < (lh : Int) + (J : Int) + 4) = false := decide_eq_false (by omega)
    have HR : Hid (EN = 0 ∧ ES = sealS ⟨(HD ++ jnB l).toArray⟩) := hid (by
      have h9 := HEN.out
      rw [if_neg hbig] at h9
      exact ⟨h9, HES.out h9⟩)
    have hJ9 : J ≤ 60000 := by omega
    clear hbig
    go_wp2_with (first
      | (go_at_call 15; refine (SZ.out _ HF.out).mono ?_; rintro e w3 ⟨rfl, hf3⟩; have q5 := cell_fr HD5.out hf3))
    have HF3 := hid (HF.out.trans hf3)
    clear hf3 q5
    go_loopw [4, 53] (fun sv t wr => ∃ i : Nat, i ≤ N ∧ t = .int .i64 i ∧ sv = .string ⟨(HD ++ jnB (l.take i)).toArray⟩ ∧ Fr w wr (fun _ => False)) (fun _ t _ => N - (intOf t).toNat)
    case atStart => exact ⟨0, by omega, rfl, by show _ = Value.string ⟨(HD ++ []).toArray⟩; rw [List.append_nil], HF3.out⟩
    case round =>
      obtain ⟨i, hi, rfl, rfl, hf⟩ := hrel
      by_cases hlt : i < N
      · obtain ⟨x, hx, hok, hr⟩ := HX.out i hlt
        obtain ⟨b, off, rfl, hbb, hat⟩ := HA.out (HNN.out i x hx)
        obtain ⟨c0, c1, c2, c3, c4, c5, c6, c7, c8⟩ := (hat.fr hf).nine hx
        have HFR := hid hf
        have EC := hid (fun (W : World) => refEncE_calls W x hok)
        rw [(S_yes hr).1, (S_yes hr).2] at EC
        have htk := HTK.out i x hx
        have hle1 := HLE.out (i + 1)
        rw [htk, List.length_append, HJ.out] at hle1
        obtain ⟨xB, hxB⟩ : ∃ xB, x.B = xB := ⟨_, rfl⟩
        rw [hxB] at EC hle1 htk
        obtain ⟨tb, htb⟩ : ∃ tb, HD ++ jnB (l.take i) = tb := ⟨_, rfl⟩
        have htl : tb.length + xB.length ≤ 60060 := by
          rw [← htb, List.length_append, HLH.out]
          omega
        have HNX : Hid (tb ++ xB = HD ++ jnB (l.take (i + 1))) := hid (by rw [htk, ← htb, List.append_assoc])
        rw [htb]
        have hs1 : (⟨tb.toArray⟩ : ByteArray).size = tb.length := by
          show tb.toArray.size = _
          rw [List.size_toArray]
        have hs2 : (⟨xB.toArray⟩ : ByteArray).size = xB.length := by
          show xB.toArray.size = _
          rw [List.size_toArray]
        have g9 : ¬ 9223372036854775807 < tb.length + xB.length := by omega
        clear hf hx hat hok hr htk hle1 hxB htb
        obtain ⟨za, zb, zc, zk, zt, zn, zp, zq, zr⟩ := x
        unfold En.V enV at EC
        simp only at c0 c1 c2 c3 c4 c5 c6 c7 c8 EC
        go_wp2_with (first
          | (go_at_call 29
             refine (EC.out _).mono ?_
             rintro e w5 ⟨rfl, hf5⟩))
        go_roundw
        case rel => exact ⟨i + 1, by omega, by go_num, by rw [← HNX.out, str_app], HFR.out.trans (Fr.trans (Fr.alloc (Fr.refl wr _) _) hf5)⟩
        case measure => simp [intOf]; omega
      · have he : i = N := by omega
        subst he
        have HFR := hid hf
        rw [HTA.out]
        have hs1 : (⟨(HD ++ jnB l).toArray⟩ : ByteArray).size ≤ 70368744177664 := by
          show (HD ++ jnB l).toArray.size ≤ _
          rw [List.size_toArray, List.length_append, HLH.out, HJ.out]
          omega
        have SC := hid (fun (W : World) => refSeal_calls W ⟨(HD ++ jnB l).toArray⟩ hs1)
        clear hf hs1
        generalize (⟨(HD ++ jnB l).toArray⟩ : ByteArray) = FT at *
        go_wp2_with (first
          | (go_at_call 30; refine (SC.out _).mono ?_; rintro e w5 ⟨rfl, hf5⟩))
        go_ret2
        exact ⟨by rw [HR.out.1, HR.out.2]; rfl, HFR.out.trans hf5⟩
theorem refEncode23_calls (w : World) (k v n a c : Int) (u : Value) (l : List En) (hl : Sv w u l) (hok : ∀ x ∈ l, x.Ok) (hn : l.length ≤ 1466015503701) (hb : Hb l) :
    Calls Try.prog 12 #[.agg #[.int .i64 k, .int .i64 v, .int .i64 n, .int .i64 a, .int .i64 c, u]] w fun e w' => e = .returned (.tuple #[.string (enS k v n a c l), .int .i64 (enE k v n a c l)]) ∧ Fr w w' (fun _ => False) := by
  cases h : okM k v n a c l with
  | false =>
    have he : enE k v n a c l = 4 := if_pos h
    rw [enS_no (by rw [he]; decide), he]
    exact refEncode23_no w k v n a c u l hl hn h
  | true =>
    obtain ⟨f1, f2, f3, f4, f5, _⟩ := okM_facts h
    obtain ⟨k, rfl⟩ : ∃ k' : Nat, k = k' := ⟨k.toNat, by omega⟩
    obtain ⟨v, rfl⟩ : ∃ k' : Nat, v = k' := ⟨v.toNat, by omega⟩
    obtain ⟨n, rfl⟩ : ∃ k' : Nat, n = k' := ⟨n.toNat, by omega⟩
    obtain ⟨a, rfl⟩ : ∃ k' : Nat, a = k' := ⟨a.toNat, by omega⟩
    obtain ⟨c, rfl⟩ : ∃ k' : Nat, c = k' := ⟨c.toNat, by omega⟩
    exact refEncode23_yes w k v n a c u l hl hok hn hb h
end Go.Proofs.Ytmnmmmoeeapeiaa.Cw

