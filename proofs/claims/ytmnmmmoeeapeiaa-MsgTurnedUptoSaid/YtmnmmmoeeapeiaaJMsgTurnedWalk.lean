/- MsgTurned by a walk over contracts. Written by mkmgq.py. Own work. -/
import Derived.Test.YtmnmmmoeeapeiaaJMgX
import Derived.Deep.Cut
import Derived.StillTailTactics
namespace Go.Proofs.Ytmnmmmoeeapeiaa.Cw
open Go.RowKit
set_option linter.unusedVariables false
set_option linter.unusedSimpArgs false

set_option maxRecDepth 100000 in
set_option maxHeartbeats 6400000 in
theorem turned_bad (w : World) (k v n a c : Int) (A : Option Addr) (N cap : Nat) (l : List En) (hl : l.length = N) (hS : Sv w (.slice A N cap) l) (hO : ∀ x ∈ l, x.Ok) (hb : N ≤ 1048576) (att ct : Int) (hE : ¬ enE k v n a c l = 0) :
    Calls Try.prog 4 #[.agg #[.int .i64 k, .int .i64 v, .int .i64 n, .int .i64 a, .int .i64 c, .slice A N cap], .int .i64 att, .int .i64 ct] w fun e w' => e = .returned (.bool true) ∧ Fr w w' (fun _ => False) := by
  have EC := hid (fun (W : World) (hf : Fr w W (fun _ => False)) => encode23_calls W k v n a c (.slice A N cap) l (hS.fr hf) hO (by omega) (hb_of hO (by omega)))
  rw [enS_no hE] at EC
  generalize enE k v n a c l = EL at *
  have e1 : (EL != 0) = true := bne_iff_ne.2 hE
  clear hS hl hO hb
  go_enter Try.func4, Try.ntmps4
  go_wp2_with fail
  refine (EC.out _ ((Fr.refl w _).alloc _)).mono ?_
  rintro e w1 ⟨rfl, hf1⟩
  have HA1 := hid (((Fr.refl w (fun _ => False)).alloc (.cells #[.int .i64 k, .int .i64 v, .int .i64 n, .int .i64 a, .int .i64 c, .slice A N cap] 24)).trans hf1)
  clear hf1 EC
  go_wp2_with (first
    | (go_at_call 11; refine (speaks23_calls _).mono ?_; rintro e wb ⟨rfl, hfb⟩))
  go_ret
  exact ⟨rfl, HA1.out.trans hfb⟩

set_option maxRecDepth 100000 in
set_option maxHeartbeats 12800000 in
theorem turned_good (w : World) (k v n a c : Int) (A : Option Addr) (N cap : Nat) (l : List En) (hl : l.length = N) (hS : Sv w (.slice A N cap) l) (hO : ∀ x ∈ l, x.Ok) (hb : N ≤ 1048576) (att ct : Int) (hE : enE k v n a c l = 0) (p q : Nat)
    (hp : p < 8 * (enS k v n a c l).size) (hat : ((att < 0 ∨ 8 * ((enS k v n a c l).size : Int) ≤ att) ∧ p = 0) ∨ att = p) (hq : q ≤ 3) (hct : ((ct < 0 ∨ 3 < ct) ∧ q = 3) ∨ ct = q) :
    Calls Try.prog 4 #[.agg #[.int .i64 k, .int .i64 v, .int .i64 n, .int .i64 a, .int .i64 c, .slice A N cap], .int .i64 att, .int .i64 ct] w fun e w' => e = .returned (.bool true) ∧ Fr w w' (fun _ => False) := by
  have EC := hid (fun (W : World) (hf : Fr w W (fun _ => False)) => encode23_calls W k v n a c (.slice A N cap) l (hS.fr hf) hO (by omega) (hb_of hO (by omega)))
  rw [hE] at EC
  obtain ⟨⟨_, _, hs⟩, hz⟩ := enc_of hO hE
  have hz4 : 4 ≤ (enS k v n a c l).size := by rw [hs, sealS_size]; omega
  generalize (⟨(hdB k.toNat v.toNat n.toNat a.toNat c.toNat l.length ++ jnB l).toArray⟩ : ByteArray) = t at hs
  have HTN : Hid (∀ (ix : Nat) (b b' : UInt8), (enS k v n a c l).data.toList[ix]? = some b' → b ≠ b' → NoEnc ⟨((enS k v n a c l).data.toList.set ix b).toArray⟩) := hid (fun ix b b' => by
    rw [hs]
    intro hi hb
    obtain ⟨hj, rfl⟩ := List.getElem?_eq_some_iff.1 hi
    exact noEnc_open (turned_no hj hb))
  have SZ := hid (fun (W : World) (u1 u2 : Value) (h1 : Sv W u1 []) (h2 : Sv W u2 []) => same23_calls W 0 0 0 0 0 u1 u2 [] [] h1 h2 (by simp) (by simp))
  rw [show decide (([] : List En) = []) = true from decide_eq_true rfl] at SZ
  have DN := hid (fun (W : World) (s : ByteArray) (h1 : s.size ≤ 60000) (h2 : NoEnc s) => (decode23_calls W s (by unfold maxLen; omega)).mono fun e w' h9 => decP_no h9 h1 h2)
  unfold Ans at DN
  generalize enS k v n a c l = SL at *
  have hne := full_of SL (by omega)
  clear hs hE hS hl hO hb
  go_enter Try.func4, Try.ntmps4
  go_wp2_with fail
  refine (EC.out _ ((Fr.refl w _).alloc _)).mono ?_
  rintro e w1 ⟨rfl, hf1⟩
  have HA1 := hid (((Fr.refl w (fun _ => False)).alloc (.cells #[.int .i64 k, .int .i64 v, .int .i64 n, .int .i64 a, .int .i64 c, .slice A N cap] 24)).trans hf1)
  clear hf1 EC
  obtain ⟨Z, hZ⟩ : ∃ Z, SL.size = Z := ⟨_, rfl⟩
  rw [hZ] at hp hat hz hz4
  have HZ := hid hZ

  rcases hat with ⟨h1 | h1, rfl⟩ | rfl
  case inl.inl =>
    go_upto_region 6 with fail
    clear h1
    have hcv := Lib.run_convert_string_bytes (P := Try.prog) w1 9 35 5 SL Try.underlying9 Try.underlying35 Try.underlying5
    obtain ⟨hbr, hfB⟩ := made_bytes w1 SL
    have hgrb : w.heap.size ≤ w1.heap.size := HA1.out.size
    generalize Lib.bytesWorld w1 5 SL = wB at *
    generalize grownCap w1 SL.size 0 5 = gc at *
    generalize w1.heap.size = rb at *
    have HBR := hid hbr
    have HAB := hid (HA1.out.trans hfB)
    clear hfB hbr
    go_upto_region 7 with fail
    obtain ⟨bb, hbb⟩ : ∃ bb, SL.data.toList[0]? = some bb := ⟨_, List.getElem?_eq_getElem (by rw [ba_len, HZ.out]; omega)⟩
    obtain ⟨bcell, bfree, hset⟩ := HBR.out.at_ hbb
    have HSET := hid (hset (tb bb 0))
    have HNE := hid (HTN.out 0 (tb bb 0) bb hbb (tb_ne bb (by omega)))
    clear hbb hset HTN 
    go_upto_region 8 with fail
    rw [tb_zero]
    have hcv2 := HSET.out.back gc
    rw [List.length_set, ba_len, HZ.out] at hcv2
    have hfC := Fr.set1 wB rb 0 (.int .u8 (((tb bb 0).toNat : Nat) : Int))
    have HAC := hid (HAB.out.fresh hfC (fun i hi => by omega))
    have hsz2 : (⟨(SL.data.toList.set 0 (tb bb 0)).toArray⟩ : ByteArray).size = Z := by
      show (SL.data.toList.set 0 (tb bb 0)).toArray.size = _
      rw [List.size_toArray, List.length_set, ba_len, HZ.out]
    generalize (⟨(SL.data.toList.set 0 (tb bb 0)).toArray⟩ : ByteArray) = S2 at *
    generalize wB.setCell ⟨rb, 0, none⟩ (.int .u8 (((tb bb 0).toNat : Nat) : Int)) = wC at *
    have DT := hid (fun (W : World) => DN.out W S2 (by omega) HNE.out)
    clear bcell bfree hfC hsz2 HAB HBR HSET HNE hcv 
    go_upto_region 9 with (first
      | (go_at_call 8; refine (DT.out _).mono ?_; rintro e w5 ⟨A2, cap2, rfl, hs5, hf5⟩))
    have hfX := (Fr.refl w5 (fun _ => False)).alloc (.cells #[.int .i64 0, .int .i64 0, .int .i64 0, .int .i64 0, .int .i64 0, .slice A2 0 cap2] 24)
    have HX := hid (alloc_new w5 (.cells #[.int .i64 0, .int .i64 0, .int .i64 0, .int .i64 0, .int .i64 0, .slice A2 0 cap2] 24))
    have HA6 := hid ((HAC.out.trans hf5).trans hfX)
    have HS6 := hid (hs5.fr hfX)
    clear hfX hs5 hf5 HAC DT
    generalize w5.alloc (.cells #[.int .i64 0, .int .i64 0, .int .i64 0, .int .i64 0, .int .i64 0, .slice A2 0 cap2] 24) = w6 at *
    generalize w5.heap.size = xb at *
    have DQ := hid (fun (W : World) => DN.out W (SL.extract 0 q) (by rw [ByteArray.size_extract]; omega) (cut_no SL q hq))
    have hq9 : q ≤ Z := by omega
    clear hcv2
    rcases hct with ⟨h2 | h2, rfl⟩ | rfl
    all_goals
      go_upto_region 11 with fail
      (try clear h2)
      go_upto_region 12 with (first
        | (go_at_call 8; refine (DQ.out _).mono ?_; rintro e w7 ⟨A3, cap3, rfl, hs7, hf7⟩))
      have hfY := (Fr.refl w7 (fun _ => False)).alloc (.cells #[.int .i64 0, .int .i64 0, .int .i64 0, .int .i64 0, .int .i64 0, .slice A3 0 cap3] 24)
      have HF8 := hid (hf7.trans hfY)
      have HA8 := hid (HA6.out.trans HF8.out)
      have HS8 := hid (HS6.out.fr HF8.out)
      obtain ⟨x0, x1, x2, x3, x4, x5⟩ := cells6 (HF8.out.at_ HX.out (fun x => x))
      clear hfY hf7 hs7 HF8 HX HS6 HA6 DQ
      generalize w7.alloc (.cells #[.int .i64 0, .int .i64 0, .int .i64 0, .int .i64 0, .int .i64 0, .slice A3 0 cap3] 24) = w8 at *
      go_wp2_with (first
        | (go_at_call 9; refine (SZ.out _ _ _ HS8.out (Sv.nil23 _)).mono ?_; rintro e wa ⟨rfl, hfa⟩; have HA9 := hid (HA8.out.trans hfa))
        | (go_at_call 11; refine (speaks23_calls _).mono ?_; rintro e wb ⟨rfl, hfb⟩))
      go_ret
      exact ⟨rfl, HA9.out.trans hfb⟩
  case inl.inr =>
    go_upto_region 6 with fail
    clear h1
    have hcv := Lib.run_convert_string_bytes (P := Try.prog) w1 9 35 5 SL Try.underlying9 Try.underlying35 Try.underlying5
    obtain ⟨hbr, hfB⟩ := made_bytes w1 SL
    have hgrb : w.heap.size ≤ w1.heap.size := HA1.out.size
    generalize Lib.bytesWorld w1 5 SL = wB at *
    generalize grownCap w1 SL.size 0 5 = gc at *
    generalize w1.heap.size = rb at *
    have HBR := hid hbr
    have HAB := hid (HA1.out.trans hfB)
    clear hfB hbr
    go_upto_region 7 with fail
    obtain ⟨bb, hbb⟩ : ∃ bb, SL.data.toList[0]? = some bb := ⟨_, List.getElem?_eq_getElem (by rw [ba_len, HZ.out]; omega)⟩
    obtain ⟨bcell, bfree, hset⟩ := HBR.out.at_ hbb
    have HSET := hid (hset (tb bb 0))
    have HNE := hid (HTN.out 0 (tb bb 0) bb hbb (tb_ne bb (by omega)))
    clear hbb hset HTN 
    go_upto_region 8 with fail
    rw [tb_zero]
    have hcv2 := HSET.out.back gc
    rw [List.length_set, ba_len, HZ.out] at hcv2
    have hfC := Fr.set1 wB rb 0 (.int .u8 (((tb bb 0).toNat : Nat) : Int))
    have HAC := hid (HAB.out.fresh hfC (fun i hi => by omega))
    have hsz2 : (⟨(SL.data.toList.set 0 (tb bb 0)).toArray⟩ : ByteArray).size = Z := by
      show (SL.data.toList.set 0 (tb bb 0)).toArray.size = _
      rw [List.size_toArray, List.length_set, ba_len, HZ.out]
    generalize (⟨(SL.data.toList.set 0 (tb bb 0)).toArray⟩ : ByteArray) = S2 at *
    generalize wB.setCell ⟨rb, 0, none⟩ (.int .u8 (((tb bb 0).toNat : Nat) : Int)) = wC at *
    have DT := hid (fun (W : World) => DN.out W S2 (by omega) HNE.out)
    clear bcell bfree hfC hsz2 HAB HBR HSET HNE hcv 
    go_upto_region 9 with (first
      | (go_at_call 8; refine (DT.out _).mono ?_; rintro e w5 ⟨A2, cap2, rfl, hs5, hf5⟩))
    have hfX := (Fr.refl w5 (fun _ => False)).alloc (.cells #[.int .i64 0, .int .i64 0, .int .i64 0, .int .i64 0, .int .i64 0, .slice A2 0 cap2] 24)
    have HX := hid (alloc_new w5 (.cells #[.int .i64 0, .int .i64 0, .int .i64 0, .int .i64 0, .int .i64 0, .slice A2 0 cap2] 24))
    have HA6 := hid ((HAC.out.trans hf5).trans hfX)
    have HS6 := hid (hs5.fr hfX)
    clear hfX hs5 hf5 HAC DT
    generalize w5.alloc (.cells #[.int .i64 0, .int .i64 0, .int .i64 0, .int .i64 0, .int .i64 0, .slice A2 0 cap2] 24) = w6 at *
    generalize w5.heap.size = xb at *
    have DQ := hid (fun (W : World) => DN.out W (SL.extract 0 q) (by rw [ByteArray.size_extract]; omega) (cut_no SL q hq))
    have hq9 : q ≤ Z := by omega
    clear hcv2
    rcases hct with ⟨h2 | h2, rfl⟩ | rfl
    all_goals
      go_upto_region 11 with fail
      (try clear h2)
      go_upto_region 12 with (first
        | (go_at_call 8; refine (DQ.out _).mono ?_; rintro e w7 ⟨A3, cap3, rfl, hs7, hf7⟩))
      have hfY := (Fr.refl w7 (fun _ => False)).alloc (.cells #[.int .i64 0, .int .i64 0, .int .i64 0, .int .i64 0, .int .i64 0, .slice A3 0 cap3] 24)
      have HF8 := hid (hf7.trans hfY)
      have HA8 := hid (HA6.out.trans HF8.out)
      have HS8 := hid (HS6.out.fr HF8.out)
      obtain ⟨x0, x1, x2, x3, x4, x5⟩ := cells6 (HF8.out.at_ HX.out (fun x => x))
      clear hfY hf7 hs7 HF8 HX HS6 HA6 DQ
      generalize w7.alloc (.cells #[.int .i64 0, .int .i64 0, .int .i64 0, .int .i64 0, .int .i64 0, .slice A3 0 cap3] 24) = w8 at *
      go_wp2_with (first
        | (go_at_call 9; refine (SZ.out _ _ _ HS8.out (Sv.nil23 _)).mono ?_; rintro e wa ⟨rfl, hfa⟩; have HA9 := hid (HA8.out.trans hfa))
        | (go_at_call 11; refine (speaks23_calls _).mono ?_; rintro e wb ⟨rfl, hfb⟩))
      go_ret
      exact ⟨rfl, HA9.out.trans hfb⟩
  case inr =>
    go_upto_region 6 with fail
    skip
    have hcv := Lib.run_convert_string_bytes (P := Try.prog) w1 9 35 5 SL Try.underlying9 Try.underlying35 Try.underlying5
    obtain ⟨hbr, hfB⟩ := made_bytes w1 SL
    have hgrb : w.heap.size ≤ w1.heap.size := HA1.out.size
    generalize Lib.bytesWorld w1 5 SL = wB at *
    generalize grownCap w1 SL.size 0 5 = gc at *
    generalize w1.heap.size = rb at *
    have HBR := hid hbr
    have HAB := hid (HA1.out.trans hfB)
    clear hfB hbr
    go_upto_region 7 with fail
    obtain ⟨ix, hix⟩ : ∃ ix, p / 8 = ix := ⟨_, rfl⟩
    obtain ⟨sh, hsh⟩ : ∃ sh, p % 8 = sh := ⟨_, rfl⟩
    have e2 : (p : Int).tdiv 8 = (ix : Int) := by rw [← hix]; exact Int.ofNat_tdiv _ _
    have e3 : (p : Int).tmod 8 = (sh : Int) := by rw [← hsh]; exact Int.ofNat_tmod _ _
    have hixZ : ix < Z := by omega
    have hsh8 : sh < 8 := by omega
    have hi0 : (0 : Int) ≤ (ix : Int) := by omega
    have hi1 : (ix : Int) < (Z : Int) := by omega
    have HTV := hid (turned_val2 (sh := sh) hsh8)
    obtain ⟨bb, hbb⟩ : ∃ bb, SL.data.toList[ix]? = some bb := ⟨_, List.getElem?_eq_getElem (by rw [ba_len, HZ.out]; omega)⟩
    obtain ⟨bcell, bfree, hset⟩ := HBR.out.at_ hbb
    have HSET := hid (hset (tb bb sh))
    have HNE := hid (HTN.out ix (tb bb sh) bb hbb (tb_ne bb (by omega)))
    clear hbb hset HTN hix hsh
    go_upto_region 8 with fail
    rw [HTV.out bb]
    have hcv2 := HSET.out.back gc
    rw [List.length_set, ba_len, HZ.out] at hcv2
    have hfC := Fr.set1 wB rb ix (.int .u8 (((tb bb sh).toNat : Nat) : Int))
    have HAC := hid (HAB.out.fresh hfC (fun i hi => by omega))
    have hsz2 : (⟨(SL.data.toList.set ix (tb bb sh)).toArray⟩ : ByteArray).size = Z := by
      show (SL.data.toList.set ix (tb bb sh)).toArray.size = _
      rw [List.size_toArray, List.length_set, ba_len, HZ.out]
    generalize (⟨(SL.data.toList.set ix (tb bb sh)).toArray⟩ : ByteArray) = S2 at *
    generalize wB.setCell ⟨rb, ix, none⟩ (.int .u8 (((tb bb sh).toNat : Nat) : Int)) = wC at *
    have DT := hid (fun (W : World) => DN.out W S2 (by omega) HNE.out)
    clear bcell bfree hfC hsz2 HAB HBR HSET HNE hcv e2 e3 hi0 hi1 HTV
    go_upto_region 9 with (first
      | (go_at_call 8; refine (DT.out _).mono ?_; rintro e w5 ⟨A2, cap2, rfl, hs5, hf5⟩))
    have hfX := (Fr.refl w5 (fun _ => False)).alloc (.cells #[.int .i64 0, .int .i64 0, .int .i64 0, .int .i64 0, .int .i64 0, .slice A2 0 cap2] 24)
    have HX := hid (alloc_new w5 (.cells #[.int .i64 0, .int .i64 0, .int .i64 0, .int .i64 0, .int .i64 0, .slice A2 0 cap2] 24))
    have HA6 := hid ((HAC.out.trans hf5).trans hfX)
    have HS6 := hid (hs5.fr hfX)
    clear hfX hs5 hf5 HAC DT
    generalize w5.alloc (.cells #[.int .i64 0, .int .i64 0, .int .i64 0, .int .i64 0, .int .i64 0, .slice A2 0 cap2] 24) = w6 at *
    generalize w5.heap.size = xb at *
    have DQ := hid (fun (W : World) => DN.out W (SL.extract 0 q) (by rw [ByteArray.size_extract]; omega) (cut_no SL q hq))
    have hq9 : q ≤ Z := by omega
    clear hcv2
    rcases hct with ⟨h2 | h2, rfl⟩ | rfl
    all_goals
      go_upto_region 11 with fail
      (try clear h2)
      go_upto_region 12 with (first
        | (go_at_call 8; refine (DQ.out _).mono ?_; rintro e w7 ⟨A3, cap3, rfl, hs7, hf7⟩))
      have hfY := (Fr.refl w7 (fun _ => False)).alloc (.cells #[.int .i64 0, .int .i64 0, .int .i64 0, .int .i64 0, .int .i64 0, .slice A3 0 cap3] 24)
      have HF8 := hid (hf7.trans hfY)
      have HA8 := hid (HA6.out.trans HF8.out)
      have HS8 := hid (HS6.out.fr HF8.out)
      obtain ⟨x0, x1, x2, x3, x4, x5⟩ := cells6 (HF8.out.at_ HX.out (fun x => x))
      clear hfY hf7 hs7 HF8 HX HS6 HA6 DQ
      generalize w7.alloc (.cells #[.int .i64 0, .int .i64 0, .int .i64 0, .int .i64 0, .int .i64 0, .slice A3 0 cap3] 24) = w8 at *
      go_wp2_with (first
        | (go_at_call 9; refine (SZ.out _ _ _ HS8.out (Sv.nil23 _)).mono ?_; rintro e wa ⟨rfl, hfa⟩; have HA9 := hid (HA8.out.trans hfa))
        | (go_at_call 11; refine (speaks23_calls _).mono ?_; rintro e wb ⟨rfl, hfb⟩))
      go_ret
      exact ⟨rfl, HA9.out.trans hfb⟩
theorem msgTurned_row (w : World) (k v n a c : Int) (u : Value) (l : List En) (att ct : Int) (hS : Sv w u l) (hO : ∀ x ∈ l, x.Ok) (hb : l.length ≤ 1048576) (b1 : -9223372036854775808 ≤ att) (b2 : att < 9223372036854775808) (b3 : -9223372036854775808 ≤ ct) (b4 : ct < 9223372036854775808) :
    Calls Try.prog 4 #[.agg #[.int .i64 k, .int .i64 v, .int .i64 n, .int .i64 a, .int .i64 c, u], .int .i64 att, .int .i64 ct] w fun e w' => e = .returned (.bool true) ∧ Fr w w' (fun _ => False) := by
  have hS2 := hS
  obtain ⟨A, cap, rfl, _⟩ := hS2
  by_cases hE : enE k v n a c l = 0
  · obtain ⟨⟨_, _, hs⟩, _⟩ := enc_of hO hE
    have hz4 : 4 ≤ (enS k v n a c l).size := by rw [hs, sealS_size]; omega
    by_cases h : att < 0 ∨ 8 * ((enS k v n a c l).size : Int) ≤ att
    · by_cases h2 : ct < 0 ∨ 3 < ct
      · exact turned_good w k v n a c A l.length cap l rfl hS hO hb att ct hE 0 3 (by omega) (.inl ⟨h, rfl⟩) (by omega) (.inl ⟨h2, rfl⟩)
      · exact turned_good w k v n a c A l.length cap l rfl hS hO hb att ct hE 0 ct.toNat (by omega) (.inl ⟨h, rfl⟩) (by omega) (.inr (by omega))
    · by_cases h2 : ct < 0 ∨ 3 < ct
      · exact turned_good w k v n a c A l.length cap l rfl hS hO hb att ct hE att.toNat 3 (by omega) (.inr (by omega)) (by omega) (.inl ⟨h2, rfl⟩)
      · exact turned_good w k v n a c A l.length cap l rfl hS hO hb att ct hE att.toNat ct.toNat (by omega) (.inr (by omega)) (by omega) (.inr (by omega))
  · exact turned_bad w k v n a c A l.length cap l rfl hS hO hb att ct hE
end Go.Proofs.Ytmnmmmoeeapeiaa.Cw
