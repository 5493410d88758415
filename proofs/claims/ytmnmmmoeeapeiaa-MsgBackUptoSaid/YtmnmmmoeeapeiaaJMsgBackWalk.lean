/- MsgBack by a walk over contracts. Written by mkmgz.py. Own work. -/
import Derived.Test.YtmnmmmoeeapeiaaJbq
import Derived.Deep.Cut
import Derived.Deep.RegionHeld3
namespace Go.Proofs.Ytmnmmmoeeapeiaa.Cw
open Go.RowKit
set_option linter.unusedVariables false
set_option linter.unusedSimpArgs false

theorem lastS23 {w0 w : World} {mb xb : Nat} {v0 v1 v2 v3 v4 v5 u0 u1 u2 u3 u4 u5 : Value} (h : w.cell? ⟨mb, 0, none⟩ = some v0 ∧ w.cell? ⟨mb, 1, none⟩ = some v1 ∧ w.cell? ⟨mb, 2, none⟩ = some v2 ∧ w.cell? ⟨mb, 3, none⟩ = some v3 ∧ w.cell? ⟨mb, 4, none⟩ = some v4 ∧ w.cell? ⟨mb, 5, none⟩ = some v5 ∧ w.cell? ⟨xb, 0, none⟩ = some u0 ∧ w.cell? ⟨xb, 1, none⟩ = some u1 ∧ w.cell? ⟨xb, 2, none⟩ = some u2 ∧ w.cell? ⟨xb, 3, none⟩ = some u3 ∧ w.cell? ⟨xb, 4, none⟩ = some u4 ∧ w.cell? ⟨xb, 5, none⟩ = some u5 ∧ Fr w0 w (fun _ => False)) : Fr w0 w (fun _ => False) := h.2.2.2.2.2.2.2.2.2.2.2.2
theorem keepS23 {w0 w w' : World} {mb xb : Nat} {v0 v1 v2 v3 v4 v5 u0 u1 u2 u3 u4 u5 : Value} (hf : Fr w w' (fun _ => False)) (h : w.cell? ⟨mb, 0, none⟩ = some v0 ∧ w.cell? ⟨mb, 1, none⟩ = some v1 ∧ w.cell? ⟨mb, 2, none⟩ = some v2 ∧ w.cell? ⟨mb, 3, none⟩ = some v3 ∧ w.cell? ⟨mb, 4, none⟩ = some v4 ∧ w.cell? ⟨mb, 5, none⟩ = some v5 ∧ w.cell? ⟨xb, 0, none⟩ = some u0 ∧ w.cell? ⟨xb, 1, none⟩ = some u1 ∧ w.cell? ⟨xb, 2, none⟩ = some u2 ∧ w.cell? ⟨xb, 3, none⟩ = some u3 ∧ w.cell? ⟨xb, 4, none⟩ = some u4 ∧ w.cell? ⟨xb, 5, none⟩ = some u5 ∧ Fr w0 w (fun _ => False)) : w'.cell? ⟨mb, 0, none⟩ = some v0 ∧ w'.cell? ⟨mb, 1, none⟩ = some v1 ∧ w'.cell? ⟨mb, 2, none⟩ = some v2 ∧ w'.cell? ⟨mb, 3, none⟩ = some v3 ∧ w'.cell? ⟨mb, 4, none⟩ = some v4 ∧ w'.cell? ⟨mb, 5, none⟩ = some v5 ∧ w'.cell? ⟨xb, 0, none⟩ = some u0 ∧ w'.cell? ⟨xb, 1, none⟩ = some u1 ∧ w'.cell? ⟨xb, 2, none⟩ = some u2 ∧ w'.cell? ⟨xb, 3, none⟩ = some u3 ∧ w'.cell? ⟨xb, 4, none⟩ = some u4 ∧ w'.cell? ⟨xb, 5, none⟩ = some u5 ∧ Fr w0 w' (fun _ => False) := by
  obtain ⟨h0, h1, h2, h3, h4, h5, h6, h7, h8, h9, h10, h11, h12⟩ := h
  exact ⟨cell_fr h0 hf, cell_fr h1 hf, cell_fr h2 hf, cell_fr h3 hf, cell_fr h4 hf, cell_fr h5 hf, cell_fr h6 hf, cell_fr h7 hf, cell_fr h8 hf, cell_fr h9 hf, cell_fr h10 hf, cell_fr h11 hf, h12.trans hf⟩

set_option maxRecDepth 100000 in
set_option maxHeartbeats 6400000 in
theorem back23_main (w : World) (k v n a c : Int) (A : Option Addr) (N cap : Nat) (l : List En) (hl : l.length = N) (hS : Sv w (.slice A N cap) l) (hO : ∀ x ∈ l, x.Ok) (hb : N ≤ 1048576) (s : ByteArray) (hs : s.size ≤ maxLen) :
    Calls Try.prog 3 #[.agg #[.int .i64 k, .int .i64 v, .int .i64 n, .int .i64 a, .int .i64 c, .slice A N cap], .string s] w fun e w' => e = .returned (.bool true) ∧ Fr w w' (fun _ => False) := by
  have EC := hid (fun (W : World) (hf : Fr w W (fun _ => False)) => encode23_calls W k v n a c (.slice A N cap) l (hS.fr hf) hO (by omega) (hb_of hO (by omega)))
  have RC := hid (fun (W : World) => ref23_calls W k v n a c A N cap)
  obtain ⟨k', v', n', a', c', l', z, D1, _, HFA, hlen⟩ := dec23_any s hs
  have D1 := hid D1
  have HFA := hid HFA
  have SM := hid (fun (W : World) (u1 u2 : Value) (h1 : Sv W u1 l) (h2 : Sv W u2 l) => same23_calls W k v n a c u1 u2 l l h1 h2 (by omega) (by omega))
  have SZ := hid (fun (W : World) (u1 u2 : Value) (h1 : Sv W u1 []) (h2 : Sv W u2 []) => same23_calls W 0 0 0 0 0 u1 u2 [] [] h1 h2 (by simp) (by simp))
  rw [show decide (l = l) = true from decide_eq_true rfl] at SM
  rw [show decide (([] : List En) = []) = true from decide_eq_true rfl] at SZ
  have DA := hid (fun (h : enE k v n a c l = 0) (W : World) => (decode23_calls W (enS k v n a c l) (by have := (enc_of hO h).2; unfold maxLen; omega)).mono fun e w' h9 => decP_yes h9 (enc_of hO h).2 (enc_of hO h).1)
  have HSM := hid (fun (W : World) (hf : Fr w W (fun _ => False)) => hS.fr hf)
  have HL : Hid (l'.length ≤ 60000) := hid hlen
  unfold Ans at D1 DA
  generalize enE k v n a c l = EL at *
  generalize enS k v n a c l = SL at *
  rw [hl] at DA
  clear hlen hs hS hl hO hb
  go_enter Try.func3, Try.ntmps3
  go_wp2_with fail
  refine (EC.out _ ((Fr.refl w _).alloc _)).mono ?_
  rintro e w1 ⟨rfl, hf1⟩
  have HA1 := hid (((Fr.refl w (fun _ => False)).alloc (.cells #[.int .i64 k, .int .i64 v, .int .i64 n, .int .i64 a, .int .i64 c, .slice A N cap] 24)).trans hf1)
  have HM1 := hid (hf1.at_ (alloc_new w (.cells #[.int .i64 k, .int .i64 v, .int .i64 n, .int .i64 a, .int .i64 c, .slice A N cap] 24)) (fun x => x))
  clear hf1
  generalize w.heap.size = mb at *
  by_cases hEL : EL = 0
  case neg =>
    have hEL1 : (EL == 0) = false := beq_eq_false_iff_ne.2 hEL
    clear DA SM RC EC HSM HM1
    go_wp2_with fail
    refine (D1.out _).mono ?_
    rintro e wd ⟨A2, cap2, rfl, hs2, hfd⟩
    have HAD := hid (HA1.out.trans hfd)
    rcases HFA.out with ⟨hz, rfl, rfl, rfl, rfl, rfl, rfl⟩ | ⟨rfl, hz, hE⟩
    · have HSD := hid (hs2.fr ((Fr.refl wd (fun _ => False)).alloc (.cells #[.int .i64 0, .int .i64 0, .int .i64 0, .int .i64 0, .int .i64 0, .slice A2 0 cap2] 24)))
      have HAE := hid (HAD.out.alloc (.cells #[.int .i64 0, .int .i64 0, .int .i64 0, .int .i64 0, .int .i64 0, .slice A2 0 cap2] 24))
      have hz1 : (z == 0) = false := beq_eq_false_iff_ne.2 hz
      clear hs2 hfd HFA D1 HL
      go_wp2_with (first
        | (go_at_call 9; refine (SZ.out _ _ _ HSD.out (Sv.nil23 _)).mono ?_; rintro e wa ⟨rfl, hfa⟩; have HAF := hid (HAE.out.trans hfa))
        | (go_at_call 11; refine (speaks23_calls _).mono ?_; rintro e wb ⟨rfl, hfb⟩))
      go_ret
      exact ⟨rfl, HAF.out.trans hfb⟩
    · have EY := hid (fun (W : World) (u : Value) (h : Sv W u l') => encode23_calls W k' v' n' a' c' u l' h hE.2.1 (by have := HL.out; omega) (hb_of hE.2.1 (by have := HL.out; omega)))
      rw [(of_enc hE hz).1, (of_enc hE hz).2] at EY
      generalize hLL : l'.length = L at *
      have HSD := hid (hs2.fr ((Fr.refl wd (fun _ => False)).alloc (.cells #[.int .i64 k', .int .i64 v', .int .i64 n', .int .i64 a', .int .i64 c', .slice A2 L cap2] 24)))
      have HAE := hid (HAD.out.alloc (.cells #[.int .i64 k', .int .i64 v', .int .i64 n', .int .i64 a', .int .i64 c', .slice A2 L cap2] 24))
      clear hs2 hfd HFA D1 HL hE hz hLL
      go_wp2_with (first
        | (go_at_call 7; refine (EY.out _ _ HSD.out).mono ?_; rintro e wa ⟨rfl, hfa⟩; have HAF := hid (HAE.out.trans hfa))
        | (go_at_call 11; refine (speaks23_calls _).mono ?_; rintro e wb ⟨rfl, hfb⟩))
      go_ret
      exact ⟨rfl, HAF.out.trans hfb⟩
  case pos =>
    have DB := hid (DA.out hEL)
    subst hEL
    clear DA EC
    go_wp2_with fail
    refine (DB.out _).mono ?_
    rintro e w2 ⟨A1, cap1, rfl, hs1, hf2⟩
    go_upto_region 4 with fail
    have HFX := hid ((Fr.refl w2 (fun _ => False)).alloc (.cells #[.int .i64 k, .int .i64 v, .int .i64 n, .int .i64 a, .int .i64 c, .slice A1 N cap1] 24))
    have HF2 := hid (hf2.trans HFX.out)
    have HX2 := hid (alloc_new w2 (.cells #[.int .i64 k, .int .i64 v, .int .i64 n, .int .i64 a, .int .i64 c, .slice A1 N cap1] 24))
    have HA2 := hid (HA1.out.trans HF2.out)
    have HM2 := hid (HF2.out.at_ HM1.out (fun x => x))
    have HS2 := hid (hs1.fr HFX.out)
    clear hs1 hf2 HFX HF2 HA1 HM1 DB
    generalize w2.alloc (.cells #[.int .i64 k, .int .i64 v, .int .i64 n, .int .i64 a, .int .i64 c, .slice A1 N cap1] 24) = w3 at *
    generalize w2.heap.size = xb at *
    obtain ⟨c0, c1, c2, c3, c4, c5⟩ := cells6 HM2.out
    obtain ⟨x0, x1, x2, x3, x4, x5⟩ := cells6 HX2.out
    have hR3 := Fr.refl w3 (fun _ => False)
    go_wp2_with fail
    go_region_held3 (fun W => W.cell? ⟨mb, 0, none⟩ = some (.int .i64 k) ∧ W.cell? ⟨mb, 1, none⟩ = some (.int .i64 v) ∧ W.cell? ⟨mb, 2, none⟩ = some (.int .i64 n) ∧ W.cell? ⟨mb, 3, none⟩ = some (.int .i64 a) ∧ W.cell? ⟨mb, 4, none⟩ = some (.int .i64 c) ∧ W.cell? ⟨mb, 5, none⟩ = some (.slice A N cap) ∧ W.cell? ⟨xb, 0, none⟩ = some (.int .i64 k) ∧ W.cell? ⟨xb, 1, none⟩ = some (.int .i64 v) ∧ W.cell? ⟨xb, 2, none⟩ = some (.int .i64 n) ∧ W.cell? ⟨xb, 3, none⟩ = some (.int .i64 a) ∧ W.cell? ⟨xb, 4, none⟩ = some (.int .i64 c) ∧ W.cell? ⟨xb, 5, none⟩ = some (.slice A1 N cap1) ∧ Fr w3 W (fun _ => False)) (first | exact ⟨c0, c1, c2, c3, c4, c5, x0, x1, x2, x3, x4, x5, hR3.drew⟩ | exact ⟨c0, c1, c2, c3, c4, c5, x0, x1, x2, x3, x4, x5, hR3⟩ | exact keepS23 (by assumption) (by assumption))
      (first
        | (go_at_call 10; refine (RC.out _).mono ?_; rintro e w' ⟨rfl, hf⟩)
        | (go_at_call 9; refine (SM.out _ _ _ (HS2.out.fr (lastS23 (by assumption))) (HSM.out _ (HA2.out.trans (lastS23 (by assumption))))).mono ?_; rintro e w' ⟨rfl, hf⟩))
    have HA5 := hid (HA2.out.trans (lastS23 (w0 := w3) (w := w') (mb := mb) (xb := xb) (v0 := .int .i64 k) (v1 := .int .i64 v) (v2 := .int .i64 n) (v3 := .int .i64 a) (v4 := .int .i64 c) (v5 := .slice A N cap) (u0 := .int .i64 k) (u1 := .int .i64 v) (u2 := .int .i64 n) (u3 := .int .i64 a) (u4 := .int .i64 c) (u5 := .slice A1 N cap1) (by assumption)))
    clear c0 c1 c2 c3 c4 c5 x0 x1 x2 x3 x4 x5 HX2 HM2 SM RC HSM HS2 HA2
    go_wp2_with fail
    refine (D1.out _).mono ?_
    rintro e wd ⟨A2, cap2, rfl, hs2, hfd⟩
    have HAD := hid (HA5.out.trans hfd)
    rcases HFA.out with ⟨hz, rfl, rfl, rfl, rfl, rfl, rfl⟩ | ⟨rfl, hz, hE⟩
    · have HSD := hid (hs2.fr ((Fr.refl wd (fun _ => False)).alloc (.cells #[.int .i64 0, .int .i64 0, .int .i64 0, .int .i64 0, .int .i64 0, .slice A2 0 cap2] 24)))
      have HAE := hid (HAD.out.alloc (.cells #[.int .i64 0, .int .i64 0, .int .i64 0, .int .i64 0, .int .i64 0, .slice A2 0 cap2] 24))
      have hz1 : (z == 0) = false := beq_eq_false_iff_ne.2 hz
      clear hs2 hfd HFA D1 HL
      go_wp2_with (first
        | (go_at_call 9; refine (SZ.out _ _ _ HSD.out (Sv.nil23 _)).mono ?_; rintro e wa ⟨rfl, hfa⟩; have HAF := hid (HAE.out.trans hfa))
        | (go_at_call 11; refine (speaks23_calls _).mono ?_; rintro e wb ⟨rfl, hfb⟩))
      go_ret
      exact ⟨rfl, HAF.out.trans hfb⟩
    · have EY := hid (fun (W : World) (u : Value) (h : Sv W u l') => encode23_calls W k' v' n' a' c' u l' h hE.2.1 (by have := HL.out; omega) (hb_of hE.2.1 (by have := HL.out; omega)))
      rw [(of_enc hE hz).1, (of_enc hE hz).2] at EY
      generalize hLL : l'.length = L at *
      have HSD := hid (hs2.fr ((Fr.refl wd (fun _ => False)).alloc (.cells #[.int .i64 k', .int .i64 v', .int .i64 n', .int .i64 a', .int .i64 c', .slice A2 L cap2] 24)))
      have HAE := hid (HAD.out.alloc (.cells #[.int .i64 k', .int .i64 v', .int .i64 n', .int .i64 a', .int .i64 c', .slice A2 L cap2] 24))
      clear hs2 hfd HFA D1 HL hE hz hLL
      go_wp2_with (first
        | (go_at_call 7; refine (EY.out _ _ HSD.out).mono ?_; rintro e wa ⟨rfl, hfa⟩; have HAF := hid (HAE.out.trans hfa))
        | (go_at_call 11; refine (speaks23_calls _).mono ?_; rintro e wb ⟨rfl, hfb⟩))
      go_ret
      exact ⟨rfl, HAF.out.trans hfb⟩
theorem msgBack_row (w : World) (k v n a c : Int) (u : Value) (l : List En) (s : ByteArray) (hS : Sv w u l) (hO : ∀ x ∈ l, x.Ok) (hb : l.length ≤ 1048576) (hs : s.size ≤ 140737488351232) :
    Calls Try.prog 3 #[.agg #[.int .i64 k, .int .i64 v, .int .i64 n, .int .i64 a, .int .i64 c, u], .string s] w fun e w' => e = .returned (.bool true) ∧ Fr w w' (fun _ => False) := by
  have hS2 := hS
  obtain ⟨A, cap, rfl, _⟩ := hS2
  exact back23_main w k v n a c A l.length cap l rfl hS hO hb s (by unfold maxLen; omega)
end Go.Proofs.Ytmnmmmoeeapeiaa.Cw
