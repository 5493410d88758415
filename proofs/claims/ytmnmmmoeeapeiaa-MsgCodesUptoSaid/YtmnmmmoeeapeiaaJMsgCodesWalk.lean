/- MsgCodes by a walk over contracts. Written by mkmgy.py. Own work. -/
import Derived.Test.YtmnmmmoeeapeiaaJbq
import Derived.Deep.Cut
namespace Go.Proofs.Ytmnmmmoeeapeiaa.Cw
open Go.RowKit
set_option linter.unusedVariables false
set_option linter.unusedSimpArgs false

set_option maxRecDepth 100000 in
set_option maxHeartbeats 6400000 in
theorem codes23_main (w : World) (k v n a c : Int) (A : Option Addr) (N cap : Nat) (l : List En) (hl : l.length = N) (hS : Sv w (.slice A N cap) l) (hO : ∀ x ∈ l, x.Ok) (hb : N ≤ 1048576) (s : ByteArray) (hs : s.size ≤ maxLen) :
    Calls Try.prog 5 #[.agg #[.int .i64 k, .int .i64 v, .int .i64 n, .int .i64 a, .int .i64 c, .slice A N cap], .string s] w fun e w' => e = .returned (.bool true) ∧ Fr w w' (fun _ => False) := by
  have EC := hid (fun (W : World) (hf : Fr w W (fun _ => False)) => encode23_calls W k v n a c (.slice A N cap) l (hS.fr hf) hO (by omega) (hb_of hO (by omega)))
  have FC := hid (fun (W : World) (hf : Fr w W (fun _ => False)) => refEncode23_calls W k v n a c (.slice A N cap) l (hS.fr hf) hO (by omega) (hb_of hO (by omega)))
  have RC := hid (fun (W : World) => ref23_calls W k v n a c A N cap)
  have SC := hid (fun (W : World) (hf : Fr w W (fun _ => False)) => size_calls W (.slice A N cap) l (hS.fr hf) hO (by omega) (hb_of hO (by omega)))
  have SR := hid (fun (W : World) (hf : Fr w W (fun _ => False)) => refSize_calls W (.slice A N cap) l (hS.fr hf) hO (by omega) (hb_of hO (by omega)))
  obtain ⟨k', v', n', a', c', l', z, D1, D2, _, hlen⟩ := dec23_any s hs
  have D1 := hid D1
  have D2 := hid D2
  have SM := hid (fun (W : World) (u1 u2 : Value) (h1 : Sv W u1 l') (h2 : Sv W u2 l') => same23_calls W k' v' n' a' c' u1 u2 l' l' h1 h2 (by omega) (by omega))
  rw [show decide (l' = l') = true from decide_eq_true rfl] at SM
  unfold Ans at D1 D2
  generalize enE k v n a c l = EL at *
  generalize enS k v n a c l = SL at *
  generalize (jnS l).size = zl at *
  generalize jnE l = jl at *
  have HL : Hid (l'.length ≤ 60000) := hid hlen
  generalize hLL : l'.length = L at *
  clear hlen hs hS hl hO hb hLL
  go_enter Try.func5, Try.ntmps5
  go_wp2_with fail
  refine (EC.out _ ((Fr.refl w _).alloc _)).mono ?_
  rintro e w1 ⟨rfl, hf1⟩
  have HA1 := hid (((Fr.refl w (fun _ => False)).alloc (.cells #[.int .i64 k, .int .i64 v, .int .i64 n, .int .i64 a, .int .i64 c, .slice A N cap] 24)).trans hf1)
  have HM1 := hid (hf1.at_ (alloc_new w (.cells #[.int .i64 k, .int .i64 v, .int .i64 n, .int .i64 a, .int .i64 c, .slice A N cap] 24)) (fun x => x))
  obtain ⟨c0, c1, c2, c3, c4, c5⟩ := cells6 HM1.out
  clear hf1
  generalize w.heap.size = mb at *
  go_wp2_with fail
  refine (RC.out _).mono ?_
  rintro e w2 ⟨rfl, hf2⟩
  have HA2 := hid (HA1.out.trans hf2)
  have HM2 := hid (hf2.at_ HM1.out (fun x => x))
  clear hf2 HA1 HM1 c0 c1 c2 c3 c4 c5
  go_wp2_with fail
  refine (FC.out _ HA2.out).mono ?_
  rintro e w3 ⟨rfl, hf3⟩
  have HA3 := hid (HA2.out.trans hf3)
  have HM3 := hid (hf3.at_ HM2.out (fun x => x))
  clear hf3 HA2 HM2
  go_wp2_with fail
  refine (D1.out _).mono ?_
  rintro e w4 ⟨A1, cap1, rfl, hs1, hf4⟩
  have HA4 := hid (HA3.out.trans hf4)
  have HM4 := hid (hf4.at_ HM3.out (fun x => x))
  have HS4 := hid hs1
  clear hf4 hs1 HA3 HM3
  go_wp2_with fail
  have HX5 := hid (alloc_new w4 (.cells #[.int .i64 k', .int .i64 v', .int .i64 n', .int .i64 a', .int .i64 c', .slice A1 L cap1] 24))
  have HF5 := hid ((Fr.refl w4 (fun _ => False)).alloc (.cells #[.int .i64 k', .int .i64 v', .int .i64 n', .int .i64 a', .int .i64 c', .slice A1 L cap1] 24))
  have HA5 := hid (HA4.out.trans HF5.out)
  have HM5 := hid (HF5.out.at_ HM4.out (fun x => x))
  have HS5 := hid (HS4.out.fr HF5.out)
  clear HF5 HA4 HM4 HS4
  generalize w4.alloc (.cells #[.int .i64 k', .int .i64 v', .int .i64 n', .int .i64 a', .int .i64 c', .slice A1 L cap1] 24) = w5 at *
  generalize w4.heap.size = xb at *
  refine (D2.out _).mono ?_
  rintro e w6 ⟨A2, cap2, rfl, hs2, hf6⟩
  go_upto_region 5 with fail
  have HY7 := hid (alloc_new w6 (.cells #[.int .i64 k', .int .i64 v', .int .i64 n', .int .i64 a', .int .i64 c', .slice A2 L cap2] 31))
  have HF7 := hid ((Fr.refl w6 (fun _ => False)).alloc (.cells #[.int .i64 k', .int .i64 v', .int .i64 n', .int .i64 a', .int .i64 c', .slice A2 L cap2] 31))
  have HG7 := hid (hf6.trans HF7.out)
  have HA7 := hid (HA5.out.trans HG7.out)
  have HM7 := hid (HG7.out.at_ HM5.out (fun x => x))
  have HX7 := hid (HG7.out.at_ HX5.out (fun x => x))
  have HS7 := hid (HS5.out.fr HG7.out)
  have HT7 := hid (hs2.fr HF7.out)
  clear hf6 hs2 HG7 HF7 HA5 HM5 HX5 HS5 D1 D2 RC EC FC
  generalize w6.alloc (.cells #[.int .i64 k', .int .i64 v', .int .i64 n', .int .i64 a', .int .i64 c', .slice A2 L cap2] 31) = w7 at *
  generalize w6.heap.size = yb at *
  obtain ⟨c0, c1, c2, c3, c4, c5⟩ := cells6 HM7.out
  go_wp2_with fail
  refine (SC.out _ HA7.out).mono ?_
  rintro e w8 ⟨rfl, hf8⟩
  have HA8 := hid (HA7.out.trans hf8)
  have HM8 := hid (hf8.at_ HM7.out (fun x => x))
  have HX8 := hid (hf8.at_ HX7.out (fun x => x))
  have HY8 := hid (hf8.at_ HY7.out (fun x => x))
  have HS8 := hid (HS7.out.fr hf8)
  have HT8 := hid (HT7.out.fr hf8)
  clear hf8 c0 c1 c2 c3 c4 c5 HA7 HM7 HX7 HY7 HS7 HT7 SC
  go_upto_region 6 with fail
  obtain ⟨c0, c1, c2, c3, c4, c5⟩ := cells6 HM8.out
  go_wp2_with fail
  refine (SR.out _ HA8.out).mono ?_
  rintro e w9 ⟨rfl, hf9⟩
  have HA9 := hid (HA8.out.trans hf9)
  obtain ⟨x0, x1, x2, x3, x4, x5⟩ := cells6 (hf9.at_ HX8.out (fun x => x))
  obtain ⟨y0, y1, y2, y3, y4, y5⟩ := cells6 (hf9.at_ HY8.out (fun x => x))
  have HS9 := hid (HS8.out.fr hf9)
  have HT9 := hid (HT8.out.fr hf9)
  clear hf9 c0 c1 c2 c3 c4 c5 HA8 HM8 HX8 HY8 HS8 HT8 SR
  go_wp2_with (first
    | (go_at_call 9; refine (SM.out _ _ _ HS9.out HT9.out).mono ?_; rintro e wa ⟨rfl, hfa⟩; have HA10 := hid (HA9.out.trans hfa))
    | (go_at_call 11; refine (speaks23_calls _).mono ?_; rintro e wb ⟨rfl, hfb⟩))
  go_ret
  exact ⟨rfl, HA10.out.trans hfb⟩
theorem msgCodes_row (w : World) (k v n a c : Int) (u : Value) (l : List En) (s : ByteArray) (hS : Sv w u l) (hO : ∀ x ∈ l, x.Ok) (hb : l.length ≤ 1048576) (hs : s.size ≤ 140737488351232) :
    Calls Try.prog 5 #[.agg #[.int .i64 k, .int .i64 v, .int .i64 n, .int .i64 a, .int .i64 c, u], .string s] w fun e w' => e = .returned (.bool true) ∧ Fr w w' (fun _ => False) := by
  have hS2 := hS
  obtain ⟨A, cap, rfl, _⟩ := hS2
  exact codes23_main w k v n a c A l.length cap l rfl hS hO hb s (by unfold maxLen; omega)
end Go.Proofs.Ytmnmmmoeeapeiaa.Cw
