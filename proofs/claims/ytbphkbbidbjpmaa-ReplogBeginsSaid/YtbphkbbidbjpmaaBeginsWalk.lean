/- ReplogBegins: the walk. Own work. -/
import Derived.Test.YtbphkbbidbjpmaaReH
namespace Go.Proofs.Ytbphkbbidbjpmaa.Cw
open Go.RowKit
set_option linter.unusedVariables false
set_option linter.unusedSimpArgs false

theorem bg_both {l m : List En} (h1 : bg l m = true) (h2 : bg m l = true) : l = m := by
  have h1 := of_decide_eq_true h1
  have h2 := of_decide_eq_true h2
  have e1 := congrArg List.length h1
  have e2 := congrArg List.length h2
  rw [List.length_take] at e1 e2
  have : l.length = m.length := by omega
  rw [← this, List.take_length] at h1
  exact h1
theorem bg_take (l : List En) (n : Nat) : bg l (l.take n) = true := by
  refine decide_eq_true ?_
  rw [List.length_take]
  rcases Nat.le_total n l.length with h | h
  · rw [Nat.min_eq_left h]
  · rw [Nat.min_eq_right h, List.take_length, List.take_of_length_le h]
theorem Lg.fr0 {w w' : World} {g : Nat} {v : Value} {es : List En} (h : Lg w g v es) (hf : Fr w w' (fun _ => False)) : Lg w' g v es := h.heap hf

set_option maxRecDepth 100000 in
set_option maxHeartbeats 6400000 in
theorem replogBegins_calls (w : World) (va vb : Value) (la lb : List En) (n : Int) (ha : Sv w va la) (hb : Sv w vb lb) (hna : la.length ≤ 4611686018427387904) (hnb : lb.length ≤ 4611686018427387904) :
    Calls Try.prog 5 #[va, vb, .int .i64 n] w fun e w' => e = .returned (.bool true) ∧ Fr w w' (fun _ => False) := by
  have M1 := hid (made_calls w va la ha hna)
  have M2 := hid (fun (W : World) (hf : Fr w W (fun _ => False)) => made_calls W vb lb (hb.fr hf) hnb)
  have lA := madeL_len la
  have lB := madeL_len lb
  have gA := hid (madeL_gd la)
  generalize madeL la = LA at *
  generalize madeL lb = LB at *
  clear ha hb
  go_enter Try.func5, Try.ntmps5
  go_wp2_with fail
  refine M1.out.mono ?_
  rintro e w1 ⟨g1, v1, rfl, h1, hf1, -, -⟩
  go_wp2_with fail
  refine (M2.out w1 hf1).mono ?_
  rintro e w2 ⟨g2, v2, rfl, h2, hf2, -, -⟩
  have h1 := h1.fr0 hf2
  have hA := hf1.trans hf2
  clear M1 M2 hf1 hf2
  go_upto_region 5 with fail
  go_wp2_with fail
  refine (from_all w2 g1 v1 LA h1 lA).mono ?_
  rintro e w3 ⟨p, rfl, hp, hf3⟩
  have h1 := h1.fr0 hf3
  have h2 := h2.fr0 hf3
  have hA := hA.trans hf3
  clear hf3
  go_wp2_with fail
  refine (from_all w3 g2 v2 LB h2 lB).mono ?_
  rintro e w4 ⟨q, rfl, hq, hf4⟩
  have h1 := h1.fr0 hf4
  have h2 := h2.fr0 hf4
  have hp := hp.fr hf4
  have hA := hA.trans hf4
  clear hf4
  have X1 := hid (fun (W : World) (hf : Fr w4 W (fun _ => False)) => begins_calls W g1 g2 v1 v2 LA LB (h1.fr0 hf) (h2.fr0 hf) (by omega))
  have X2 := hid (fun (W : World) (hf : Fr w4 W (fun _ => False)) => begins_calls W g2 g1 v2 v1 LB LA (h2.fr0 hf) (h1.fr0 hf) (by omega))
  have R1 := hid (fun (W : World) (hf : Fr w4 W (fun _ => False)) => refBegins_calls W p q LA LB (hp.fr hf) (hq.fr hf) (by omega) (by omega))
  have R2 := hid (fun (W : World) (hf : Fr w4 W (fun _ => False)) => refBegins_calls W q p LB LA (hq.fr hf) (hp.fr hf) (by omega) (by omega))
  have HE := hid (fun (W : World) (hf : Fr w4 W (fun _ => False)) => entries_calls W p q LA LB (hp.fr hf) (hq.fr hf) (by omega) (by omega))
  have HBB := hid (fun (a : bg LA LB = true) (b : bg LB LA = true) => decide_eq_true (bg_both a b))
  generalize decide (LA = LB) = EQ at *
  generalize bg LA LB = B1 at *
  generalize bg LB LA = B2 at *
  have hp1 := hid hp
  obtain ⟨pA, pcap, rfl, hpc, -, -⟩ := hp
  generalize hN : LA.length = N at *
  go_wp2_with fail
  refine (X1.out w4 (Fr.refl _ _)).mono ?_
  rintro e w5 ⟨rfl, f5⟩
  go_wp2_with fail
  refine (R1.out w5 f5).mono ?_
  rintro e w6 ⟨rfl, f6⟩
  have f6 := f5.trans f6
  clear f5
  go_wp2_with fail
  refine (X2.out w6 f6).mono ?_
  rintro e w7 ⟨rfl, f7⟩
  have f7 := f6.trans f7
  clear f6
  go_wp2_with fail
  refine (R2.out w7 f7).mono ?_
  rintro e w8 ⟨rfl, f8⟩
  have f8 := f7.trans f8
  clear f7
  go_upto_region 9 with fail
  have HN := hid hN
  by_cases c1 : n < 0
  · clear hN
    have M3 := hid (made_calls w8 (.slice pA N pcap) (LA.take N) ((hp1.out.fr f8).first N (by have := HN.out; omega)) (by rw [List.length_take]; omega))
    have hlen : (LA.take N).length = N := by rw [List.length_take]; have := HN.out; omega
    have hself := hid ((gA.out.take (n := N) (by have := HN.out; omega)).self)
    have hbt := hid (bg_take LA N)
    generalize LA.take N = LT at *
    go_wp2_with fail
    refine M3.out.mono ?_
    rintro e w9 ⟨g3, v3, rfl, h3, f9, -, -⟩
    rw [hself.out] at h3
    have f9 := f8.trans f9
    have X3 := begins_calls w9 g1 g3 v1 v3 LA LT (h1.fr0 f9) h3 (by have := HN.out; omega)
    rw [hbt.out] at X3
    go_wp2_with fail
    refine X3.mono ?_
    rintro e w10 ⟨rfl, f10⟩
    have h3 := h3.fr0 f10
    have f10 := f9.trans f10
    have X4 := len_calls w10 g3 v3 LT h3
    rw [hlen] at X4
    go_wp2_with fail
    refine X4.mono ?_
    rintro e w11 ⟨rfl, rfl⟩
    clear X3 X4 hlen
    cases B1
    · go_wp2_with fail
      refine (X1.out w10 f10).mono ?_
      rintro e w12 ⟨rfl, f12⟩
      have f12 := f10.trans f12
      go_wp2_with fail
      refine (speaks20_calls w12).mono ?_
      rintro e w13 ⟨rfl, f13⟩
      go_wp2_with fail
      go_ret
      exact ⟨rfl, (hA.trans f12).trans f13⟩
    · cases B2
      · go_wp2_with fail
        refine (X1.out w10 f10).mono ?_
        rintro e w12 ⟨rfl, f12⟩
        have f12 := f10.trans f12
        go_wp2_with fail
        refine (X2.out w12 f12).mono ?_
        rintro e w14 ⟨rfl, f14⟩
        have f14 := f12.trans f14
        go_wp2_with fail
        refine (speaks20_calls w14).mono ?_
        rintro e w13 ⟨rfl, f13⟩
        go_wp2_with fail
        go_ret
        exact ⟨rfl, (hA.trans f14).trans f13⟩
      · have hEQ := HBB.out rfl rfl
        subst hEQ
        go_wp2_with fail
        refine (X1.out w10 f10).mono ?_
        rintro e w12 ⟨rfl, f12⟩
        have f12 := f10.trans f12
        go_wp2_with fail
        refine (X2.out w12 f12).mono ?_
        rintro e w14 ⟨rfl, f14⟩
        have f14 := f12.trans f14
        go_wp2_with fail
        refine (HE.out w14 f14).mono ?_
        rintro e w15 ⟨rfl, f15⟩
        have f15 := f14.trans f15
        go_wp2_with fail
        refine (speaks20_calls w15).mono ?_
        rintro e w13 ⟨rfl, f13⟩
        go_wp2_with fail
        go_ret
        exact ⟨rfl, (hA.trans f15).trans f13⟩
  · have c3 : 0 ≤ n := by omega
    by_cases c2 : (N : Int) < n
    · clear hN
      have M3 := hid (made_calls w8 (.slice pA N pcap) (LA.take N) ((hp1.out.fr f8).first N (by have := HN.out; omega)) (by rw [List.length_take]; omega))
      have hlen : (LA.take N).length = N := by rw [List.length_take]; have := HN.out; omega
      have hself := hid ((gA.out.take (n := N) (by have := HN.out; omega)).self)
      have hbt := hid (bg_take LA N)
      generalize LA.take N = LT at *
      go_wp2_with fail
      refine M3.out.mono ?_
      rintro e w9 ⟨g3, v3, rfl, h3, f9, -, -⟩
      rw [hself.out] at h3
      have f9 := f8.trans f9
      have X3 := begins_calls w9 g1 g3 v1 v3 LA LT (h1.fr0 f9) h3 (by have := HN.out; omega)
      rw [hbt.out] at X3
      go_wp2_with fail
      refine X3.mono ?_
      rintro e w10 ⟨rfl, f10⟩
      have h3 := h3.fr0 f10
      have f10 := f9.trans f10
      have X4 := len_calls w10 g3 v3 LT h3
      rw [hlen] at X4
      go_wp2_with fail
      refine X4.mono ?_
      rintro e w11 ⟨rfl, rfl⟩
      clear X3 X4 hlen
      cases B1
      · go_wp2_with fail
        refine (X1.out w10 f10).mono ?_
        rintro e w12 ⟨rfl, f12⟩
        have f12 := f10.trans f12
        go_wp2_with fail
        refine (speaks20_calls w12).mono ?_
        rintro e w13 ⟨rfl, f13⟩
        go_wp2_with fail
        go_ret
        exact ⟨rfl, (hA.trans f12).trans f13⟩
      · cases B2
        · go_wp2_with fail
          refine (X1.out w10 f10).mono ?_
          rintro e w12 ⟨rfl, f12⟩
          have f12 := f10.trans f12
          go_wp2_with fail
          refine (X2.out w12 f12).mono ?_
          rintro e w14 ⟨rfl, f14⟩
          have f14 := f12.trans f14
          go_wp2_with fail
          refine (speaks20_calls w14).mono ?_
          rintro e w13 ⟨rfl, f13⟩
          go_wp2_with fail
          go_ret
          exact ⟨rfl, (hA.trans f14).trans f13⟩
        · have hEQ := HBB.out rfl rfl
          subst hEQ
          go_wp2_with fail
          refine (X1.out w10 f10).mono ?_
          rintro e w12 ⟨rfl, f12⟩
          have f12 := f10.trans f12
          go_wp2_with fail
          refine (X2.out w12 f12).mono ?_
          rintro e w14 ⟨rfl, f14⟩
          have f14 := f12.trans f14
          go_wp2_with fail
          refine (HE.out w14 f14).mono ?_
          rintro e w15 ⟨rfl, f15⟩
          have f15 := f14.trans f15
          go_wp2_with fail
          refine (speaks20_calls w15).mono ?_
          rintro e w13 ⟨rfl, f13⟩
          go_wp2_with fail
          go_ret
          exact ⟨rfl, (hA.trans f15).trans f13⟩
    · obtain ⟨k, rfl⟩ : ∃ k : Nat, n = (k : Int) := ⟨n.toNat, by omega⟩
      have c4 : k ≤ N := by omega
      have c5 : k ≤ pcap := by omega
      clear hN
      have M3 := hid (made_calls w8 (.slice pA k pcap) (LA.take k) ((hp1.out.fr f8).first k (by have := HN.out; omega)) (by rw [List.length_take]; omega))
      have hlen : (LA.take k).length = k := by rw [List.length_take]; have := HN.out; omega
      have hself := hid ((gA.out.take (n := k) (by have := HN.out; omega)).self)
      have hbt := hid (bg_take LA k)
      generalize LA.take k = LT at *
      go_wp2_with fail
      refine M3.out.mono ?_
      rintro e w9 ⟨g3, v3, rfl, h3, f9, -, -⟩
      rw [hself.out] at h3
      have f9 := f8.trans f9
      have X3 := begins_calls w9 g1 g3 v1 v3 LA LT (h1.fr0 f9) h3 (by have := HN.out; omega)
      rw [hbt.out] at X3
      go_wp2_with fail
      refine X3.mono ?_
      rintro e w10 ⟨rfl, f10⟩
      have h3 := h3.fr0 f10
      have f10 := f9.trans f10
      have X4 := len_calls w10 g3 v3 LT h3
      rw [hlen] at X4
      go_wp2_with fail
      refine X4.mono ?_
      rintro e w11 ⟨rfl, rfl⟩
      clear X3 X4 hlen
      cases B1
      · go_wp2_with fail
        refine (X1.out w10 f10).mono ?_
        rintro e w12 ⟨rfl, f12⟩
        have f12 := f10.trans f12
        go_wp2_with fail
        refine (speaks20_calls w12).mono ?_
        rintro e w13 ⟨rfl, f13⟩
        go_wp2_with fail
        go_ret
        exact ⟨rfl, (hA.trans f12).trans f13⟩
      · cases B2
        · go_wp2_with fail
          refine (X1.out w10 f10).mono ?_
          rintro e w12 ⟨rfl, f12⟩
          have f12 := f10.trans f12
          go_wp2_with fail
          refine (X2.out w12 f12).mono ?_
          rintro e w14 ⟨rfl, f14⟩
          have f14 := f12.trans f14
          go_wp2_with fail
          refine (speaks20_calls w14).mono ?_
          rintro e w13 ⟨rfl, f13⟩
          go_wp2_with fail
          go_ret
          exact ⟨rfl, (hA.trans f14).trans f13⟩
        · have hEQ := HBB.out rfl rfl
          subst hEQ
          go_wp2_with fail
          refine (X1.out w10 f10).mono ?_
          rintro e w12 ⟨rfl, f12⟩
          have f12 := f10.trans f12
          go_wp2_with fail
          refine (X2.out w12 f12).mono ?_
          rintro e w14 ⟨rfl, f14⟩
          have f14 := f12.trans f14
          go_wp2_with fail
          refine (HE.out w14 f14).mono ?_
          rintro e w15 ⟨rfl, f15⟩
          have f15 := f14.trans f15
          go_wp2_with fail
          refine (speaks20_calls w15).mono ?_
          rintro e w13 ⟨rfl, f13⟩
          go_wp2_with fail
          go_ret
          exact ⟨rfl, (hA.trans f15).trans f13⟩
theorem begins_row (w : World) (va : Value) (la : List En) (vb : Value) (lb : List En) (n : Int) (ha : Sv w va la) (hna : la.length ≤ 1466015503701) (hb : Sv w vb lb) (hnb : lb.length ≤ 1466015503701) (b1 : -9223372036854775808 ≤ n) (b2 : n < 9223372036854775808) :
    Calls Try.prog 5 #[va, vb, .int .i64 n] w fun e w' => e = .returned (.bool true) ∧ Fr w w' (fun _ => False) :=
  replogBegins_calls w va vb la lb n ha hb (by omega) (by omega)
end Go.Proofs.Ytbphkbbidbjpmaa.Cw
