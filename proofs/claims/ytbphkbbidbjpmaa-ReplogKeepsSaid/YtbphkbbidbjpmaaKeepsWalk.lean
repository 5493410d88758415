/- ReplogKeeps: the walk. Own work. -/
import Derived.Test.YtbphkbbidbjpmaaReQ
import Derived.Deep.DeepCutAuto
namespace Go.Proofs.Ytbphkbbidbjpmaa.Cw
open Go.RowKit
set_option linter.unusedVariables false
set_option linter.unusedSimpArgs false

/-- A slice of entries is as it was behind what is done to a log's cell. -/
theorem Sv.past {w w' : World} {g : Nat} {v u : Value} {es l : List En} (h : Sv w u l) (hg : Lw w g v es) (hf : Fr w w' (fun i => i = g)) : Sv w' u l := by
  obtain ⟨A, cap, rfl, h1, h2, h3⟩ := h
  refine ⟨A, cap, rfl, h1, h2, fun hn => ?_⟩
  obtain ⟨b, off, rfl, hb, HA⟩ := h3 hn
  have hbg : b ≠ g := by
    intro e
    subst e
    obtain ⟨x, hx⟩ : ∃ x, l[0]? = some x := ⟨_, List.getElem?_eq_getElem (by
      rcases Nat.eq_zero_or_pos l.length with h0 | h0
      · exact absurd (List.eq_nil_of_length_eq_zero h0) hn
      · exact h0)⟩
    have h5 := HA 0 x hx 1 _ rfl
    rw [cell_blk hg.1] at h5
    simp at h5
  refine ⟨b, off, rfl, Nat.lt_of_lt_of_le hb hf.size, fun i x hx j u hu => ?_⟩
  exact (World.cell?_of_block (hf.block b hb hbg)).trans (HA i x hx j u hu)
theorem Sv.rest {w : World} {b off n cap : Nat} {l : List En} (h : Sv w (.slice (some ⟨b, off, none⟩) n cap) l) (m : Nat) (hm : m ≤ l.length) : Sv w (.slice (some ⟨b, off + m * 9, none⟩) (n - m) (cap - m)) (l.drop m) := by
  obtain ⟨A', cap', e, h1, h2, h3⟩ := h
  injection e with e1 e2 e3
  subst e1 e2 e3
  refine ⟨_, cap - m, by rw [List.length_drop], by rw [List.length_drop]; omega, by omega, fun hn => ?_⟩
  obtain ⟨b2, off2, h4, h5, h6⟩ := h3 (fun e => hn (by rw [e]; simp))
  injection h4 with h4
  injection h4 with e1 e2 _
  subst e1 e2
  refine ⟨b, off + m * 9, rfl, h5, fun i x hx j u hu => ?_⟩
  rw [List.getElem?_drop] at hx
  have := h6 _ x hx j u hu
  rwa [show off + (m + i) * 9 + j = off + m * 9 + i * 9 + j by omega] at this
theorem Sv.none0 (w : World) (A : Option Addr) : Sv w (.slice A 0 0) [] := ⟨A, 0, rfl, Nat.le_refl _, by unfold maxLen; omega, fun h => absurd rfl h⟩
/-- The number of entries that are kept. -/
def kp (n : Int) (N : Nat) : Nat := if n < 0 ∨ (N : Int) < n then N else n.toNat
theorem kp_le (n : Int) (N : Nat) : kp n N ≤ N := by unfold kp; split <;> omega
theorem keepF {w0 w w' : World} (h : Fr w0 w (fun _ => False)) (k : Fr w w' (fun _ => False)) : Fr w0 w' (fun _ => False) := h.trans k
theorem fromL_all {es : List En} (h : es.length ≤ 4096) : fromL es 1 5000 = es := by
  unfold fromL
  exact List.take_of_length_le (by simp; omega)
theorem fromL_rest {es : List En} (h : es.length ≤ 4096) (m : Nat) : fromL es ((m : Int) + 1) 5000 = es.drop m := by
  unfold fromL
  rw [show ((m : Int) + 1 - 1).toNat = m by omega]
  exact List.take_of_length_le (by rw [List.length_drop]; omega)
theorem refl_dec (l : List En) : decide (l = l) = true := decide_eq_true rfl

set_option maxRecDepth 100000 in
set_option maxHeartbeats 6400000 in
theorem keeps_row (w : World) (va : Value) (la : List En) (vb : Value) (lb : List En) (n : Int) (ha : Sv w va la) (hna : la.length ≤ 1466015503701) (hb : Sv w vb lb) (hnb : lb.length ≤ 1466015503701) (hn1 : -9223372036854775808 ≤ n) (hn2 : n < 9223372036854775808) :
    Calls Try.prog 6 #[va, vb, .int .i64 n] w fun e w' => e = .returned (.bool true) ∧ Fr w w' (fun _ => False) := by
  have M1 := hid (made_calls w va la ha (by omega))
  have GG := hid (madeL_ge la)
  generalize madeL la = es at *
  have hl := GG.out.2.2
  have HB := hid hb
  have HNB := hid hnb
  clear ha hb hna hnb hn1 hn2
  go_enter Try.func6, Try.ntmps6
  go_wp2_with fail
  refine M1.out.mono ?_
  rintro e w1 ⟨g, v, rfl, h1, f1, hg, -⟩
  have h1 := h1.lw
  clear M1
  go_wp2_with fail
  refine (from_pos w1 g v es 1 5000 h1 hl (by omega) (by omega) (by omega)).mono ?_
  rintro e w2 ⟨u0, rfl, s0, f2⟩
  rw [fromL_all hl] at s0
  have h2 := h1.heap f2
  have FA := hid (f1.trans f2)
  have HG := hid hg
  clear f1 f2 h1 hg
  have S0 := hid s0
  obtain ⟨A0, cap0, rfl, z1, z2, -⟩ := s0
  generalize hN : es.length = N at *
  have HN := hid hN
  clear hN
  go_upto_region 5 with fail
  go_cut [24] (fun c wx => wx = w2 ∧ c = .bool (decide (n < 0 ∨ (N : Int) < n)))
  case first =>
    by_cases c1 : n < 0
    · have e1 := hid (decide_eq_true (show n < 0 ∨ (N : Int) < n from .inl c1))
      go_wp2_with fail
      go_meet
      case rel => exact ⟨rfl, by rw [e1.out]⟩
    · by_cases c2 : (N : Int) < n
      · have e1 := hid (decide_eq_true (show n < 0 ∨ (N : Int) < n from .inr c2))
        go_wp2_with fail
        go_meet
        case rel => exact ⟨rfl, by rw [e1.out]⟩
      · have e1 := hid (decide_eq_false (show ¬ (n < 0 ∨ (N : Int) < n) by omega))
        go_wp2_with fail
        go_meet
        case rel => exact ⟨rfl, by rw [e1.out]⟩
  obtain ⟨rfl, rfl⟩ := hcut
  generalize hc : decide (n < 0 ∨ (N : Int) < n) = cc at *
  have HC := hid hc
  clear hc
  go_upto_if 24 with fail
  go_cut [2] (fun t wx => wx = wc ∧ t = .int .i64 (kp n N))
  case first =>
    cases cc
    · have e1 : ((kp n N : Nat) : Int) = n := by
        have h9 := of_decide_eq_false HC.out
        unfold kp
        rw [if_neg h9]
        omega
      have E1 := hid e1
      clear e1
      go_wp2_with fail
      go_meet
      case rel => exact ⟨rfl, by rw [E1.out]⟩
    · have E1 := hid (show kp n N = N from if_pos (of_decide_eq_true HC.out))
      go_wp2_with fail
      go_meet
      case rel => exact ⟨rfl, by rw [E1.out]⟩
  obtain ⟨rfl, rfl⟩ := hcut
  have hm := kp_le n N
  generalize kp n N = m at *
  have R1 := hid (GG.out.same (n := m) (by have := HN.out; omega))
  have hw : IntKind.i64.wrap ((m : Int) + 1) = (m : Int) + 1 := IntWalk.i64_in _ (by omega)
  go_wp2_with fail
  refine (from_pos _ g v es ((m : Int) + 1) 5000 h2 (by have := HN.out; omega) (by omega) (by omega) (by omega)).mono ?_
  rintro e w3 ⟨u1, rfl, s1, f3⟩
  rw [fromL_rest (by have := HN.out; omega)] at s1
  have h3 := h2.heap f3
  have S0 := hid (S0.out.fr f3)
  have FA := hid (FA.out.trans f3)
  clear f3 h2 hw
  go_wp2_with fail
  refine (replace_any w3 g v u1 es (es.drop m) m h3 s1 (by rw [List.length_drop]; have := HN.out; omega) (by have := HN.out; omega) GG.out.vb).mono ?_
  rintro e w4 ⟨rfl, v2, h4, f4, -⟩
  rw [R1.out.2] at h4
  have S0 := hid (S0.out.past h3 f4)
  have FA := hid (FA.out.fresh f4 (fun i hi => by subst hi; exact HG.out))
  rw [R1.out.1]
  clear f4 h3 s1 R1
  go_wp2_with fail
  refine (from_pos w4 g v2 es 1 5000 h4 (by have := HN.out; omega) (by omega) (by omega) (by omega)).mono ?_
  rintro e w5 ⟨u2, rfl, s2, f5⟩
  rw [fromL_all (by have := HN.out; omega)] at s2
  have h5 := h4.heap f5
  have S0 := hid (S0.out.fr f5)
  have FA := hid (FA.out.trans f5)
  clear f5 h4
  go_wp2_with fail
  refine (entries_calls w5 u2 _ es es s2 S0.out (by have := HN.out; omega) (by have := HN.out; omega)).mono ?_
  rw [refl_dec]
  rintro e w6 ⟨rfl, f6⟩
  have h6 := h5.heap f6
  have S0 := hid (S0.out.fr f6)
  have FA := hid (FA.out.trans f6)
  clear f6 h5 s2
  have HB := hid (HB.out.fr FA.out)
  have GP := hid (GG.out.rp m lb)
  have HE : Hid (rpE es m lb ≠ 0 → rpL es m lb = es) := hid (fun h => if_neg h)
  have HE2 : Hid (rpE es m lb = 0 → rpL es m lb = es.take m ++ lb) := hid (fun h => by
    unfold rpL
    rw [if_pos h, Int.toNat_natCast])
  go_wp2_with fail
  refine (replace_any w6 g v2 vb es lb m h6 HB.out HNB.out (by have := HN.out; omega) GG.out.vb).mono ?_
  rintro e w7 ⟨rfl, v3, h7, f7, -⟩
  have HB := hid (HB.out.past h6 f7)
  have S0 := hid (S0.out.past h6 f7)
  have FA := hid (FA.out.fresh f7 (fun i hi => by subst hi; exact HG.out))
  generalize rpE es m lb = r at *
  generalize rpL es m lb = es3 at *
  clear f7 h6
  by_cases hr : r = 0
  · have he3 := HE2.out hr
    subst hr
    have HE3 := hid he3
    clear he3 HE HE2
    by_cases hz : es3 = []
    · subst hz
      have hzz := HE3.out
      obtain ⟨ht, rfl⟩ := List.append_eq_nil_iff.1 hzz.symm
      have hm0 : m = 0 := by
        have := congrArg List.length ht
        rw [List.length_take, List.length_nil] at this
        have := HN.out
        omega
      subst hm0
      clear hzz ht HE3 z1 z2 hm
      go_wp2_with fail
      refine (from_far w7 g v3 [] 1 5000 h7.c0 h7.sv (by simp) (by simp) (by omega)).mono ?_
      rintro e w8 ⟨rfl, rfl⟩
      have hb2 := HB.out
      obtain ⟨B, capb, rfl, y1, y2, -⟩ := hb2
      rw [List.length_nil] at *
      have hF := Fr.refl w8 (fun _ => False)
      have hw0 : IntKind.i64.wrap 0 = 0 := IntWalk.i64_in _ (by omega)
      have E1 := hid (fun (W : World) (hf : Fr w8 W (fun _ => False)) => entries_calls W (.slice none 0 0) (.slice A0 0 cap0) [] [] (Sv.nil W) ((S0.out.first 0 (by omega)).fr hf) (by simp) (by simp))
      have E2 := hid (fun (W : World) (hf : Fr w8 W (fun _ => False)) => entries_calls W (.slice none 0 0) (.slice B 0 capb) [] [] (Sv.nil W) (HB.out.fr hf) (by simp) (by simp))
      rw [refl_dec] at E1 E2
      have SP := hid speaks20_calls
      go_wp2_with fail
      go_region_held3 (fun W => Fr w8 W (fun _ => False)) (first | assumption | exact hF | exact hF.drew | exact keepF (by assumption) (by assumption))
        (first
          | (go_at_call 19; (with_reducible refine (E1.out _ (by assumption)).mono ?_); rintro e w9 ⟨rfl, hf9⟩)
          | (go_at_call 19; (with_reducible refine (E2.out _ (by assumption)).mono ?_); rintro e w9 ⟨rfl, hf9⟩)
          | (go_at_call 13; refine (SP.out _).mono ?_; rintro e w9 ⟨rfl, hf9⟩))
      go_wp2_with fail
      go_ret
      exact ⟨rfl, FA.out.trans (by assumption)⟩
    · go_wp2_with fail
      refine (from_pos w7 g v3 es3 1 5000 h7 GP.out.2.2 (by omega) (by omega) (by omega)).mono ?_
      rintro e w8 ⟨u3, rfl, s3, f8⟩
      rw [fromL_all GP.out.2.2] at s3
      have FA := hid (FA.out.trans f8)
      have S0 := hid (S0.out.fr f8)
      have HB := hid (HB.out.fr f8)
      have S3 := hid s3
      obtain ⟨A3, cap3, rfl, x1, x2, x3⟩ := s3
      obtain ⟨b3, off3, rfl, -, -⟩ := x3 hz
      clear f8 h7 x3
      have hx1 : es3.length = m + lb.length := by
        rw [HE3.out, List.length_append, List.length_take]
        have := HN.out
        omega
      have hx2 : es3.take m = es.take m := by
        rw [HE3.out]
        exact List.take_left' (by rw [List.length_take]; have := HN.out; omega)
      have hx3 : es3.drop m = lb := by
        rw [HE3.out]
        exact List.drop_left' (by rw [List.length_take]; have := HN.out; omega)
      have hF := Fr.refl w8 (fun _ => False)
      have E1 := hid (fun (W : World) (hf : Fr w8 W (fun _ => False)) => entries_calls W _ _ _ _ ((S3.out.first m (by omega)).fr hf) ((S0.out.first m (by have := HN.out; omega)).fr hf) (by rw [List.length_take]; have := GP.out.2.2; omega) (by rw [List.length_take]; have := GP.out.2.2; omega))
      rw [hx2, refl_dec] at E1
      have SP := hid speaks20_calls
      have hb2 := HB.out
      obtain ⟨B, capb, rfl, y1, y2, -⟩ := hb2
      have hN3 : es3.length ≤ 4096 := GP.out.2.2
      have HX3 := hid hx3
      have hq1 : IntKind.i64.wrap ((m : Int) + (lb.length : Int)) = (m : Int) + (lb.length : Int) := IntWalk.i64_in _ (by omega)
      have HX1 := hid hx1
      generalize hP : es3.length = N3 at *
      generalize hQ : lb.length = NB at *
      have hq2 : ((N3 : Int) == (m : Int) + (NB : Int)) = true := by rw [beq_iff_eq]; omega
      have hq3 : (m : Int) ≤ (cap3 : Int) := by omega
      have hq4 : (m : Int) ≤ (cap0 : Int) := by omega
      have hq5 : (m : Int) ≤ (N3 : Int) := by omega
      have hq6 : (0 : Int) ≤ (m : Int) := by omega
      by_cases hcap : cap3 = m
      · have hcap : m = cap3 := hcap.symm
        subst hcap
        obtain rfl : NB = 0 := by omega
        obtain rfl : lb = [] := List.eq_nil_of_length_eq_zero hQ
        have E2 := hid (fun (W : World) (hf : Fr w8 W (fun _ => False)) => entries_calls W (.slice (some ⟨b3, off3, none⟩) 0 0) (.slice B 0 capb) [] [] (Sv.none0 W _) (HB.out.fr hf) (by simp) (by simp))
        rw [refl_dec] at E2
        obtain rfl : N3 = m := by omega
        have hq7 : ((N3 : Int) == (N3 : Int)) = true := by simp
        have hq8 : IntKind.i64.wrap (N3 : Int) = (N3 : Int) := IntWalk.i64_in _ (by omega)
        clear hx1 hx2 hx3 hP hQ hq1 hq2
        go_wp2_with fail
        go_region_held3 (fun W => Fr w8 W (fun _ => False)) (first | assumption | exact hF | exact hF.drew | exact keepF (by assumption) (by assumption))
          (first
            | (go_at_call 19; (with_reducible refine (E1.out _ (by assumption)).mono ?_); rintro e w9 ⟨rfl, hf9⟩)
            | (go_at_call 19; (with_reducible refine (E2.out _ (by assumption)).mono ?_); rintro e w9 ⟨rfl, hf9⟩)
            | (go_at_call 13; refine (SP.out _).mono ?_; rintro e w9 ⟨rfl, hf9⟩))
        go_wp2_with fail
        go_ret
        exact ⟨rfl, FA.out.trans (by assumption)⟩
      · have E2 := hid (fun (W : World) (hf : Fr w8 W (fun _ => False)) => entries_calls W _ _ _ _ ((S3.out.rest m (by rw [hP]; omega)).fr hf) (HB.out.fr hf) (by rw [List.length_drop]; omega) (by rw [hQ]; omega))
        rw [hx3, refl_dec] at E2
        clear hx1 hx2 hx3 hP hQ
        go_wp2_with fail
        go_region_held3 (fun W => Fr w8 W (fun _ => False)) (first | assumption | exact hF | exact hF.drew | exact keepF (by assumption) (by assumption))
          (first
            | (go_at_call 19; (with_reducible refine (E1.out _ (by assumption)).mono ?_); rintro e w9 ⟨rfl, hf9⟩)
            | (go_at_call 19; (with_reducible refine (E2.out _ (by assumption)).mono ?_); rintro e w9 ⟨rfl, hf9⟩)
            | (go_at_call 13; refine (SP.out _).mono ?_; rintro e w9 ⟨rfl, hf9⟩))
        go_wp2_with fail
        go_ret
        exact ⟨rfl, FA.out.trans (by assumption)⟩
  · have he := HE.out hr
    subst he
    have HR := hid hr
    have hrb : (r != 0) = true := bne_iff_ne.2 hr
    clear hr HE HE2
    go_wp2_with fail
    refine (from_pos w7 g v3 _ 1 5000 h7 GP.out.2.2 (by omega) (by omega) (by omega)).mono ?_
    rintro e w8 ⟨u3, rfl, s3, f8⟩
    rw [fromL_all GP.out.2.2] at s3
    have FA := hid (FA.out.trans f8)
    have S0 := hid (S0.out.fr f8)
    clear f8 h7
    go_wp2_with fail
    refine (entries_calls w8 u3 _ _ _ s3 S0.out (by have := GP.out.2.2; omega) (by have := GP.out.2.2; omega)).mono ?_
    rw [refl_dec]
    rintro e w9 ⟨rfl, f9⟩
    clear s3
    go_wp2_with fail
    refine (speaks20_calls w9).mono ?_
    rintro e w10 ⟨rfl, f10⟩
    go_wp2_with fail
    go_ret
    exact ⟨rfl, (FA.out.trans f9).trans f10⟩
end Go.Proofs.Ytbphkbbidbjpmaa.Cw
