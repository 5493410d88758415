/- MsgSize by a walk over contracts. Written by mkmgx.py. Own work. -/
import Derived.Test.YtmnmmmoeeapeiaaJbq
namespace Go.Proofs.Ytmnmmmoeeapeiaa.Cw
open Go.RowKit
set_option linter.unusedVariables false
set_option linter.unusedSimpArgs false

theorem Sv.first23 {w : World} {A : Option Addr} {n cap : Nat} {l : List En} (h : Sv w (.slice A n cap) l) (m : Nat) (hm : m ≤ l.length) : Sv w (.slice A m cap) (l.take m) := by
  obtain ⟨A', cap', e, h1, h2, h3⟩ := h
  injection e with e1 e2 e3
  subst e1 e3
  have hl : (l.take m).length = m := by rw [List.length_take]; omega
  refine ⟨A, cap, by rw [hl], by omega, h2, fun hn => ?_⟩
  obtain ⟨b, off, h4, h5, h6⟩ := h3 (fun e => hn (by rw [e]; simp))
  refine ⟨b, off, h4, h5, fun i x hx j u hu => h6 i x ?_ j u hu⟩
  by_cases hi : i < m
  · rwa [List.getElem?_take, if_pos hi] at hx
  · rw [List.getElem?_take, if_neg hi] at hx
    cases hx
theorem Sv.rest23 {w : World} {b off n cap : Nat} {l : List En} (h : Sv w (.slice (some ⟨b, off, none⟩) n cap) l) (m : Nat) (hm : m ≤ l.length) : Sv w (.slice (some ⟨b, off + m * 9, none⟩) (n - m) (cap - m)) (l.drop m) := by
  obtain ⟨A', cap', e, h1, h2, h3⟩ := h
  injection e with e1 e2 e3
  subst e1 e2 e3
  refine ⟨_, cap - m, by rw [List.length_drop], by rw [List.length_drop]; omega, by omega, fun hn => ?_⟩
  obtain ⟨b2, off2, h4, h5, h6⟩ := h3 (fun e => hn (by rw [e]; simp))
  injection h4 with h4
  injection h4 with e1 e2 _
  subst e1 e2
  refine ⟨b, off + m * 9, rfl, h5, fun i x hx j u hu => ?_⟩
  rw [List.getElem?_drop] at hx
  have := h6 _ x hx j u hu
  rwa [show off + (m + i) * 9 + j = off + m * 9 + i * 9 + j by omega] at this
theorem Sv.none23 (w : World) (A : Option Addr) : Sv w (.slice A 0 0) [] := ⟨A, 0, rfl, Nat.le_refl _, by unfold maxLen; omega, fun h => absurd rfl h⟩
theorem jn_parts (l : List En) (m : Nat) (h : jnE l = 0) : jnE (l.take m) = 0 ∧ jnE (l.drop m) = 0 ∧ (jnS (l.take m)).size + (jnS (l.drop m)).size = (jnS l).size := by
  have har : arB l = true := by
    cases ha : arB l with
    | true => rfl
    | false => unfold jnE at h; rw [ha] at h; simp at h
  have h1 : arB (l.take m) = true := by
    unfold arB at *
    rw [List.all_eq_true] at *
    exact fun x hx => har x (List.mem_of_mem_take hx)
  have h2 : arB (l.drop m) = true := by
    unfold arB at *
    rw [List.all_eq_true] at *
    exact fun x hx => har x (List.mem_of_mem_drop hx)
  refine ⟨?_, ?_, ?_⟩
  · unfold jnE; rw [h1]; rfl
  · unfold jnE; rw [h2]; rfl
  · rw [jnS_size, jnS_size, jnS_size, if_pos h1, if_pos h2, if_pos har]
    have : jnB l = jnB (l.take m) ++ jnB (l.drop m) := by
      unfold jnB
      rw [← List.flatMap_append, List.take_append_drop]
    rw [this, List.length_append]
theorem jn_bad (l : List En) (h : ¬ jnE l = 0) : jnE l = 4 ∧ (jnS l).size = 0 := by
  cases ha : arB l with
  | true => unfold jnE at h; rw [ha] at h; simp at h
  | false =>
    refine ⟨?_, ?_⟩
    · unfold jnE; rw [ha]; rfl
    · rw [jnS_size, ha]; rfl
theorem en_size {k v n a c : Int} {l : List En} (ho : ∀ x ∈ l, x.Ok) (h : enE k v n a c l = 0) : (enS k v n a c l).size = (hdB k.toNat v.toNat n.toNat a.toNat c.toNat l.length).length + (jnS l).size + 4 ∧ (enS k v n a c l).size ≤ 60000 := by
  obtain ⟨⟨hM, _, hs⟩, hz⟩ := enc_of ho h
  obtain ⟨_, _, _, _, _, har, _⟩ := okM_facts hM
  refine ⟨?_, hz⟩
  rw [jnS_size, if_pos har]
  rw [hs, sealS_size]
  show (hdB k.toNat v.toNat n.toNat a.toNat c.toNat l.length ++ jnB l).toArray.size + 4 = _
  rw [List.size_toArray, List.length_append]
theorem hd_size (k v n a c N : Nat) (hN : N ≤ 60000) : (hdB k v n a c 0).length ≤ (hdB k v n a c N).length ∧ (hdB k v n a c N).length ≤ (hdB k v n a c 0).length + 2 := by
  have h1 := uv_mono 0 N (Nat.zero_le _)
  have h2 := uv_len N 2 (by omega)
  have h3 := uv_pos 0
  unfold hdB
  simp only [List.length_append]
  omega
/-- The two messages' sizes. -/
theorem two_sizes {k v n a c : Int} {l : List En} (ho : ∀ x ∈ l, x.Ok) (h : enE k v n a c l = 0) (h0 : enE k v n a c [] = 0) :
    (enS k v n a c []).size + (jnS l).size ≤ (enS k v n a c l).size ∧ (enS k v n a c l).size ≤ (enS k v n a c []).size + (jnS l).size + 2 ∧ (enS k v n a c l).size ≤ 60000 := by
  obtain ⟨h1, h2⟩ := en_size ho h
  obtain ⟨h3, _⟩ := en_size (fun x hx => by simp at hx) h0
  have h4 : (jnS ([] : List En)).size = 0 := rfl
  obtain ⟨hE, _⟩ := enc_of ho h
  have hlen := congrArg List.length (enc_open hE).2
  have hop := (open_ok (enc_open hE).1).2
  rw [ba_len, List.length_append] at hlen
  have := jnB_pos l
  obtain ⟨h5, h6⟩ := hd_size k.toNat v.toNat n.toNat a.toNat c.toNat l.length (by omega)
  rw [show ([] : List En).length = 0 from rfl] at h3
  omega

theorem Sv.rest_any {w : World} {A : Option Addr} {N cap : Nat} {l : List En} (h : Sv w (.slice A N cap) l) (m : Nat) (hm : m ≤ l.length) : Sv w (.slice (Option.map (fun x => x.add (m * 9)) A) (N - m) (cap - m)) (l.drop m) := by
  cases A with
  | some p =>
    by_cases hl : l = []
    · subst hl
      obtain ⟨A', cap', e, h1, h2, h3⟩ := h
      injection e with e1 e2 e3
      subst e1 e2 e3
      exact ⟨some (p.add (m * 9)), cap - m, by simp, by simp, by omega, fun hn => absurd (by simp) hn⟩
    · obtain ⟨A', cap', e, h1, h2, h3⟩ := h
      injection e with e1 e2 e3
      subst e1 e2 e3
      obtain ⟨b, off, e4, h5, h6⟩ := h3 hl
      injection e4 with e4
      subst e4
      have := Sv.rest23 (w := w) (l := l) ⟨_, _, rfl, h1, h2, h3⟩ m hm
      simpa [Addr.add_mid] using this
  | none =>
    obtain ⟨A', cap', e, h1, h2, h3⟩ := h
    injection e with e1 e2 e3
    subst e1 e2 e3
    have hl : l = [] := Classical.byContradiction (fun hn => by obtain ⟨b, off, e4, _⟩ := h3 hn; cases e4)
    subst hl
    exact ⟨none, cap - m, by simp, by simp, by omega, fun hn => absurd (by simp) hn⟩
theorem Sv.rest_end {w : World} {A : Option Addr} {N cap : Nat} {l : List En} (h : Sv w (.slice A N cap) l) (m : Nat) (hm : m ≤ l.length) (hc : cap = m) : Sv w (.slice A 0 0) (l.drop m) := by
  obtain ⟨A', cap', e, h1, h2, h3⟩ := h
  injection e with e1 e2 e3
  subst e1 e2 e3
  rw [List.drop_eq_nil_of_le (by omega)]
  exact Sv.none23 w _
set_option maxRecDepth 100000 in
set_option maxHeartbeats 6400000 in
theorem size_main (w : World) (k v n a c : Int) (A : Option Addr) (N cap : Nat) (l : List En) (hl : l.length = N) (hS : Sv w (.slice A N cap) l) (hO : ∀ x ∈ l, x.Ok) (hb : N ≤ 1048576) (nn : Int) (m : Nat) (hm : m ≤ N) (hnn : ((nn < 0 ∨ (N : Int) < nn) ∧ m = N) ∨ nn = m) :
    Calls Try.prog 6 #[.agg #[.int .i64 k, .int .i64 v, .int .i64 n, .int .i64 a, .int .i64 c, .slice A N cap], .int .i64 nn] w fun e w' => e = .returned (.bool true) ∧ Fr w w' (fun _ => False) := by
  have SC := hid (fun (W : World) (hf : Fr w W (fun _ => False)) => size_calls W (.slice A N cap) l (hS.fr hf) hO (by omega) (hb_of hO (by omega)))
  have EC := hid (fun (W : World) (hf : Fr w W (fun _ => False)) => encode23_calls W k v n a c (.slice A N cap) l (hS.fr hf) hO (by omega) (hb_of hO (by omega)))
  have EB := hid (fun (W : World) => encode23_calls W k v n a c (.slice none 0 0) [] (Sv.nil23 W) (fun x hx => by simp at hx) (by simp) hb_nil)
  have SA := hid (fun (W : World) (hf : Fr w W (fun _ => False)) => size_calls W (.slice A m cap) (l.take m) ((hS.fr hf).first23 m (by omega)) (fun x hx => hO x (List.mem_of_mem_take hx)) (by rw [List.length_take]; omega) (hb_of (fun x hx => hO x (List.mem_of_mem_take hx)) (by rw [List.length_take]; omega)))
  have SB := hid (fun (W : World) (hf : Fr w W (fun _ => False)) (A' : Option Addr) (n' c' : Nat) (hS' : Sv W (.slice A' n' c') (l.drop m)) => size_calls W (.slice A' n' c') (l.drop m) hS' (fun x hx => hO x (List.mem_of_mem_drop hx)) (by rw [List.length_drop]; omega) (hb_of (fun x hx => hO x (List.mem_of_mem_drop hx)) (by rw [List.length_drop]; omega)))
  have HPB := hid (fun (W : World) (hf : Fr w W (fun _ => False)) => hS.fr hf)
  have HCAP : N ≤ cap ∧ cap ≤ maxLen := by
    obtain ⟨A', cap', e, h1, h2, _⟩ := hS
    injection e with e1 e2 e3
    subst e3
    exact ⟨by omega, h2⟩
  obtain ⟨hcap1, hcap2⟩ := HCAP
  unfold maxLen at hcap2
  by_cases h0 : jnE l = 0
  case neg =>
    obtain ⟨g1, g2⟩ := jn_bad l h0
    rw [g1, g2] at SC
    clear h0 g1 g2 SA SB EC EB hnn
    go_enter Try.func6, Try.ntmps6
    go_wp2_with fail
    refine (SC.out _ ((Fr.refl w _).alloc _)).mono ?_
    rintro e w1 ⟨rfl, hf1⟩
    have hA1 := ((Fr.refl w (fun _ => False)).alloc (.cells #[.int .i64 k, .int .i64 v, .int .i64 n, .int .i64 a, .int .i64 c, .slice A N cap] 24)).trans hf1
    clear hf1
    go_wp2_with (go_at_call 11; refine (speaks23_calls _).mono ?_; rintro e6 w6 ⟨rfl, hf6⟩)
    go_ret
    exact ⟨rfl, hA1.trans hf6⟩
  obtain ⟨g1, g2, g3⟩ := jn_parts l m h0
  rw [h0] at SC
  rw [g1] at SA
  rw [g2] at SB
  have HT := hid (fun (h : enE k v n a c l = 0) (h9 : enE k v n a c [] = 0) => two_sizes hO h h9)
  have hzl : (jnS l).size ≤ 13002342400 := by
    rw [jnS_size]
    split
    · next h => have := jnB_len l hO h; omega
    · omega
  rw [← g3] at hzl
  generalize (jnS (l.take m)).size = za at *
  generalize (jnS (l.drop m)).size = zb at *
  generalize (jnS l).size = zl at *
  subst g3
  generalize enE k v n a c l = EL at *
  generalize enE k v n a c [] = E0 at *
  generalize enS k v n a c l = SL at *
  generalize enS k v n a c [] = S0 at *
  clear h0 g1 g2
  go_enter Try.func6, Try.ntmps6
  go_wp2_with fail
  refine (SC.out _ ((Fr.refl w _).alloc _)).mono ?_
  rintro e w1 ⟨rfl, hf1⟩
  have hA1 := ((Fr.refl w (fun _ => False)).alloc (.cells #[.int .i64 k, .int .i64 v, .int .i64 n, .int .i64 a, .int .i64 c, .slice A N cap] 24)).trans hf1
  have hm1 := hf1.at_ (alloc_new w (.cells #[.int .i64 k, .int .i64 v, .int .i64 n, .int .i64 a, .int .i64 c, .slice A N cap] 24)) (fun x => x)
  obtain ⟨c0, c1, c2, c3, c4, c5⟩ := cells6 hm1
  clear hf1

  rcases hnn with ⟨h1 | h1, rfl⟩ | rfl
  case inl.inl =>
    by_cases hmc : cap = m
    case neg =>
      go_wp2_with fail
      refine (SA.out _ hA1).mono ?_
      rintro e w2 ⟨rfl, hf2⟩
      have hA2 := hA1.trans hf2
      have HM2 := hid (hf2.at_ hm1 (fun x => x))
      obtain ⟨c0, c1, c2, c3, c4, c5⟩ := cells6 HM2.out
      have HF2 := hid hA2
      clear hm1 hA1 hf2
      have hPB := HPB.out w2 HF2.out
      have HSB := hid (hPB.rest_any m (by omega))
      have hSB2 := HSB.out
      (try simp only [Nat.sub_self] at hSB2)
      have HSB2 := hid hSB2
      clear hSB2 hPB hA2
      go_wp2_with fail
      refine (SB.out _ HF2.out _ _ _ HSB2.out).mono ?_
      rintro e w3 ⟨rfl, hf3⟩
      have hA3 := HF2.out.trans hf3
      have hm3 := hf3.at_ HM2.out (fun x => x)
      obtain ⟨c0, c1, c2, c3, c4, c5⟩ := cells6 hm3
      have HA3 := hid hA3
      clear hf3 HSB HSB2 hA3 hmc hcap1 hcap2 hb hm hl SC SA SB HPB h1
      go_wp2_with fail
      refine (EC.out _ HA3.out).mono ?_
      rintro e w4 ⟨rfl, hf4⟩
      have hA4 := HA3.out.trans hf4
      obtain ⟨c0, c1, c2, c3, c4, c5⟩ := cells6 (hf4.at_ hm3 (fun x => x))
      clear hm3 hf4
      go_upto_region 13 with fail
      have hbr := alloc_new w4 (.cells #[.int .i64 k, .int .i64 v, .int .i64 n, .int .i64 a, .int .i64 c, .slice none 0 0] 24)
      have HA5 := hid (hA4.alloc (.cells #[.int .i64 k, .int .i64 v, .int .i64 n, .int .i64 a, .int .i64 c, .slice none 0 0] 24))
      clear c0 c1 c2 c3 c4 c5 hA4
      generalize w4.alloc (.cells #[.int .i64 k, .int .i64 v, .int .i64 n, .int .i64 a, .int .i64 c, .slice none 0 0] 24) = w5 at *
      generalize w4.heap.size = bb at *
      obtain ⟨c0, c1, c2, c3, c4, c5⟩ := cells6 hbr
      clear hbr
      by_cases e1 : EL = 0
      case neg =>
        have e3 : (EL == 0) = false := beq_eq_false_iff_ne.2 e1
        clear HT hzl
        go_wp2_with (first
        | (go_at_call 7; refine (EB.out _).mono ?_; rintro e w6 ⟨rfl, hf6⟩; have HA6 := hid (HA5.out.trans hf6))
        | (go_at_call 11; refine (speaks23_calls _).mono ?_; rintro e w7 ⟨rfl, hf7⟩))
        go_ret
        exact ⟨rfl, HA6.out.trans hf7⟩
      by_cases e2 : E0 = 0
      case neg =>
        have e3 : (E0 == 0) = false := beq_eq_false_iff_ne.2 e2
        clear HT hzl
        subst e1
        go_wp2_with (first
        | (go_at_call 7; refine (EB.out _).mono ?_; rintro e w6 ⟨rfl, hf6⟩; have HA6 := hid (HA5.out.trans hf6))
        | (go_at_call 11; refine (speaks23_calls _).mono ?_; rintro e w7 ⟨rfl, hf7⟩))
        go_ret
        exact ⟨rfl, HA6.out.trans hf7⟩
      subst e1 e2
      obtain ⟨t1, t2, t3⟩ := HT.out rfl rfl
      generalize hq1 : SL.size = q1 at *
      generalize hq2 : S0.size = q2 at *
      go_wp2_with (first
        | (go_at_call 7; refine (EB.out _).mono ?_; rintro e w6 ⟨rfl, hf6⟩; have HA6 := hid (HA5.out.trans hf6))
        | (go_at_call 11; refine (speaks23_calls _).mono ?_; rintro e w7 ⟨rfl, hf7⟩))
      go_ret
      exact ⟨rfl, HA6.out.trans hf7⟩

    case pos =>
      subst hmc
      go_wp2_with fail
      refine (SA.out _ hA1).mono ?_
      rintro e w2 ⟨rfl, hf2⟩
      have hA2 := hA1.trans hf2
      have HM2 := hid (hf2.at_ hm1 (fun x => x))
      obtain ⟨c0, c1, c2, c3, c4, c5⟩ := cells6 HM2.out
      have HF2 := hid hA2
      clear hm1 hA1 hf2
      have hPB := HPB.out w2 HF2.out
      have HSB := hid (hPB.rest_end _ (by omega) rfl)
      have hSB2 := HSB.out
      (try simp only [Nat.sub_self] at hSB2)
      have HSB2 := hid hSB2
      clear hSB2 hPB hA2
      go_wp2_with fail
      refine (SB.out _ HF2.out _ _ _ HSB2.out).mono ?_
      rintro e w3 ⟨rfl, hf3⟩
      have hA3 := HF2.out.trans hf3
      have hm3 := hf3.at_ HM2.out (fun x => x)
      obtain ⟨c0, c1, c2, c3, c4, c5⟩ := cells6 hm3
      have HA3 := hid hA3
      clear hf3 HSB HSB2 hA3  hcap1 hcap2 hb hm hl SC SA SB HPB h1
      go_wp2_with fail
      refine (EC.out _ HA3.out).mono ?_
      rintro e w4 ⟨rfl, hf4⟩
      have hA4 := HA3.out.trans hf4
      obtain ⟨c0, c1, c2, c3, c4, c5⟩ := cells6 (hf4.at_ hm3 (fun x => x))
      clear hm3 hf4
      go_upto_region 13 with fail
      have hbr := alloc_new w4 (.cells #[.int .i64 k, .int .i64 v, .int .i64 n, .int .i64 a, .int .i64 c, .slice none 0 0] 24)
      have HA5 := hid (hA4.alloc (.cells #[.int .i64 k, .int .i64 v, .int .i64 n, .int .i64 a, .int .i64 c, .slice none 0 0] 24))
      clear c0 c1 c2 c3 c4 c5 hA4
      generalize w4.alloc (.cells #[.int .i64 k, .int .i64 v, .int .i64 n, .int .i64 a, .int .i64 c, .slice none 0 0] 24) = w5 at *
      generalize w4.heap.size = bb at *
      obtain ⟨c0, c1, c2, c3, c4, c5⟩ := cells6 hbr
      clear hbr
      by_cases e1 : EL = 0
      case neg =>
        have e3 : (EL == 0) = false := beq_eq_false_iff_ne.2 e1
        clear HT hzl
        go_wp2_with (first
        | (go_at_call 7; refine (EB.out _).mono ?_; rintro e w6 ⟨rfl, hf6⟩; have HA6 := hid (HA5.out.trans hf6))
        | (go_at_call 11; refine (speaks23_calls _).mono ?_; rintro e w7 ⟨rfl, hf7⟩))
        go_ret
        exact ⟨rfl, HA6.out.trans hf7⟩
      by_cases e2 : E0 = 0
      case neg =>
        have e3 : (E0 == 0) = false := beq_eq_false_iff_ne.2 e2
        clear HT hzl
        subst e1
        go_wp2_with (first
        | (go_at_call 7; refine (EB.out _).mono ?_; rintro e w6 ⟨rfl, hf6⟩; have HA6 := hid (HA5.out.trans hf6))
        | (go_at_call 11; refine (speaks23_calls _).mono ?_; rintro e w7 ⟨rfl, hf7⟩))
        go_ret
        exact ⟨rfl, HA6.out.trans hf7⟩
      subst e1 e2
      obtain ⟨t1, t2, t3⟩ := HT.out rfl rfl
      generalize hq1 : SL.size = q1 at *
      generalize hq2 : S0.size = q2 at *
      go_wp2_with (first
        | (go_at_call 7; refine (EB.out _).mono ?_; rintro e w6 ⟨rfl, hf6⟩; have HA6 := hid (HA5.out.trans hf6))
        | (go_at_call 11; refine (speaks23_calls _).mono ?_; rintro e w7 ⟨rfl, hf7⟩))
      go_ret
      exact ⟨rfl, HA6.out.trans hf7⟩

  case inl.inr =>
    by_cases hmc : cap = m
    case neg =>
      go_wp2_with fail
      refine (SA.out _ hA1).mono ?_
      rintro e w2 ⟨rfl, hf2⟩
      have hA2 := hA1.trans hf2
      have HM2 := hid (hf2.at_ hm1 (fun x => x))
      obtain ⟨c0, c1, c2, c3, c4, c5⟩ := cells6 HM2.out
      have HF2 := hid hA2
      clear hm1 hA1 hf2
      have hPB := HPB.out w2 HF2.out
      have HSB := hid (hPB.rest_any m (by omega))
      have hSB2 := HSB.out
      (try simp only [Nat.sub_self] at hSB2)
      have HSB2 := hid hSB2
      clear hSB2 hPB hA2
      go_wp2_with fail
      refine (SB.out _ HF2.out _ _ _ HSB2.out).mono ?_
      rintro e w3 ⟨rfl, hf3⟩
      have hA3 := HF2.out.trans hf3
      have hm3 := hf3.at_ HM2.out (fun x => x)
      obtain ⟨c0, c1, c2, c3, c4, c5⟩ := cells6 hm3
      have HA3 := hid hA3
      clear hf3 HSB HSB2 hA3 hmc hcap1 hcap2 hb hm hl SC SA SB HPB h1
      go_wp2_with fail
      refine (EC.out _ HA3.out).mono ?_
      rintro e w4 ⟨rfl, hf4⟩
      have hA4 := HA3.out.trans hf4
      obtain ⟨c0, c1, c2, c3, c4, c5⟩ := cells6 (hf4.at_ hm3 (fun x => x))
      clear hm3 hf4
      go_upto_region 13 with fail
      have hbr := alloc_new w4 (.cells #[.int .i64 k, .int .i64 v, .int .i64 n, .int .i64 a, .int .i64 c, .slice none 0 0] 24)
      have HA5 := hid (hA4.alloc (.cells #[.int .i64 k, .int .i64 v, .int .i64 n, .int .i64 a, .int .i64 c, .slice none 0 0] 24))
      clear c0 c1 c2 c3 c4 c5 hA4
      generalize w4.alloc (.cells #[.int .i64 k, .int .i64 v, .int .i64 n, .int .i64 a, .int .i64 c, .slice none 0 0] 24) = w5 at *
      generalize w4.heap.size = bb at *
      obtain ⟨c0, c1, c2, c3, c4, c5⟩ := cells6 hbr
      clear hbr
      by_cases e1 : EL = 0
      case neg =>
        have e3 : (EL == 0) = false := beq_eq_false_iff_ne.2 e1
        clear HT hzl
        go_wp2_with (first
        | (go_at_call 7; refine (EB.out _).mono ?_; rintro e w6 ⟨rfl, hf6⟩; have HA6 := hid (HA5.out.trans hf6))
        | (go_at_call 11; refine (speaks23_calls _).mono ?_; rintro e w7 ⟨rfl, hf7⟩))
        go_ret
        exact ⟨rfl, HA6.out.trans hf7⟩
      by_cases e2 : E0 = 0
      case neg =>
        have e3 : (E0 == 0) = false := beq_eq_false_iff_ne.2 e2
        clear HT hzl
        subst e1
        go_wp2_with (first
        | (go_at_call 7; refine (EB.out _).mono ?_; rintro e w6 ⟨rfl, hf6⟩; have HA6 := hid (HA5.out.trans hf6))
        | (go_at_call 11; refine (speaks23_calls _).mono ?_; rintro e w7 ⟨rfl, hf7⟩))
        go_ret
        exact ⟨rfl, HA6.out.trans hf7⟩
      subst e1 e2
      obtain ⟨t1, t2, t3⟩ := HT.out rfl rfl
      generalize hq1 : SL.size = q1 at *
      generalize hq2 : S0.size = q2 at *
      go_wp2_with (first
        | (go_at_call 7; refine (EB.out _).mono ?_; rintro e w6 ⟨rfl, hf6⟩; have HA6 := hid (HA5.out.trans hf6))
        | (go_at_call 11; refine (speaks23_calls _).mono ?_; rintro e w7 ⟨rfl, hf7⟩))
      go_ret
      exact ⟨rfl, HA6.out.trans hf7⟩

    case pos =>
      subst hmc
      go_wp2_with fail
      refine (SA.out _ hA1).mono ?_
      rintro e w2 ⟨rfl, hf2⟩
      have hA2 := hA1.trans hf2
      have HM2 := hid (hf2.at_ hm1 (fun x => x))
      obtain ⟨c0, c1, c2, c3, c4, c5⟩ := cells6 HM2.out
      have HF2 := hid hA2
      clear hm1 hA1 hf2
      have hPB := HPB.out w2 HF2.out
      have HSB := hid (hPB.rest_end _ (by omega) rfl)
      have hSB2 := HSB.out
      (try simp only [Nat.sub_self] at hSB2)
      have HSB2 := hid hSB2
      clear hSB2 hPB hA2
      go_wp2_with fail
      refine (SB.out _ HF2.out _ _ _ HSB2.out).mono ?_
      rintro e w3 ⟨rfl, hf3⟩
      have hA3 := HF2.out.trans hf3
      have hm3 := hf3.at_ HM2.out (fun x => x)
      obtain ⟨c0, c1, c2, c3, c4, c5⟩ := cells6 hm3
      have HA3 := hid hA3
      clear hf3 HSB HSB2 hA3  hcap1 hcap2 hb hm hl SC SA SB HPB h1
      go_wp2_with fail
      refine (EC.out _ HA3.out).mono ?_
      rintro e w4 ⟨rfl, hf4⟩
      have hA4 := HA3.out.trans hf4
      obtain ⟨c0, c1, c2, c3, c4, c5⟩ := cells6 (hf4.at_ hm3 (fun x => x))
      clear hm3 hf4
      go_upto_region 13 with fail
      have hbr := alloc_new w4 (.cells #[.int .i64 k, .int .i64 v, .int .i64 n, .int .i64 a, .int .i64 c, .slice none 0 0] 24)
      have HA5 := hid (hA4.alloc (.cells #[.int .i64 k, .int .i64 v, .int .i64 n, .int .i64 a, .int .i64 c, .slice none 0 0] 24))
      clear c0 c1 c2 c3 c4 c5 hA4
      generalize w4.alloc (.cells #[.int .i64 k, .int .i64 v, .int .i64 n, .int .i64 a, .int .i64 c, .slice none 0 0] 24) = w5 at *
      generalize w4.heap.size = bb at *
      obtain ⟨c0, c1, c2, c3, c4, c5⟩ := cells6 hbr
      clear hbr
      by_cases e1 : EL = 0
      case neg =>
        have e3 : (EL == 0) = false := beq_eq_false_iff_ne.2 e1
        clear HT hzl
        go_wp2_with (first
        | (go_at_call 7; refine (EB.out _).mono ?_; rintro e w6 ⟨rfl, hf6⟩; have HA6 := hid (HA5.out.trans hf6))
        | (go_at_call 11; refine (speaks23_calls _).mono ?_; rintro e w7 ⟨rfl, hf7⟩))
        go_ret
        exact ⟨rfl, HA6.out.trans hf7⟩
      by_cases e2 : E0 = 0
      case neg =>
        have e3 : (E0 == 0) = false := beq_eq_false_iff_ne.2 e2
        clear HT hzl
        subst e1
        go_wp2_with (first
        | (go_at_call 7; refine (EB.out _).mono ?_; rintro e w6 ⟨rfl, hf6⟩; have HA6 := hid (HA5.out.trans hf6))
        | (go_at_call 11; refine (speaks23_calls _).mono ?_; rintro e w7 ⟨rfl, hf7⟩))
        go_ret
        exact ⟨rfl, HA6.out.trans hf7⟩
      subst e1 e2
      obtain ⟨t1, t2, t3⟩ := HT.out rfl rfl
      generalize hq1 : SL.size = q1 at *
      generalize hq2 : S0.size = q2 at *
      go_wp2_with (first
        | (go_at_call 7; refine (EB.out _).mono ?_; rintro e w6 ⟨rfl, hf6⟩; have HA6 := hid (HA5.out.trans hf6))
        | (go_at_call 11; refine (speaks23_calls _).mono ?_; rintro e w7 ⟨rfl, hf7⟩))
      go_ret
      exact ⟨rfl, HA6.out.trans hf7⟩

  case inr =>
    by_cases hmc : cap = m
    case neg =>
      go_wp2_with fail
      refine (SA.out _ hA1).mono ?_
      rintro e w2 ⟨rfl, hf2⟩
      have hA2 := hA1.trans hf2
      have HM2 := hid (hf2.at_ hm1 (fun x => x))
      obtain ⟨c0, c1, c2, c3, c4, c5⟩ := cells6 HM2.out
      have HF2 := hid hA2
      clear hm1 hA1 hf2
      have hPB := HPB.out w2 HF2.out
      have HSB := hid (hPB.rest_any m (by omega))
      have hSB2 := HSB.out
      (try simp only [Nat.sub_self] at hSB2)
      have HSB2 := hid hSB2
      clear hSB2 hPB hA2
      go_wp2_with fail
      refine (SB.out _ HF2.out _ _ _ HSB2.out).mono ?_
      rintro e w3 ⟨rfl, hf3⟩
      have hA3 := HF2.out.trans hf3
      have hm3 := hf3.at_ HM2.out (fun x => x)
      obtain ⟨c0, c1, c2, c3, c4, c5⟩ := cells6 hm3
      have HA3 := hid hA3
      clear hf3 HSB HSB2 hA3 hmc hcap1 hcap2 hb hm hl SC SA SB HPB 
      go_wp2_with fail
      refine (EC.out _ HA3.out).mono ?_
      rintro e w4 ⟨rfl, hf4⟩
      have hA4 := HA3.out.trans hf4
      obtain ⟨c0, c1, c2, c3, c4, c5⟩ := cells6 (hf4.at_ hm3 (fun x => x))
      clear hm3 hf4
      go_upto_region 13 with fail
      have hbr := alloc_new w4 (.cells #[.int .i64 k, .int .i64 v, .int .i64 n, .int .i64 a, .int .i64 c, .slice none 0 0] 24)
      have HA5 := hid (hA4.alloc (.cells #[.int .i64 k, .int .i64 v, .int .i64 n, .int .i64 a, .int .i64 c, .slice none 0 0] 24))
      clear c0 c1 c2 c3 c4 c5 hA4
      generalize w4.alloc (.cells #[.int .i64 k, .int .i64 v, .int .i64 n, .int .i64 a, .int .i64 c, .slice none 0 0] 24) = w5 at *
      generalize w4.heap.size = bb at *
      obtain ⟨c0, c1, c2, c3, c4, c5⟩ := cells6 hbr
      clear hbr
      by_cases e1 : EL = 0
      case neg =>
        have e3 : (EL == 0) = false := beq_eq_false_iff_ne.2 e1
        clear HT hzl
        go_wp2_with (first
        | (go_at_call 7; refine (EB.out _).mono ?_; rintro e w6 ⟨rfl, hf6⟩; have HA6 := hid (HA5.out.trans hf6))
        | (go_at_call 11; refine (speaks23_calls _).mono ?_; rintro e w7 ⟨rfl, hf7⟩))
        go_ret
        exact ⟨rfl, HA6.out.trans hf7⟩
      by_cases e2 : E0 = 0
      case neg =>
        have e3 : (E0 == 0) = false := beq_eq_false_iff_ne.2 e2
        clear HT hzl
        subst e1
        go_wp2_with (first
        | (go_at_call 7; refine (EB.out _).mono ?_; rintro e w6 ⟨rfl, hf6⟩; have HA6 := hid (HA5.out.trans hf6))
        | (go_at_call 11; refine (speaks23_calls _).mono ?_; rintro e w7 ⟨rfl, hf7⟩))
        go_ret
        exact ⟨rfl, HA6.out.trans hf7⟩
      subst e1 e2
      obtain ⟨t1, t2, t3⟩ := HT.out rfl rfl
      generalize hq1 : SL.size = q1 at *
      generalize hq2 : S0.size = q2 at *
      go_wp2_with (first
        | (go_at_call 7; refine (EB.out _).mono ?_; rintro e w6 ⟨rfl, hf6⟩; have HA6 := hid (HA5.out.trans hf6))
        | (go_at_call 11; refine (speaks23_calls _).mono ?_; rintro e w7 ⟨rfl, hf7⟩))
      go_ret
      exact ⟨rfl, HA6.out.trans hf7⟩

    case pos =>
      subst hmc
      obtain rfl : N = cap := by omega
      go_wp2_with fail
      refine (SA.out _ hA1).mono ?_
      rintro e w2 ⟨rfl, hf2⟩
      have hA2 := hA1.trans hf2
      have HM2 := hid (hf2.at_ hm1 (fun x => x))
      obtain ⟨c0, c1, c2, c3, c4, c5⟩ := cells6 HM2.out
      have HF2 := hid hA2
      clear hm1 hA1 hf2
      have hPB := HPB.out w2 HF2.out
      have HSB := hid (hPB.rest_end _ (by omega) rfl)
      have hSB2 := HSB.out
      (try simp only [Nat.sub_self] at hSB2)
      have HSB2 := hid hSB2
      clear hSB2 hPB hA2
      go_wp2_with fail
      refine (SB.out _ HF2.out _ _ _ HSB2.out).mono ?_
      rintro e w3 ⟨rfl, hf3⟩
      have hA3 := HF2.out.trans hf3
      have hm3 := hf3.at_ HM2.out (fun x => x)
      obtain ⟨c0, c1, c2, c3, c4, c5⟩ := cells6 hm3
      have HA3 := hid hA3
      clear hf3 HSB HSB2 hA3  hcap1 hcap2 hb hm hl SC SA SB HPB 
      go_wp2_with fail
      refine (EC.out _ HA3.out).mono ?_
      rintro e w4 ⟨rfl, hf4⟩
      have hA4 := HA3.out.trans hf4
      obtain ⟨c0, c1, c2, c3, c4, c5⟩ := cells6 (hf4.at_ hm3 (fun x => x))
      clear hm3 hf4
      go_upto_region 13 with fail
      have hbr := alloc_new w4 (.cells #[.int .i64 k, .int .i64 v, .int .i64 n, .int .i64 a, .int .i64 c, .slice none 0 0] 24)
      have HA5 := hid (hA4.alloc (.cells #[.int .i64 k, .int .i64 v, .int .i64 n, .int .i64 a, .int .i64 c, .slice none 0 0] 24))
      clear c0 c1 c2 c3 c4 c5 hA4
      generalize w4.alloc (.cells #[.int .i64 k, .int .i64 v, .int .i64 n, .int .i64 a, .int .i64 c, .slice none 0 0] 24) = w5 at *
      generalize w4.heap.size = bb at *
      obtain ⟨c0, c1, c2, c3, c4, c5⟩ := cells6 hbr
      clear hbr
      by_cases e1 : EL = 0
      case neg =>
        have e3 : (EL == 0) = false := beq_eq_false_iff_ne.2 e1
        clear HT hzl
        go_wp2_with (first
        | (go_at_call 7; refine (EB.out _).mono ?_; rintro e w6 ⟨rfl, hf6⟩; have HA6 := hid (HA5.out.trans hf6))
        | (go_at_call 11; refine (speaks23_calls _).mono ?_; rintro e w7 ⟨rfl, hf7⟩))
        go_ret
        exact ⟨rfl, HA6.out.trans hf7⟩
      by_cases e2 : E0 = 0
      case neg =>
        have e3 : (E0 == 0) = false := beq_eq_false_iff_ne.2 e2
        clear HT hzl
        subst e1
        go_wp2_with (first
        | (go_at_call 7; refine (EB.out _).mono ?_; rintro e w6 ⟨rfl, hf6⟩; have HA6 := hid (HA5.out.trans hf6))
        | (go_at_call 11; refine (speaks23_calls _).mono ?_; rintro e w7 ⟨rfl, hf7⟩))
        go_ret
        exact ⟨rfl, HA6.out.trans hf7⟩
      subst e1 e2
      obtain ⟨t1, t2, t3⟩ := HT.out rfl rfl
      generalize hq1 : SL.size = q1 at *
      generalize hq2 : S0.size = q2 at *
      go_wp2_with (first
        | (go_at_call 7; refine (EB.out _).mono ?_; rintro e w6 ⟨rfl, hf6⟩; have HA6 := hid (HA5.out.trans hf6))
        | (go_at_call 11; refine (speaks23_calls _).mono ?_; rintro e w7 ⟨rfl, hf7⟩))
      go_ret
      exact ⟨rfl, HA6.out.trans hf7⟩

theorem msgSize_row (w : World) (k v n a c : Int) (u : Value) (l : List En) (nn : Int) (hS : Sv w u l) (hO : ∀ x ∈ l, x.Ok) (hb : l.length ≤ 1048576) (b1 : -9223372036854775808 ≤ nn) (b2 : nn < 9223372036854775808) :
    Calls Try.prog 6 #[.agg #[.int .i64 k, .int .i64 v, .int .i64 n, .int .i64 a, .int .i64 c, u], .int .i64 nn] w fun e w' => e = .returned (.bool true) ∧ Fr w w' (fun _ => False) := by
  have hS2 := hS
  obtain ⟨A, cap, rfl, _⟩ := hS2
  by_cases h : nn < 0 ∨ (l.length : Int) < nn
  · exact size_main w k v n a c A l.length cap l rfl hS hO hb nn l.length (Nat.le_refl _) (.inl ⟨h, rfl⟩)
  · exact size_main w k v n a c A l.length cap l rfl hS hO hb nn nn.toNat (by omega) (.inr (by omega))
end Go.Proofs.Ytmnmmmoeeapeiaa.Cw
