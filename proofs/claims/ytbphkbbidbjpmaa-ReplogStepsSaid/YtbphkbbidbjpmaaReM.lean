/- Replace: four cases. Own work. -/
import Derived.Test.YtbphkbbidbjpmaaReL
namespace Go.Proofs.Ytbphkbbidbjpmaa.Cw
open Go.RowKit
set_option linter.unusedVariables false
set_option linter.unusedSimpArgs false

set_option maxRecDepth 100000 in
set_option maxHeartbeats 6400000 in
theorem replaceN0 (w : World) (g : Nat) (u : Value) (ns : List En) (h : Lw w g (.slice none 0 0) []) (hu : Sv w u ns) (hn : ns.length ≤ 1466015503701) (hR : allR ns) (h0 : ns = []) :
    Calls Try.prog 20 #[.pointer (some ⟨g, 0, none⟩), .int .i64 0, u] w (RX w g (.slice none 0 0) [] [] ns) := by
  have c0 := h.c0
  obtain ⟨B, ucap, rfl, u1, u2, u3⟩ := hu
  have HWR := hid (fun (W : World) (hf : Fr w W (fun _ => False)) => WR.nil W)
  have HVB : Hid (∀ x ∈ [] ++ ns, VB x) := hid (fun x hx => by rw [List.nil_append] at hx; exact ⟨(hR x hx).1.1, (hR x hx).1.2⟩)
  have HH := hid h
  have HN : Hid (ns.length ≤ 1466015503701) := hid hn
  subst h0
  rw [List.length_nil] at u1
  have HRES := True.intro
  clear h hR u3
  clear HRES
  go_enter Try.func20, Try.ntmps20
  go_wp2_with (go_at_call 18; refine (len_cell _ _ _ _ _ c0).mono ?_; rintro e w' ⟨rfl, rfl⟩)
  refine wp_loop_rounds 1 ?_
  rw [rounds_succ]
  go_wp2_with (at_builtin; refine wpList_append_w0 rfl _ _ rfl _ _ _ _ _ (by rfl) (by rfl) (by omega) ?_)
  have hW : WR w' (.slice none 0 0) ([] ++ []) := by
    rw [List.append_nil]
    exact HWR.out w' (Fr.refl _ _)
  have hF4 := Fr.refl w' (fun _ => False)
  have hL4 := HH.out
  have hWn : Wn w' (.slice none 0 0) (.slice none 0 0) := Wn.refl _ _
  have HW := hid hW
  have HF4 := hid hF4
  have HL4 := hid hL4
  have HWN := hid hWn
  have c4 := hL4.c0
  have f4 := hL4.f0
  clear hW hF4 hL4 hWn c0
  have SC := sorted_calls _ _ _ HW.out.sv HVB.out (by simp)
  generalize hS : srt ([] ++ []) = S at *
  have HS := hid hS
  clear hS
  refine SC.mono ?_
  rintro e w5 ⟨rfl, hf5⟩
  have HF5 := hid hf5
  have c5 := cell_fr c4 hf5
  have f5 := (HL4.out.heap hf5).f0
  clear hf5 SC c4 f4
  cases S
  · go_wp2_with fail
    go_ret
    exact ⟨7, _, RP.stay HH.out (HF4.out.trans HF5.out), by rw [if_pos HS.out], by rw [if_neg (by decide)]⟩
  · go_wp2_with fail
    go_ret
    exact ⟨0, _, RP.done HL4.out HF4.out HF5.out HW.out HWN.out, by rw [if_neg (by rw [HS.out]; decide)]; rfl, by rw [if_pos rfl]⟩

set_option maxRecDepth 100000 in
set_option maxHeartbeats 6400000 in
theorem replaceN1 (w : World) (g : Nat) (u : Value) (ns : List En) (h : Lw w g (.slice none 0 0) []) (hu : Sv w u ns) (hn : ns.length ≤ 1466015503701) (hR : allR ns) (h0 : ns ≠ []) :
    Calls Try.prog 20 #[.pointer (some ⟨g, 0, none⟩), .int .i64 0, u] w (RX w g (.slice none 0 0) [] [] ns) := by
  have c0 := h.c0
  obtain ⟨B, ucap, rfl, u1, u2, u3⟩ := hu
  have HWR := hid (fun (W : World) (hf : Fr w W (fun _ => False)) => WR.nil W)
  have HVB : Hid (∀ x ∈ [] ++ ns, VB x) := hid (fun x hx => by rw [List.nil_append] at hx; exact ⟨(hR x hx).1.1, (hR x hx).1.2⟩)
  have HH := hid h
  have HN : Hid (ns.length ≤ 1466015503701) := hid hn
  obtain ⟨ub, uoff, rfl, hub, HA⟩ := u3 h0
  have HA := hid HA
  have HX := hid (fun (i : Nat) (hi : i < ns.length) => (⟨_, List.getElem?_eq_getElem hi, hR _ (List.getElem_mem hi)⟩ : ∃ x, ns[i]? = some x ∧ x.R))
  have hp : 0 < ns.length := by
    rcases Nat.eq_zero_or_pos ns.length with h1 | h1
    · exact absurd (List.eq_nil_of_length_eq_zero h1) h0
    · exact h1
  have HP := hid hp
  have HRES := hid (fun (r : Int) (h : r = (if srt ([] ++ ns) = false then 7 else if 4096 < 0 + ns.length then 5 else 0)) => h)
  clear h hR u3 h0
  generalize hM : ns.length = M at *
  have HM := hid hM
  clear hM
  clear HRES
  go_enter Try.func20, Try.ntmps20
  go_wp2_with (go_at_call 18; refine (len_cell _ _ _ _ _ c0).mono ?_; rintro e w' ⟨rfl, rfl⟩)
  go_loopw [20] (fun t wr => ∃ i : Nat, i ≤ M ∧ t = .int .i64 i ∧ Fr w' wr (fun _ => False)) (fun t _ => M - (intOf t).toNat)
  case atStart => exact ⟨0, by omega, rfl, Fr.refl _ _⟩
  case round =>
    obtain ⟨i, hi, rfl, hf⟩ := hrel
    by_cases hlt : i < M
    · obtain ⟨x, hx, hxR⟩ := HX.out i hlt
      obtain ⟨a0, a1, a2, a3, a4, a5, a6, a7, a8⟩ := (HA.out.fr hf).nine hx
      have HF := hid hf
      have RC := hid (fun W => right_calls W x.a x.b x.c x.k x.t x.n x.p x.q x.r)
      rw [decide_eq_true (show Rt x.a x.b x.c x.p x.q x.r from hxR)] at RC
      clear hx hf hxR
      obtain ⟨a, b, c, k, t, n, p, q, r⟩ := x
      unfold enV at RC
      simp only at a0 a1 a2 a3 a4 a5 a6 a7 a8 RC
      go_wp2_with fail
      refine (RC.out _).mono ?_
      rintro e w2 ⟨rfl, hf2⟩
      go_wp2_with fail
      go_round
      case rel => exact ⟨i + 1, by omega, by go_num, (HF.out.alloc _).trans hf2⟩
      case measure => simp [intOf]; omega
    · have he : i = M := by omega
      subst he
      have c0 := cell_fr c0 hf
      have HF := hid hf
      clear hf
      have HNEWS := hid (HA.out.fr HF.out).flat
      go_wp2_with (at_builtin; refine wpList_append_w rfl _ _ rfl (.slice none 0 0) ([]) ns (by rfl) (HWR.out _ HF.out) ⟨ub, uoff, none⟩ i ucap (by rfl) HM.out.symm HNEWS.out HP.out (by have := HN.out; have := HM.out; simp only [List.length_nil]; omega) ?_; intro gg cap4 w4 hW hgrow hat hlt4 hgg)
      obtain ⟨hg1, hg2⟩ := hgg _ _ _ rfl (by have := HP.out; simp only [List.length_nil]; omega)
      have hF4 : Fr w' w4 (fun _ => False) := HF.out.grown hg2 (fun k hk _ => by cases hk)
      have hL4 := HH.out.heap hF4
      have hWn : Wn w' (.slice none 0 0) (.slice (some ⟨gg, 0, none⟩) (([] : List En).length + i) cap4) := Wn.new (w4 := w4) (by rw [hg1]; exact HF.out.size)
      clear hgrow hat hgg hg1 hg2 c0
      have HW := hid hW
      have HF4 := hid hF4
      have HL4 := hid hL4
      have HWN := hid hWn
      have c4 := hL4.c0
      have f4 := hL4.f0
      clear hW hF4 hL4 hWn
      rw [List.length_nil, Nat.zero_add] at HW HWN
      go_wp2_with fail
      have SC := sorted_calls _ _ _ HW.out.sv HVB.out (by rw [List.length_append]; have := HN.out; have := HM.out; simp only [List.length_nil]; omega)
      generalize hS : srt ([] ++ ns) = S at *
      have HS := hid hS
      clear hS
      refine SC.mono ?_
      rintro e w5 ⟨rfl, hf5⟩
      have HF5 := hid hf5
      have c5 := cell_fr c4 hf5
      have f5 := (HL4.out.heap hf5).f0
      clear hf5 SC c4 f4
      cases S
      · go_wp2_with fail
        go_ret
        exact ⟨7, _, RP.stay HH.out (HF4.out.trans HF5.out), by rw [if_pos HS.out], by rw [if_neg (by decide)]⟩
      · have hNN : i = i := rfl
        have HNN := hid hNN
        clear hNN
        by_cases hc : 4096 < i
        · go_wp2_with fail
          go_ret
          refine ⟨5, _, RP.stay HH.out (HF4.out.trans HF5.out), ?_, by rw [if_neg (by decide)]⟩
          rw [if_neg (by rw [HS.out]; decide), if_pos]
          have := HNN.out
          have := HM.out
          first | omega | (simp only [List.length_nil]; omega)
        · go_wp2_with fail
          go_ret
          refine ⟨0, _, RP.done HL4.out HF4.out HF5.out HW.out HWN.out, ?_, by rw [if_pos rfl]⟩
          rw [if_neg (by rw [HS.out]; decide), if_neg]
          have := HNN.out
          have := HM.out
          first | omega | (simp only [List.length_nil]; omega)

set_option maxRecDepth 100000 in
set_option maxHeartbeats 6400000 in
theorem replaceB0 (w : World) (g b cap : Nat) (u : Value) (es ns : List En) (k : Nat) (h : Lw w g (.slice (some ⟨b, 0, none⟩) es.length cap) es) (hk : k ≤ es.length) (hc : es.length ≤ cap) (hu : Sv w u ns) (hn : ns.length ≤ 1466015503701) (hes : es.length ≤ 4096) (hV : ∀ x ∈ es, VB x) (hR : allR ns) (h0 : ns = []) :
    Calls Try.prog 20 #[.pointer (some ⟨g, 0, none⟩), .int .i64 k, u] w (RX w g (.slice (some ⟨b, 0, none⟩) es.length cap) es (es.take k) ns) := by
  have c0 := h.c0
  obtain ⟨B, ucap, rfl, u1, u2, u3⟩ := hu
  have HWR := hid (fun (W : World) (hf : Fr w W (fun _ => False)) => (h.2.fr hf (fun _ _ x => x)).cut k hk)
  have HVB : Hid (∀ x ∈ es.take k ++ ns, VB x) := hid (fun x hx => by
    rcases List.mem_append.1 hx with hx | hx
    · exact hV x (List.mem_of_mem_take hx)
    · exact ⟨(hR x hx).1.1, (hR x hx).1.2⟩)
  have hl0 : (es.take k).length = k := by rw [List.length_take]; omega
  have HL0 := hid hl0
  clear hl0
  have HH := hid h
  have HN : Hid (ns.length ≤ 1466015503701) := hid hn
  subst h0
  rw [List.length_nil] at u1
  have HRES := True.intro
  clear h hR u3 hV
  generalize hES : es.length = N at *
  have HES := hid hES
  clear hES
  have hd : decide ((N : Int) < k) = false := decide_eq_false (by omega)
  have hdn : decide (N < k) = false := decide_eq_false (by omega)
  have hd0 : decide ((k : Int) < 0) = false := decide_eq_false (by omega)
  generalize es.take k = L0 at *
  have hkc : (k : Int) ≤ (cap : Int) := by omega
  have hk0 : (0 : Int) ≤ (k : Int) := by omega
  clear HRES
  go_enter Try.func20, Try.ntmps20
  go_wp2_with (go_at_call 18; refine (len_cell _ _ _ _ _ c0).mono ?_; rintro e w' ⟨rfl, rfl⟩)
  refine wp_loop_rounds 1 ?_
  rw [rounds_succ]
  go_wp2_with (at_builtin; refine wpList_append_w0 rfl _ _ rfl _ _ _ _ _ (by rfl) (by rfl) (by omega) ?_)
  have hW : WR w' (.slice (some ⟨b, 0, none⟩) k k) (L0 ++ []) := by
    rw [List.append_nil]
    exact HWR.out w' (Fr.refl _ _)
  have hF4 := Fr.refl w' (fun _ => False)
  have hL4 := HH.out
  have hWn : Wn w' (.slice (some ⟨b, 0, none⟩) N cap) (.slice (some ⟨b, 0, none⟩) k k) := Wn.cut
  have HW := hid hW
  have HF4 := hid hF4
  have HL4 := hid hL4
  have HWN := hid hWn
  have c4 := hL4.c0
  have f4 := hL4.f0
  clear hW hF4 hL4 hWn c0
  have SC := sorted_calls _ _ _ HW.out.sv HVB.out (by rw [List.length_append]; have := HL0.out; simp only [List.length_nil]; omega)
  generalize hS : srt (L0 ++ []) = S at *
  have HS := hid hS
  clear hS
  refine SC.mono ?_
  rintro e w5 ⟨rfl, hf5⟩
  have HF5 := hid hf5
  have c5 := cell_fr c4 hf5
  have f5 := (HL4.out.heap hf5).f0
  clear hf5 SC c4 f4
  cases S
  · go_wp2_with fail
    go_ret
    exact ⟨7, _, RP.stay HH.out (HF4.out.trans HF5.out), by rw [if_pos HS.out], by rw [if_neg (by decide)]⟩
  · have hNN : k = k := rfl
    have HNN := hid hNN
    clear hNN
    by_cases hc : 4096 < k
    · exfalso; omega
    · go_wp2_with fail
      go_ret
      refine ⟨0, _, RP.done HL4.out HF4.out HF5.out HW.out HWN.out, ?_, by rw [if_pos rfl]⟩
      rw [if_neg (by rw [HS.out]; decide), if_neg]
      have := HNN.out
      have := HL0.out
      first | omega | (simp only [List.length_nil]; omega)

set_option maxRecDepth 100000 in
set_option maxHeartbeats 6400000 in
theorem replaceB1 (w : World) (g b cap : Nat) (u : Value) (es ns : List En) (k : Nat) (h : Lw w g (.slice (some ⟨b, 0, none⟩) es.length cap) es) (hk : k ≤ es.length) (hc : es.length ≤ cap) (hu : Sv w u ns) (hn : ns.length ≤ 1466015503701) (hes : es.length ≤ 4096) (hV : ∀ x ∈ es, VB x) (hR : allR ns) (h0 : ns ≠ []) :
    Calls Try.prog 20 #[.pointer (some ⟨g, 0, none⟩), .int .i64 k, u] w (RX w g (.slice (some ⟨b, 0, none⟩) es.length cap) es (es.take k) ns) := by
  have c0 := h.c0
  obtain ⟨B, ucap, rfl, u1, u2, u3⟩ := hu
  have HWR := hid (fun (W : World) (hf : Fr w W (fun _ => False)) => (h.2.fr hf (fun _ _ x => x)).cut k hk)
  have HVB : Hid (∀ x ∈ es.take k ++ ns, VB x) := hid (fun x hx => by
    rcases List.mem_append.1 hx with hx | hx
    · exact hV x (List.mem_of_mem_take hx)
    · exact ⟨(hR x hx).1.1, (hR x hx).1.2⟩)
  have hl0 : (es.take k).length = k := by rw [List.length_take]; omega
  have HL0 := hid hl0
  clear hl0
  have HH := hid h
  have HN : Hid (ns.length ≤ 1466015503701) := hid hn
  obtain ⟨ub, uoff, rfl, hub, HA⟩ := u3 h0
  have HA := hid HA
  have HX := hid (fun (i : Nat) (hi : i < ns.length) => (⟨_, List.getElem?_eq_getElem hi, hR _ (List.getElem_mem hi)⟩ : ∃ x, ns[i]? = some x ∧ x.R))
  have hp : 0 < ns.length := by
    rcases Nat.eq_zero_or_pos ns.length with h1 | h1
    · exact absurd (List.eq_nil_of_length_eq_zero h1) h0
    · exact h1
  have HP := hid hp
  have HRES := hid (fun (r : Int) (h : r = (if srt (es.take k ++ ns) = false then 7 else if 4096 < (es.take k).length + ns.length then 5 else 0)) => h)
  clear h hR u3 hV h0
  generalize hES : es.length = N at *
  have HES := hid hES
  clear hES
  have hd : decide ((N : Int) < k) = false := decide_eq_false (by omega)
  have hdn : decide (N < k) = false := decide_eq_false (by omega)
  have hd0 : decide ((k : Int) < 0) = false := decide_eq_false (by omega)
  generalize es.take k = L0 at *
  have hkc : (k : Int) ≤ (cap : Int) := by omega
  have hk0 : (0 : Int) ≤ (k : Int) := by omega
  generalize hM : ns.length = M at *
  have HM := hid hM
  clear hM
  clear HRES
  go_enter Try.func20, Try.ntmps20
  go_wp2_with (go_at_call 18; refine (len_cell _ _ _ _ _ c0).mono ?_; rintro e w' ⟨rfl, rfl⟩)
  go_loopw [20] (fun t wr => ∃ i : Nat, i ≤ M ∧ t = .int .i64 i ∧ Fr w' wr (fun _ => False)) (fun t _ => M - (intOf t).toNat)
  case atStart => exact ⟨0, by omega, rfl, Fr.refl _ _⟩
  case round =>
    obtain ⟨i, hi, rfl, hf⟩ := hrel
    by_cases hlt : i < M
    · obtain ⟨x, hx, hxR⟩ := HX.out i hlt
      obtain ⟨a0, a1, a2, a3, a4, a5, a6, a7, a8⟩ := (HA.out.fr hf).nine hx
      have HF := hid hf
      have RC := hid (fun W => right_calls W x.a x.b x.c x.k x.t x.n x.p x.q x.r)
      rw [decide_eq_true (show Rt x.a x.b x.c x.p x.q x.r from hxR)] at RC
      clear hx hf hxR
      obtain ⟨a, b, c, k, t, n, p, q, r⟩ := x
      unfold enV at RC
      simp only at a0 a1 a2 a3 a4 a5 a6 a7 a8 RC
      go_wp2_with fail
      refine (RC.out _).mono ?_
      rintro e w2 ⟨rfl, hf2⟩
      go_wp2_with fail
      go_round
      case rel => exact ⟨i + 1, by omega, by go_num, (HF.out.alloc _).trans hf2⟩
      case measure => simp [intOf]; omega
    · have he : i = M := by omega
      subst he
      have c0 := cell_fr c0 hf
      have HF := hid hf
      clear hf
      have HNEWS := hid (HA.out.fr HF.out).flat
      go_wp2_with (at_builtin; refine wpList_append_w rfl _ _ rfl (.slice (some ⟨b, 0, none⟩) k k) (L0) ns (by rfl) (HWR.out _ HF.out) ⟨ub, uoff, none⟩ i ucap (by rfl) HM.out.symm HNEWS.out HP.out (by have := HN.out; have := HM.out; have := HL0.out; omega) ?_; intro gg cap4 w4 hW hgrow hat hlt4 hgg)
      obtain ⟨hg1, hg2⟩ := hgg _ _ _ rfl (by have := HP.out; have := HL0.out; omega)
      have hF4 : Fr w' w4 (fun _ => False) := HF.out.grown hg2 (fun k hk _ => by cases hk)
      have hL4 := HH.out.heap hF4
      have hWn : Wn w' (.slice (some ⟨b, 0, none⟩) N cap) (.slice (some ⟨gg, 0, none⟩) ((L0 : List En).length + i) cap4) := Wn.new (w4 := w4) (by rw [hg1]; exact HF.out.size)
      clear hgrow hat hgg hg1 hg2 c0
      have HW := hid hW
      have HF4 := hid hF4
      have HL4 := hid hL4
      have HWN := hid hWn
      have c4 := hL4.c0
      have f4 := hL4.f0
      clear hW hF4 hL4 hWn
      go_wp2_with fail
      have SC := sorted_calls _ _ _ HW.out.sv HVB.out (by rw [List.length_append]; have := HN.out; have := HM.out; have := HL0.out; omega)
      generalize hS : srt (L0 ++ ns) = S at *
      have HS := hid hS
      clear hS
      refine SC.mono ?_
      rintro e w5 ⟨rfl, hf5⟩
      have HF5 := hid hf5
      have c5 := cell_fr c4 hf5
      have f5 := (HL4.out.heap hf5).f0
      clear hf5 SC c4 f4
      cases S
      · go_wp2_with fail
        go_ret
        exact ⟨7, _, RP.stay HH.out (HF4.out.trans HF5.out), by rw [if_pos HS.out], by rw [if_neg (by decide)]⟩
      · generalize hNN : L0.length + i = NN at *
        have HNN := hid hNN
        clear hNN
        by_cases hc : 4096 < NN
        · go_wp2_with fail
          go_ret
          refine ⟨5, _, RP.stay HH.out (HF4.out.trans HF5.out), ?_, by rw [if_neg (by decide)]⟩
          rw [if_neg (by rw [HS.out]; decide), if_pos]
          have := HNN.out
          have := HM.out
          have := HL0.out
          first | omega | (simp only [List.length_nil]; omega)
        · go_wp2_with fail
          go_ret
          refine ⟨0, _, RP.done HL4.out HF4.out HF5.out HW.out HWN.out, ?_, by rw [if_pos rfl]⟩
          rw [if_neg (by rw [HS.out]; decide), if_neg]
          have := HNN.out
          have := HM.out
          have := HL0.out
          first | omega | (simp only [List.length_nil]; omega)

end Go.Proofs.Ytbphkbbidbjpmaa.Cw
