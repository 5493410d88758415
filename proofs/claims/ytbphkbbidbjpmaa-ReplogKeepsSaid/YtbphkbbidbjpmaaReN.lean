/- Replace: a log without a row. Own work. -/
import Derived.Test.YtbphkbbidbjpmaaReL
namespace Go.Proofs.Ytbphkbbidbjpmaa.Cw
open Go.RowKit
set_option linter.unusedVariables false
set_option linter.unusedSimpArgs false

set_option maxRecDepth 100000 in
set_option maxHeartbeats 6400000 in
theorem replace_nil1 (w : World) (g : Nat) (u : Value) (ns : List En) (h : Lw w g (.slice none 0 0) []) (hu : Sv w u ns) (hn : ns.length ≤ 1466015503701) (hR : allR ns) (h0 : ns ≠ []) :
    Calls Try.prog 20 #[.pointer (some ⟨g, 0, none⟩), .int .i64 0, u] w (RX w g (.slice none 0 0) [] [] ns) := by
  have c0 := h.c0
  obtain ⟨B, ucap, rfl, u1, u2, u3⟩ := hu
  have HWR := hid (fun (W : World) (hf : Fr w W (fun _ => False)) => WR.nil W)
  have HVB : Hid (∀ x ∈ [] ++ ns, VB x) := hid (fun x hx => by rw [List.nil_append] at hx; exact ⟨(hR x hx).1.1, (hR x hx).1.2⟩)
  have HH := hid h
  have HN : Hid (ns.length ≤ 1466015503701) := hid hn
  obtain ⟨ub, uoff, rfl, hub, HA⟩ := u3 h0
  have HA := hid HA
  have HX := hid (fun (i : Nat) (hi : i < ns.length) => (⟨_, List.getElem?_eq_getElem hi, hR _ (List.getElem_mem hi)⟩ : ∃ x, ns[i]? = some x ∧ x.R))
  have hp : 0 < ns.length := by
    rcases Nat.eq_zero_or_pos ns.length with h1 | h1
    · exact absurd (List.eq_nil_of_length_eq_zero h1) h0
    · exact h1
  have HP := hid hp
  have HRES := hid (fun (r : Int) (h : r = (if srt ([] ++ ns) = false then 7 else if 4096 < 0 + ns.length then 5 else 0)) => h)
  clear h hR u3 h0
  generalize hM : ns.length = M at *
  have HM := hid hM
  clear hM
  clear HRES
  go_enter Try.func20, Try.ntmps20
  go_wp2_with (go_at_call 18; refine (len_cell _ _ _ _ _ c0).mono ?_; rintro e w' ⟨rfl, rfl⟩)
  go_loopw [20] (fun t wr => ∃ i : Nat, i ≤ M ∧ t = .int .i64 i ∧ Fr w' wr (fun _ => False)) (fun t _ => M - (intOf t).toNat)
  case atStart => exact ⟨0, by omega, rfl, Fr.refl _ _⟩
  case round =>
    obtain ⟨i, hi, rfl, hf⟩ := hrel
    by_cases hlt : i < M
    · obtain ⟨x, hx, hxR⟩ := HX.out i hlt
      obtain ⟨a0, a1, a2, a3, a4, a5, a6, a7, a8⟩ := (HA.out.fr hf).nine hx
      have HF := hid hf
      have RC := hid (fun W => right_calls W x.a x.b x.c x.k x.t x.n x.p x.q x.r)
      rw [decide_eq_true (show Rt x.a x.b x.c x.p x.q x.r from hxR)] at RC
      clear hx hf hxR
      obtain ⟨a, b, c, k, t, n, p, q, r⟩ := x
      unfold enV at RC
      simp only at a0 a1 a2 a3 a4 a5 a6 a7 a8 RC
      go_wp2_with fail
      refine (RC.out _).mono ?_
      rintro e w2 ⟨rfl, hf2⟩
      go_wp2_with fail
      go_round
      case rel => exact ⟨i + 1, by omega, by go_num, (HF.out.alloc _).trans hf2⟩
      case measure => simp [intOf]; omega
    · have he : i = M := by omega
      subst he
      have c0 := cell_fr c0 hf
      have HF := hid hf
      clear hf
      have HNEWS := hid (HA.out.fr HF.out).flat
      go_wp2_with (at_builtin; refine wpList_append_w rfl _ _ rfl (.slice none 0 0) ([]) ns (by rfl) (HWR.out _ HF.out) ⟨ub, uoff, none⟩ i ucap (by rfl) HM.out.symm HNEWS.out HP.out (by have := HN.out; have := HM.out; simp only [List.length_nil]; omega) ?_; intro gg cap4 w4 hW hgrow hat hlt4 hgg)
      obtain ⟨hg1, hg2⟩ := hgg _ _ _ rfl (by have := HP.out; simp only [List.length_nil]; omega)
      have hF4 : Fr w' w4 (fun _ => False) := HF.out.grown hg2 (fun k hk _ => by cases hk)
      have hL4 := HH.out.heap hF4
      have hWn : Wn w' (.slice none 0 0) (.slice (some ⟨gg, 0, none⟩) (([] : List En).length + i) cap4) := Wn.new (w4 := w4) (by rw [hg1]; exact HF.out.size)
      clear hgrow hat hgg hg1 hg2 c0
      have HW := hid hW
      have HF4 := hid hF4
      have HL4 := hid hL4
      have HWN := hid hWn
      have c4 := hL4.c0
      have f4 := hL4.f0
      clear hW hF4 hL4 hWn
      rw [List.length_nil, Nat.zero_add] at HW HWN
      go_wp2_with fail
      have SC := sorted_calls _ _ _ HW.out.sv HVB.out (by rw [List.length_append]; have := HN.out; have := HM.out; simp only [List.length_nil]; omega)
      generalize hS : srt ([] ++ ns) = S at *
      have HS := hid hS
      clear hS
      refine SC.mono ?_
      rintro e w5 ⟨rfl, hf5⟩
      have HF5 := hid hf5
      have c5 := cell_fr c4 hf5
      have f5 := (HL4.out.heap hf5).f0
      clear hf5 SC c4 f4
      cases S
      · go_wp2_with fail
        go_ret
        exact ⟨7, _, RP.stay HH.out (HF4.out.trans HF5.out), by rw [if_pos HS.out], by rw [if_neg (by decide)]⟩
      · have hNN : i = i := rfl
        have HNN := hid hNN
        clear hNN
        by_cases hc : 4096 < i
        · go_wp2_with fail
          go_ret
          refine ⟨5, _, RP.stay HH.out (HF4.out.trans HF5.out), ?_, by rw [if_neg (by decide)]⟩
          rw [if_neg (by rw [HS.out]; decide), if_pos]
          have := HNN.out
          have := HM.out
          first | omega | (simp only [List.length_nil]; omega)
        · go_wp2_with fail
          go_ret
          refine ⟨0, _, RP.done HL4.out HF4.out HF5.out HW.out HWN.out, ?_, by rw [if_pos rfl]⟩
          rw [if_neg (by rw [HS.out]; decide), if_neg]
          have := HNN.out
          have := HM.out
          first | omega | (simp only [List.length_nil]; omega)

end Go.Proofs.Ytbphkbbidbjpmaa.Cw
