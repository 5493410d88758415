/- Replace: nothing put. Own work. -/
import Derived.Test.YtbphkbbidbjpmaaReL
namespace Go.Proofs.Ytbphkbbidbjpmaa.Cw
open Go.RowKit
set_option linter.unusedVariables false
set_option linter.unusedSimpArgs false

set_option maxRecDepth 100000 in
set_option maxHeartbeats 6400000 in
theorem replace_blk0 (w : World) (g b cap : Nat) (u : Value) (es ns : List En) (k : Nat) (h : Lw w g (.slice (some ⟨b, 0, none⟩) es.length cap) es) (hk : k ≤ es.length) (hc : es.length ≤ cap) (hu : Sv w u ns) (hn : ns.length ≤ 1466015503701) (hes : es.length ≤ 4096) (hV : ∀ x ∈ es, VB x) (hR : allR ns) (h0 : ns = []) :
    Calls Try.prog 20 #[.pointer (some ⟨g, 0, none⟩), .int .i64 k, u] w (RX w g (.slice (some ⟨b, 0, none⟩) es.length cap) es (es.take k) ns) := by
  have c0 := h.c0
  obtain ⟨B, ucap, rfl, u1, u2, u3⟩ := hu
  have HWR := hid (fun (W : World) (hf : Fr w W (fun _ => False)) => (h.2.fr hf (fun _ _ x => x)).cut k hk)
  have HVB : Hid (∀ x ∈ es.take k ++ ns, VB x) := hid (fun x hx => by
    rcases List.mem_append.1 hx with hx | hx
    · exact hV x (List.mem_of_mem_take hx)
    · exact ⟨(hR x hx).1.1, (hR x hx).1.2⟩)
  have hl0 : (es.take k).length = k := by rw [List.length_take]; omega
  have HL0 := hid hl0
  clear hl0
  have HH := hid h
  have HN : Hid (ns.length ≤ 1466015503701) := hid hn
  subst h0
  rw [List.length_nil] at u1
  have HRES := True.intro
  clear h hR u3 hV
  generalize hES : es.length = N at *
  have HES := hid hES
  clear hES
  have hd : decide ((N : Int) < k) = false := decide_eq_false (by omega)
  have hdn : decide (N < k) = false := decide_eq_false (by omega)
  have hd0 : decide ((k : Int) < 0) = false := decide_eq_false (by omega)
  generalize es.take k = L0 at *
  have hkc : (k : Int) ≤ (cap : Int) := by omega
  have hk0 : (0 : Int) ≤ (k : Int) := by omega
  clear HRES
  go_enter Try.func20, Try.ntmps20
  go_wp2_with (go_at_call 18; refine (len_cell _ _ _ _ _ c0).mono ?_; rintro e w' ⟨rfl, rfl⟩)
  refine wp_loop_rounds 1 ?_
  rw [rounds_succ]
  go_wp2_with (at_builtin; refine wpList_append_w0 rfl _ _ rfl _ _ _ _ _ (by rfl) (by rfl) (by omega) ?_)
  have hW : WR w' (.slice (some ⟨b, 0, none⟩) k k) (L0 ++ []) := by
    rw [List.append_nil]
    exact HWR.out w' (Fr.refl _ _)
  have hF4 := Fr.refl w' (fun _ => False)
  have hL4 := HH.out
  have hWn : Wn w' (.slice (some ⟨b, 0, none⟩) N cap) (.slice (some ⟨b, 0, none⟩) k k) := Wn.cut
  have HW := hid hW
  have HF4 := hid hF4
  have HL4 := hid hL4
  have HWN := hid hWn
  have c4 := hL4.c0
  have f4 := hL4.f0
  clear hW hF4 hL4 hWn c0
  have SC := sorted_calls _ _ _ HW.out.sv HVB.out (by rw [List.length_append]; have := HL0.out; simp only [List.length_nil]; omega)
  generalize hS : srt (L0 ++ []) = S at *
  have HS := hid hS
  clear hS
  refine SC.mono ?_
  rintro e w5 ⟨rfl, hf5⟩
  have HF5 := hid hf5
  have c5 := cell_fr c4 hf5
  have f5 := (HL4.out.heap hf5).f0
  clear hf5 SC c4 f4
  cases S
  · go_wp2_with fail
    go_ret
    exact ⟨7, _, RP.stay HH.out (HF4.out.trans HF5.out), by rw [if_pos HS.out], by rw [if_neg (by decide)]⟩
  · have hNN : k = k := rfl
    have HNN := hid hNN
    clear hNN
    by_cases hc : 4096 < k
    · exfalso; omega
    · go_wp2_with fail
      go_ret
      refine ⟨0, _, RP.done HL4.out HF4.out HF5.out HW.out HWN.out, ?_, by rw [if_pos rfl]⟩
      rw [if_neg (by rw [HS.out]; decide), if_neg]
      have := HNN.out
      have := HL0.out
      first | omega | (simp only [List.length_nil]; omega)

end Go.Proofs.Ytbphkbbidbjpmaa.Cw
