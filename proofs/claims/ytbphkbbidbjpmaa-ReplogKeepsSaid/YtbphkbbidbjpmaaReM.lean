/- Replace: a log without a row, nothing put. Own work. -/
import Derived.Test.YtbphkbbidbjpmaaReL
namespace Go.Proofs.Ytbphkbbidbjpmaa.Cw
open Go.RowKit
set_option linter.unusedVariables false
set_option linter.unusedSimpArgs false

set_option maxRecDepth 100000 in
set_option maxHeartbeats 6400000 in
theorem replace_nil0 (w : World) (g : Nat) (u : Value) (ns : List En) (h : Lw w g (.slice none 0 0) []) (hu : Sv w u ns) (hn : ns.length ≤ 1466015503701) (hR : allR ns) (h0 : ns = []) :
    Calls Try.prog 20 #[.pointer (some ⟨g, 0, none⟩), .int .i64 0, u] w (RX w g (.slice none 0 0) [] [] ns) := by
  have c0 := h.c0
  obtain ⟨B, ucap, rfl, u1, u2, u3⟩ := hu
  have HWR := hid (fun (W : World) (hf : Fr w W (fun _ => False)) => WR.nil W)
  have HVB : Hid (∀ x ∈ [] ++ ns, VB x) := hid (fun x hx => by rw [List.nil_append] at hx; exact ⟨(hR x hx).1.1, (hR x hx).1.2⟩)
  have HH := hid h
  have HN : Hid (ns.length ≤ 1466015503701) := hid hn
  subst h0
  rw [List.length_nil] at u1
  have HRES := True.intro
  clear h hR u3
  clear HRES
  go_enter Try.func20, Try.ntmps20
  go_wp2_with (go_at_call 18; refine (len_cell _ _ _ _ _ c0).mono ?_; rintro e w' ⟨rfl, rfl⟩)
  refine wp_loop_rounds 1 ?_
  rw [rounds_succ]
  go_wp2_with (at_builtin; refine wpList_append_w0 rfl _ _ rfl _ _ _ _ _ (by rfl) (by rfl) (by omega) ?_)
  have hW : WR w' (.slice none 0 0) ([] ++ []) := by
    rw [List.append_nil]
    exact HWR.out w' (Fr.refl _ _)
  have hF4 := Fr.refl w' (fun _ => False)
  have hL4 := HH.out
  have hWn : Wn w' (.slice none 0 0) (.slice none 0 0) := Wn.refl _ _
  have HW := hid hW
  have HF4 := hid hF4
  have HL4 := hid hL4
  have HWN := hid hWn
  have c4 := hL4.c0
  have f4 := hL4.f0
  clear hW hF4 hL4 hWn c0
  have SC := sorted_calls _ _ _ HW.out.sv HVB.out (by simp)
  generalize hS : srt ([] ++ []) = S at *
  have HS := hid hS
  clear hS
  refine SC.mono ?_
  rintro e w5 ⟨rfl, hf5⟩
  have HF5 := hid hf5
  have c5 := cell_fr c4 hf5
  have f5 := (HL4.out.heap hf5).f0
  clear hf5 SC c4 f4
  cases S
  · go_wp2_with fail
    go_ret
    exact ⟨7, _, RP.stay HH.out (HF4.out.trans HF5.out), by rw [if_pos HS.out], by rw [if_neg (by decide)]⟩
  · go_wp2_with fail
    go_ret
    exact ⟨0, _, RP.done HL4.out HF4.out HF5.out HW.out HWN.out, by rw [if_neg (by rw [HS.out]; decide)]; rfl, by rw [if_pos rfl]⟩

end Go.Proofs.Ytbphkbbidbjpmaa.Cw
