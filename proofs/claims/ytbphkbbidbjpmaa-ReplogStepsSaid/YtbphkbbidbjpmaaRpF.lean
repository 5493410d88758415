/- A log's View. Own work. -/
import Derived.Test.YtbphkbbidbjpmaaRpE
import Derived.Test.YtbphkbbidbjpmaaRpD
namespace Go.Proofs.Ytbphkbbidbjpmaa.Cw
open Go.RowKit
set_option linter.unusedVariables false
set_option linter.unusedSimpArgs false

def lastV (es : List En) : Int := match es.getLast? with | some x => x.a | none => 0
theorem lastV_some (es : List En) (x : En) (h : es[es.length - 1]? = some x) : lastV es = x.a := by
  unfold lastV
  rw [List.getLast?_eq_getElem?, h]

set_option maxRecDepth 100000 in
set_option maxHeartbeats 1600000 in
theorem view_calls (w : World) (g : Nat) (v : Value) (es : List En) (h : Lg w g v es) (hl : es.length ≤ 4611686018427387904) :
    Calls Try.prog 27 #[.pointer (some ⟨g, 0, none⟩)] w fun e w' => e = .returned (.int .i64 (lastV es)) ∧ ∃ m, w' = w.drewN m := by
  have LC := hid (len_calls w g v es h)
  by_cases h0 : es.length = 0
  · have he : es = [] := List.eq_nil_of_length_eq_zero h0
    subst he
    go_enter Try.func27, Try.ntmps27
    go_wp2_with (go_at_call 18; refine (LC.out).mono ?_; rintro e w' ⟨rfl, rfl⟩)
    go_ret
    exact ⟨rfl, 0, rfl⟩
  · obtain ⟨A, cap, rfl, hsh⟩ := h.shape
    obtain ⟨x, hx⟩ : ∃ x, es[es.length - 1]? = some x := ⟨_, List.getElem?_eq_getElem (by omega)⟩
    obtain ⟨o, rfl, _, hc⟩ := hsh _ x hx
    have hv := hc 0 _ rfl
    have c0 := h.c0
    have HV := hid (lastV_some es x hx)
    generalize hm : es.length = m at *
    have LQ := hid (fun n => (len_calls (w.drewN n) g _ es h).mono fun _ _ (q : _ ∧ _) => And.intro q.1 q.2.symm)
    rw [hm] at LQ
    obtain ⟨k, rfl⟩ : ∃ k, m = k + 1 := ⟨m - 1, by omega⟩
    have hv2 : w.cell? ⟨o, k * 9, none⟩ = some (.int .i64 x.a) := by simpa using hv
    have hb : (((k + 1 : Nat) : Int) == 0) = false := by rw [beq_eq_false_iff_ne]; omega
    clear hv hc hsh hx h0
    go_enter Try.func27, Try.ntmps27
    go_wp2_with (go_at_call 18; refine (LC.out).mono ?_; rintro e w' ⟨rfl, rfl⟩)
    go_quiet (first | (go_at_call 18; exact Calls.quiet_of_same (LQ.out _)))
    go_wp2
    go_ret
    exact ⟨ret1 HV.out.symm, _, rfl⟩
end Go.Proofs.Ytbphkbbidbjpmaa.Cw
