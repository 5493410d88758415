/- A log's Begins, at its two ends. Own work. -/
import Derived.Test.YtbphkbbidbjpmaaRpG
namespace Go.Proofs.Ytbphkbbidbjpmaa.Cw
open Go.RowKit
set_option linter.unusedVariables false
set_option linter.unusedSimpArgs false

set_option maxRecDepth 100000 in
set_option maxHeartbeats 1600000 in
theorem begins_long (w : World) (g g2 : Nat) (v v2 : Value) (es fs : List En) (h : Lg w g v es) (h2 : Lg w g2 v2 fs) (hl : es.length < fs.length) :
    Calls Try.prog 16 #[.pointer (some ⟨g, 0, none⟩), .pointer (some ⟨g2, 0, none⟩)] w fun e w' => e = .returned (.bool false) ∧ w = w' := by
  have L1 := hid (len_calls w g v es h)
  have L2 := hid (len_calls w g2 v2 fs h2)
  have hd : decide ((es.length : Int) < fs.length) = true := decide_eq_true (by omega)
  generalize es.length = m at *
  generalize fs.length = n at *
  go_enter Try.func16, Try.ntmps16
  go_wp2_with (first | (go_at_call_of 18 (Value.pointer (some ⟨g2, 0, none⟩)); refine (L2.out).mono ?_; rintro e w' ⟨rfl, rfl⟩) | (go_at_call_of 18 (Value.pointer (some ⟨g, 0, none⟩)); refine (L1.out).mono ?_; rintro e w' ⟨rfl, rfl⟩))
  go_ret
  exact ⟨rfl, rfl⟩

set_option maxRecDepth 100000 in
set_option maxHeartbeats 1600000 in
theorem begins_none (w : World) (g g2 : Nat) (v v2 : Value) (es : List En) (h : Lg w g v es) (h2 : Lg w g2 v2 []) :
    Calls Try.prog 16 #[.pointer (some ⟨g, 0, none⟩), .pointer (some ⟨g2, 0, none⟩)] w fun e w' => e = .returned (.bool true) ∧ w = w' := by
  have L1 := hid (len_calls w g v es h)
  have L2 := hid (len_calls w g2 v2 [] h2)
  have hd : decide ((es.length : Int) < 0) = false := decide_eq_false (by omega)
  rw [List.length_nil] at L2
  generalize es.length = m at *
  go_enter Try.func16, Try.ntmps16
  go_wp2_with (first | (go_at_call_of 18 (Value.pointer (some ⟨g2, 0, none⟩)); refine (L2.out).mono ?_; rintro e w' ⟨rfl, rfl⟩) | (go_at_call_of 18 (Value.pointer (some ⟨g, 0, none⟩)); refine (L1.out).mono ?_; rintro e w' ⟨rfl, rfl⟩))
  refine wp_loop_rounds 1 ?_
  rw [rounds_succ]
  go_wp2_with fail
  go_ret
  exact ⟨rfl, rfl⟩
end Go.Proofs.Ytbphkbbidbjpmaa.Cw
