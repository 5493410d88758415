/- From of a number below one; From, whatever it tells. Own work. -/
import Derived.Test.YtbphkbbidbjpmaaReU
namespace Go.Proofs.Ytbphkbbidbjpmaa.Cw
open Go.RowKit
set_option linter.unusedVariables false
set_option linter.unusedSimpArgs false

set_option maxRecDepth 100000 in
set_option maxHeartbeats 3200000 in
theorem from_core0 (w : World) (g : Nat) (v : Value) (es : List En) (n mm : Int) (c0 : w.cell? ⟨g, 0, none⟩ = some v) (hs : Sv w v es) (hl : es.length ≤ 4096) (hn : n < 1) (hm : 0 < es.length) (hk : mm < 9223372036854775807) (hk1 : 1 ≤ mm) :
    Calls Try.prog 15 #[.pointer (some ⟨g, 0, none⟩), .int .i64 n, .int .i64 mm] w fun e w' => ∃ u, e = .returned u ∧ w'.ownsRow 0 25 9 u (es.take mm.toNat).length ((es.take mm.toNat).flatMap En.cells) ∧ Fr w w' (fun _ => False) ∧ ∀ b, u.ownBlock = some b → w.heap.size ≤ b := by
  obtain ⟨A, cap, rfl, h1, h2, h3⟩ := hs
  obtain ⟨b, off, rfl, hb, HA⟩ := h3 (fun e => by rw [e] at hm; simp at hm)
  have hq : (es.take mm.toNat).length = min mm.toNat es.length := by rw [List.length_take]
  have HA2 := hid (HA.part 0 mm.toNat)
  rw [List.drop_zero, Nat.zero_mul, Nat.add_zero] at HA2
  generalize es.take mm.toNat = l at *
  have CL := hid (fun (W : World) (c : Nat) (hf : Fr w W (fun _ => False)) => clone_calls W b off c l (HA2.out.fr hf) (by omega) (by omega))
  generalize hQ : l.length = q at *
  generalize hN : es.length = N at *
  have hd : decide ((N : Int) < 1) = false := decide_eq_false (by omega)
  have hd2 : decide (mm < 1) = false := decide_eq_false (by omega)
  have hd3 : decide (n < 1) = true := decide_eq_true (by omega)
  have hd4 : decide (0 < n) = false := decide_eq_false (by omega)
  have HQ := hid hq
  clear h3 HA hN hQ hq
  go_enter Try.func15, Try.ntmps15
  go_upto_region 4 with (go_at_call 18; refine (len_cell _ _ _ _ _ c0).mono ?_; rintro e w' ⟨rfl, rfl⟩)
  have w1 : IntKind.i64.wrap 0 = 0 := IntWalk.i64_in _ (by omega)
  have w2 : IntKind.i64.wrap ((N : Int) - 1) = (N : Int) - 1 := IntWalk.i64_in _ (by omega)
  have w3 : IntKind.i64.wrap (N : Int) = (N : Int) := IntWalk.i64_in _ (by omega)
  have w8 : q ≤ N := by have := HQ.out; omega
  have w9 : q ≤ cap := by omega
  have x1 : ¬ cap = 0 := by omega
  have x4 : (q : Int) ≤ (cap : Int) := by omega
  have hF := Fr.refl w' (fun _ => False)
  by_cases hc : ¬ ((N : Int) < mm)
  · have w4 : mm = (q : Int) := by have := HQ.out; omega
    have y1 : mm.toNat = q := by omega
    have y2 : 0 ≤ mm := by omega
    have y3 : mm ≤ (cap : Int) := by omega
    have hcf : ((N : Int) < mm) = False := eq_false hc
    clear w4
    go_region_held3 (fun W => W.cell? ⟨g, 0, none⟩ = some (.slice (some ⟨b, off, none⟩) N cap) ∧ Fr w' W (fun _ => False)) (first | exact ⟨c0, hF⟩ | exact ⟨c0, hF.drew⟩ | assumption | exact keepS (by assumption) (by assumption))
      (first
        | (go_at_call 18; refine (len_cell _ _ _ _ _ (by first | assumption | exact And.left (by assumption))).mono ?_; rintro e w9 ⟨rfl, rfl⟩)
        | (go_at_call 48; refine (CL.out _ _ (by first | assumption | exact And.right (by assumption))).mono ?_; rintro e w9 ⟨uu, rfl, ho, hf, hbb⟩))
    go_wp2_with fail
    go_ret
    exact ⟨uu, rfl, ho, And.right (by assumption), hbb⟩
  · have hc := Decidable.not_not.1 hc
    have w4 : (N : Int) = (q : Int) := by have := HQ.out; omega
    have y1 : N = q := by omega
    have y2 : 0 ≤ (N : Int) := by omega
    have y3 : (N : Int) ≤ (cap : Int) := by omega
    subst y1
    clear w4
    go_region_held3 (fun W => W.cell? ⟨g, 0, none⟩ = some (.slice (some ⟨b, off, none⟩) N cap) ∧ Fr w' W (fun _ => False)) (first | exact ⟨c0, hF⟩ | exact ⟨c0, hF.drew⟩ | assumption | exact keepS (by assumption) (by assumption))
      (first
        | (go_at_call 18; refine (len_cell _ _ _ _ _ (by first | assumption | exact And.left (by assumption))).mono ?_; rintro e w9 ⟨rfl, rfl⟩)
        | (go_at_call 48; refine (CL.out _ _ (by first | assumption | exact And.right (by assumption))).mono ?_; rintro e w9 ⟨uu, rfl, ho, hf, hbb⟩))
    go_wp2_with fail
    go_ret
    exact ⟨uu, rfl, ho, And.right (by assumption), hbb⟩

theorem from_any (w : World) (g : Nat) (v : Value) (es : List En) (n : Int) (mm : Nat) (h : Lw w g v es) (hl : es.length ≤ 4096) (hk : mm < 9223372036854775807) (hk1 : 1 ≤ mm) :
    Calls Try.prog 15 #[.pointer (some ⟨g, 0, none⟩), .int .i64 n, .int .i64 mm] w fun e w' => ∃ u, e = .returned u ∧ Sv w' u (fromL es n mm) ∧ Fr w w' (fun _ => False) := by
  by_cases hn : 1 ≤ n
  · exact from_pos w g v es n mm h hl hn hk hk1
  · have hz : (n - 1).toNat = 0 := by omega
    unfold fromL
    rw [hz, List.drop_zero]
    by_cases h0 : es = []
    · subst h0
      refine (from_far0 w g v n mm h.c0 h.sv (by omega)).mono ?_
      rintro e w' ⟨rfl, rfl⟩
      exact ⟨_, rfl, by rw [List.take_nil]; exact Sv.nil _, Fr.refl _ _⟩
    · have hp : 0 < es.length := by
        rcases Nat.eq_zero_or_pos es.length with h1 | h1
        · exact absurd (List.eq_nil_of_length_eq_zero h1) h0
        · exact h1
      refine (from_core0 w g v es n mm h.c0 h.sv hl (by omega) hp (by omega) (by omega)).mono ?_
      rintro e w' ⟨u, rfl, ho, hf, hb⟩
      rw [Int.toNat_natCast] at ho
      exact ⟨u, rfl, OwE.sv ho, hf⟩
end Go.Proofs.Ytbphkbbidbjpmaa.Cw
