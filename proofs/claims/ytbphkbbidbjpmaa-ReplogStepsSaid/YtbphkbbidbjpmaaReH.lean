/- From, all of a log; ReplogBegins. Own work. -/
import Derived.Test.YtbphkbbidbjpmaaReG
namespace Go.Proofs.Ytbphkbbidbjpmaa.Cw
open Go.RowKit
set_option linter.unusedVariables false
set_option linter.unusedSimpArgs false

/-- A slice of its own, with these entries. -/
def OwE (w : World) (u : Value) (es : List En) : Prop := w.ownsRow 0 25 9 u es.length (es.flatMap En.cells)
theorem OwE.sv {w : World} {v : Value} {es : List En} (h : OwE w v es) : Sv w v es := by
  rcases h.2 with ⟨rfl, h0⟩ | ⟨g', cap, cur, rfl, hb, hg, h1, h2, hr⟩
  · exact ⟨none, 0, by rw [h0], by omega, by unfold maxLen; omega, fun hn => absurd (List.eq_nil_of_length_eq_zero h0) hn⟩
  · refine ⟨_, cap, rfl, h1, h2, fun hn => ⟨g', 0, rfl, blk_lt hg, fun i x hx j u hu => ?_⟩⟩
    have hc : ∀ j u, (es.flatMap En.cells)[j]? = some u → w.cell? ((⟨g', 0, none⟩ : Addr).add j) = some u := World.ownsRow.cells (g := g') h rfl
    have hj : j < 9 := (List.getElem?_eq_some_iff.1 hu).1
    have := hc (i * 9 + j) u ((en_flat es i x j hx hj).trans hu)
    rw [Addr.add_mid, Nat.zero_add] at this
    rw [Nat.zero_add]
    exact this
theorem Sv.nil (w : World) : Sv w (.slice none 0 0) [] := ⟨none, 0, rfl, Nat.le_refl _, by unfold maxLen; omega, fun h => absurd rfl h⟩

set_option maxRecDepth 100000 in
set_option maxHeartbeats 3200000 in
theorem from_none (w : World) (g : Nat) (v : Value) (mm : Int) (h : Lg w g v []) :
    Calls Try.prog 15 #[.pointer (some ⟨g, 0, none⟩), .int .i64 1, .int .i64 mm] w fun e w' => e = .returned (.slice none 0 0) ∧ w' = w := by
  have c0 := h.c0
  obtain ⟨A, cap, rfl, h1, h2, h3⟩ := h.sv
  rw [List.length_nil] at c0
  go_enter Try.func15, Try.ntmps15
  go_wp2_with (go_at_call 18; refine (len_cell _ _ _ _ _ c0).mono ?_; rintro e w' ⟨rfl, rfl⟩)
  go_ret
  exact ⟨rfl, rfl⟩
theorem from_all (w : World) (g : Nat) (v : Value) (es : List En) (h : Lg w g v es) (hl : es.length ≤ 4096) :
    Calls Try.prog 15 #[.pointer (some ⟨g, 0, none⟩), .int .i64 1, .int .i64 5000] w fun e w' => ∃ u, e = .returned u ∧ Sv w' u es ∧ Fr w w' (fun _ => False) := by
  by_cases h0 : es = []
  · subst h0
    refine (from_none w g v 5000 h).mono ?_
    rintro e w' ⟨rfl, rfl⟩
    exact ⟨_, rfl, Sv.nil _, Fr.refl _ _⟩
  · have hp : 0 < es.length := by
      rcases Nat.eq_zero_or_pos es.length with h1 | h1
      · exact absurd (List.eq_nil_of_length_eq_zero h1) h0
      · exact h1
    refine (from_yes w g v es 1 5000 0 h hl (by omega) rfl hp (by omega) (by omega)).mono ?_
    rintro e w' ⟨u, rfl, ho, hf, hb⟩
    have he : (es.drop 0).take (5000 : Int).toNat = es := by
      rw [List.drop_zero]
      exact List.take_of_length_le (by show es.length ≤ 5000; omega)
    rw [he] at ho
    exact ⟨u, rfl, OwE.sv ho, hf⟩

/-- The first of them. -/
theorem Sv.first {w : World} {A : Option Addr} {n cap : Nat} {l : List En} (h : Sv w (.slice A n cap) l) (m : Nat) (hm : m ≤ l.length) : Sv w (.slice A m cap) (l.take m) := by
  obtain ⟨A', cap', e, h1, h2, h3⟩ := h
  injection e with e1 e2 e3
  subst e1 e3
  have hl : (l.take m).length = m := by rw [List.length_take]; omega
  refine ⟨A, cap, by rw [hl], by omega, h2, fun hn => ?_⟩
  obtain ⟨b, off, h4, h5, h6⟩ := h3 (fun e => hn (by rw [e]; simp))
  refine ⟨b, off, h4, h5, fun i x hx j u hu => h6 i x ?_ j u hu⟩
  by_cases hi : i < m
  · rwa [List.getElem?_take, if_pos hi] at hx
  · rw [List.getElem?_take, if_neg hi] at hx
    cases hx
end Go.Proofs.Ytbphkbbidbjpmaa.Cw
