/- ReplogNil by a walk over contracts. Own work. -/
import Derived.Test.YtbphkbbidbjpmaaRpN
namespace Go.Proofs.Ytbphkbbidbjpmaa.Cw
open Go.RowKit
set_option linter.unusedVariables false
set_option linter.unusedSimpArgs false

set_option maxRecDepth 100000 in
set_option maxHeartbeats 6400000 in
theorem nil20_gen (w : World) (a b c k t m n : Int) (p q r : ByteArray) (n1 : -9223372036854775808 ≤ n) (n2 : n < 9223372036854775808) (RB : Bool) (W1 W2 : Int) (hW : (RB = true ∧ W1 = 5 ∧ (W1 == 4) = false) ∨ (RB = false ∧ W1 = 4 ∧ (W1 == 4) = true))
    (hn : (n != 0) = true ∧ W2 = 1 ∨ (n != 0) = false ∧ RB = true ∧ W2 = 7 ∨ (n != 0) = false ∧ RB = false ∧ W2 = 4)
    (h1 : ∀ w, Calls Try.prog 22 #[.pointer none, .agg #[.int .i64 a, .int .i64 b, .int .i64 c, .int .i64 k, .int .i64 t, .int .i64 m, .string p, .string q, .string r]] w fun e w' => e = .returned (.tuple #[.int .i64 0, .int .i64 W1]) ∧ Fr w w' (fun _ => False))
    (h2 : ∀ w, Calls Try.prog 30 #[.agg #[.int .i64 a, .int .i64 b, .int .i64 c, .int .i64 k, .int .i64 t, .int .i64 m, .string p, .string q, .string r]] w fun e w' => e = .returned (.bool RB) ∧ Fr w w' (fun _ => False))
    (h3 : ∀ w g, w.heap[g]? = some (.cells #[.int .i64 a, .int .i64 b, .int .i64 c, .int .i64 k, .int .i64 t, .int .i64 m, .string p, .string q, .string r] 25 (0, 0)) → Calls Try.prog 20 #[.pointer none, .int .i64 n, .slice (some ⟨g, 0, none⟩) 1 1] w fun e w' => e = .returned (.int .i64 W2) ∧ Fr w w' (fun _ => False)) :
    Calls Try.prog 8 #[.agg #[.int .i64 a, .int .i64 b, .int .i64 c, .int .i64 k, .int .i64 t, .int .i64 m, .string p, .string q, .string r], .int .i64 n] w fun e w' => e = .returned (.bool true) ∧ Fr w w' (fun _ => False) := by
  have H1 := hid h1
  have H2 := hid h2
  have H3 := hid h3
  have FN := hid (fun w => from_nil w n 9 n1 n2)
  have GN := hid (fun w => get_nil w n)
  unfold enV at *
  clear h1 h2 h3 n1 n2
  rcases hW with ⟨rfl, rfl, hw4⟩ | ⟨rfl, rfl, hw4⟩
  all_goals
    clear hw4
    rcases hn with ⟨hn, rfl⟩ | ⟨hn, hr, rfl⟩ | ⟨hn, hr, rfl⟩
  all_goals first
    | (exfalso; cases hr; done)
    | skip
  all_goals
    go_enter Try.func8, Try.ntmps8
    go_wp2_with fail
    refine (H1.out _).mono ?_
    rintro e w1 ⟨rfl, hf1⟩
    have hx1 := hf1.at_ (alloc_new w _) (fun x => x)
    have hA1 := ((Fr.refl w (fun _ => False)).alloc _).trans hf1
    generalize w.heap.size = A at *
    clear hf1
    go_wp2_with fail
    refine (GN.out _).mono ?_
    rintro e w2 ⟨rfl, hf2⟩
    have hF2 := hf2.trans ((Fr.refl w2 (fun _ => False)).alloc (.cells #[.int .i64 0, .int .i64 0, .int .i64 0, .int .i64 0, .int .i64 0, .int .i64 0, .string ⟨#[]⟩, .string ⟨#[]⟩, .string ⟨#[]⟩] 25))
    have hx2 := hF2.at_ hx1 (fun x => x)
    have hA2 := hA1.trans hF2
    have c0 := (cell_blk hx2 0).trans rfl
    have c1 := (cell_blk hx2 1).trans rfl
    have c2 := (cell_blk hx2 2).trans rfl
    have c3 := (cell_blk hx2 3).trans rfl
    have c4 := (cell_blk hx2 4).trans rfl
    have c5 := (cell_blk hx2 5).trans rfl
    have c6 := (cell_blk hx2 6).trans rfl
    have c7 := (cell_blk hx2 7).trans rfl
    have c8 := (cell_blk hx2 8).trans rfl
    clear hf2 hx1 hA1 hF2
    go_wp2_with fail
    generalize w2.alloc (.cells #[.int .i64 0, .int .i64 0, .int .i64 0, .int .i64 0, .int .i64 0, .int .i64 0, .string ⟨#[]⟩, .string ⟨#[]⟩, .string ⟨#[]⟩] 25) = w3 at *
    refine (H2.out _).mono ?_
    rintro e w4 ⟨rfl, hf4⟩
    have hx4 := hf4.at_ hx2 (fun x => x)
    have hA4 := hA2.trans hf4
    clear c0 c1 c2 c3 c4 c5 c6 c7 c8 hf4 hx2 hA2
    have c0 := (cell_blk hx4 0).trans rfl
    have c1 := (cell_blk hx4 1).trans rfl
    have c2 := (cell_blk hx4 2).trans rfl
    have c3 := (cell_blk hx4 3).trans rfl
    have c4 := (cell_blk hx4 4).trans rfl
    have c5 := (cell_blk hx4 5).trans rfl
    have c6 := (cell_blk hx4 6).trans rfl
    have c7 := (cell_blk hx4 7).trans rfl
    have c8 := (cell_blk hx4 8).trans rfl
    go_wp2_with (first | (go_at_call 18; refine (len_nil _).mono ?_; rintro e w' ⟨rfl, rfl⟩) | (go_at_call 27; refine (view_nil _).mono ?_; rintro e w' ⟨rfl, rfl⟩) | (go_at_call 15; refine (FN.out _).mono ?_; rintro e w' ⟨rfl, rfl⟩))
    refine (H3.out _ _ (alloc_new _ _)).mono ?_
    rintro e w5 ⟨rfl, hf5⟩
    have hA5 := (hA4.alloc _).trans hf5
    clear c0 c1 c2 c3 c4 c5 c6 c7 c8 hf5 hx4 hA4
    go_wp2_with fail
    refine (replace_nil0 _).mono ?_
    rintro e w6 ⟨rfl, rfl⟩
    go_wp2_with fail
    refine (new20_calls w5).mono ?_
    rintro e w7 ⟨rfl, h7, hf7⟩
    have hA7 := hA5.trans hf7
    clear hA5 hf7
    generalize w5.heap.size = g7 at *
    go_wp2_with fail
    refine (begins_nil w7 g7 _ h7).mono ?_
    rintro e w8 ⟨rfl, rfl⟩
    go_wp2_with (go_at_call 13; refine (speaks20_calls _).mono ?_; rintro e6 w9 ⟨rfl, hf9⟩)
    go_ret
    exact ⟨rfl, hA7.trans hf9⟩

theorem replogNil_calls (w : World) (x : En) (n : Int) (n1 : -9223372036854775808 ≤ n) (n2 : n < 9223372036854775808) :
    Calls Try.prog 8 #[x.V, .int .i64 n] w fun e w' => e = .returned (.bool true) ∧ Fr w w' (fun _ => False) := by
  obtain ⟨a, b, c, k, t, m, p, q, r⟩ := x
  unfold En.V
  by_cases hR : Rt a b c p q r
  · have R2 := fun w => refRight_calls w a b c k t m p q r
    rw [decide_eq_true hR] at R2
    by_cases hn : n = 0
    · subst hn
      exact nil20_gen w a b c k t m 0 p q r n1 n2 true 5 7 (.inl ⟨rfl, rfl, rfl⟩) (.inr (.inl ⟨rfl, rfl, rfl⟩)) (fun w => append_nil_yes w a b c k t m p q r hR) R2 (fun w g hg => by have := replace_nil1 w g a b c k t m p q r hg; rw [if_pos hR] at this; exact this)
    · exact nil20_gen w a b c k t m n p q r n1 n2 true 5 1 (.inl ⟨rfl, rfl, rfl⟩) (.inl ⟨bne_iff_ne.2 hn, rfl⟩) (fun w => append_nil_yes w a b c k t m p q r hR) R2 (fun w g hg => (replace_nil_arg w n _ hn).mono fun e w' ⟨h1, h2⟩ => ⟨h1, by subst h2; exact Fr.refl _ _⟩)
  · have R2 := fun w => refRight_calls w a b c k t m p q r
    rw [decide_eq_false hR] at R2
    by_cases hn : n = 0
    · subst hn
      exact nil20_gen w a b c k t m 0 p q r n1 n2 false 4 4 (.inr ⟨rfl, rfl, rfl⟩) (.inr (.inr ⟨rfl, rfl, rfl⟩)) (fun w => append_nil_no w a b c k t m p q r hR) R2 (fun w g hg => by have := replace_nil1 w g a b c k t m p q r hg; rw [if_neg hR] at this; exact this)
    · exact nil20_gen w a b c k t m n p q r n1 n2 false 4 1 (.inr ⟨rfl, rfl, rfl⟩) (.inl ⟨bne_iff_ne.2 hn, rfl⟩) (fun w => append_nil_no w a b c k t m p q r hR) R2 (fun w g hg => (replace_nil_arg w n _ hn).mono fun e w' ⟨h1, h2⟩ => ⟨h1, by subst h2; exact Fr.refl _ _⟩)
end Go.Proofs.Ytbphkbbidbjpmaa.Cw
