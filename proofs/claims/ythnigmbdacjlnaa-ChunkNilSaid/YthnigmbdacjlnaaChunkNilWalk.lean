/- ChunkNil: the walk. Own work. -/
import Derived.Test.YthnigmbdacjlnaaCkY
namespace Go.Proofs.Ythnigmbdacjlnaa.Cw
open Go.RowKit
set_option linter.unusedVariables false
set_option linter.unusedSimpArgs false

set_option maxRecDepth 100000 in
set_option maxHeartbeats 3200000 in
theorem chunkNil_calls (w : World) (c : Ck) :
    Calls Try.prog 6 #[c.V] w fun e w' => e = .returned (.bool true) ∧ Fr w w' (fun _ => False) := by
  have AN := hid (fun (W : World) => add_nil25 W c)
  have RC := hid (fun (W : World) => ref25_calls W c)
  have RT := hid (fun (W : World) => refRight25_calls W c)
  cases hc : ckB c with
  | true =>
    rw [hc] at AN RT
    rw [if_pos rfl] at AN
    clear hc
    obtain ⟨d, t, n, s, q⟩ := c
    unfold Ck.V at *
    simp only at AN RC RT ⊢
    go_enter Try.func6, Try.ntmps6
    go_wp2_with (first
      | (go_at_call 15; refine (AN.out _).mono ?_; rintro e w1 ⟨rfl, hf1⟩; have x0 := cell_keep (cell_blk (alloc_new w (.cells #[.int .i64 d, .int .i64 t, .int .i64 n, .string s, .int .i64 q] 24)) 0) hf1; have x1 := cell_keep (cell_blk (alloc_new w (.cells #[.int .i64 d, .int .i64 t, .int .i64 n, .string s, .int .i64 q] 24)) 1) hf1; have x2 := cell_keep (cell_blk (alloc_new w (.cells #[.int .i64 d, .int .i64 t, .int .i64 n, .string s, .int .i64 q] 24)) 2) hf1; have x3 := cell_keep (cell_blk (alloc_new w (.cells #[.int .i64 d, .int .i64 t, .int .i64 n, .string s, .int .i64 q] 24)) 3) hf1; have x4 := cell_keep (cell_blk (alloc_new w (.cells #[.int .i64 d, .int .i64 t, .int .i64 n, .string s, .int .i64 q] 24)) 4) hf1)
      | (go_at_call 17; refine (blocks_nil _).mono ?_; rintro e w2 ⟨rfl, hf2⟩; have z0 := cell_keep x0 hf2; have z1 := cell_keep x1 hf2; have z2 := cell_keep x2 hf2; have z3 := cell_keep x3 hf2; have z4 := cell_keep x4 hf2)
      | (go_at_call 13; refine (RC.out _).mono ?_; rintro e w3 ⟨rfl, hf3⟩)
      | (go_at_call 12; refine (RT.out _).mono ?_; rintro e w4 ⟨rfl, hf4⟩)
      | (go_at_call 20; refine (missing_nil _).mono ?_; rintro e w5 ⟨rfl, hf5⟩)
      | (go_at_call 8; refine (speaks25_calls _).mono ?_; rintro e w6 ⟨rfl, hf6⟩))
    go_ret
    exact ⟨rfl, ((Fr.refl w _).alloc _).trans (hf1.trans (hf2.trans (hf3.trans (hf4.trans (hf5.trans hf6)))))⟩
  | false =>
    rw [hc] at AN RT
    rw [if_neg (by decide)] at AN
    clear hc
    obtain ⟨d, t, n, s, q⟩ := c
    unfold Ck.V at *
    simp only at AN RC RT ⊢
    go_enter Try.func6, Try.ntmps6
    go_wp2_with (first
      | (go_at_call 15; refine (AN.out _).mono ?_; rintro e w1 ⟨rfl, hf1⟩; have x0 := cell_keep (cell_blk (alloc_new w (.cells #[.int .i64 d, .int .i64 t, .int .i64 n, .string s, .int .i64 q] 24)) 0) hf1; have x1 := cell_keep (cell_blk (alloc_new w (.cells #[.int .i64 d, .int .i64 t, .int .i64 n, .string s, .int .i64 q] 24)) 1) hf1; have x2 := cell_keep (cell_blk (alloc_new w (.cells #[.int .i64 d, .int .i64 t, .int .i64 n, .string s, .int .i64 q] 24)) 2) hf1; have x3 := cell_keep (cell_blk (alloc_new w (.cells #[.int .i64 d, .int .i64 t, .int .i64 n, .string s, .int .i64 q] 24)) 3) hf1; have x4 := cell_keep (cell_blk (alloc_new w (.cells #[.int .i64 d, .int .i64 t, .int .i64 n, .string s, .int .i64 q] 24)) 4) hf1)
      | (go_at_call 17; refine (blocks_nil _).mono ?_; rintro e w2 ⟨rfl, hf2⟩; have z0 := cell_keep x0 hf2; have z1 := cell_keep x1 hf2; have z2 := cell_keep x2 hf2; have z3 := cell_keep x3 hf2; have z4 := cell_keep x4 hf2)
      | (go_at_call 13; refine (RC.out _).mono ?_; rintro e w3 ⟨rfl, hf3⟩)
      | (go_at_call 12; refine (RT.out _).mono ?_; rintro e w4 ⟨rfl, hf4⟩)
      | (go_at_call 20; refine (missing_nil _).mono ?_; rintro e w5 ⟨rfl, hf5⟩)
      | (go_at_call 8; refine (speaks25_calls _).mono ?_; rintro e w6 ⟨rfl, hf6⟩))
    go_ret
    exact ⟨rfl, ((Fr.refl w _).alloc _).trans (hf1.trans (hf2.trans (hf3.trans (hf4.trans (hf5.trans hf6)))))⟩
end Go.Proofs.Ythnigmbdacjlnaa.Cw
