/- InodeCodes by a walk over contracts. Own work. -/
import Derived.Test.YtmbfcnacoijmaaaIoV
import Derived.Deep.RegionHeld3
import Derived.Test.YtmbfcnacoijmaaaRpA
namespace Go.Proofs.Ytmbfcnacoijmaaa.Cw
open Go.RowKit
set_option linter.unusedVariables false
set_option linter.unusedSimpArgs false
attribute [local go_sem ↓ high] eqNd

theorem keep33 {w0 w w' : World} {A D E : Nat} {x y : Nd} (hf : Fr w w' (fun _ => False)) (h : w.cell? ⟨A, 0, none⟩ = some (.int .i64 x.k) ∧ w.cell? ⟨A, 1, none⟩ = some (.int .i64 x.l) ∧ w.cell? ⟨A, 2, none⟩ = some (.int .i64 x.s) ∧ w.cell? ⟨A, 3, none⟩ = some (.int .i64 x.d0) ∧ w.cell? ⟨A, 4, none⟩ = some (.int .i64 x.d1) ∧ w.cell? ⟨A, 5, none⟩ = some (.int .i64 x.d2) ∧ w.cell? ⟨A, 6, none⟩ = some (.int .i64 x.d3) ∧ w.cell? ⟨A, 7, none⟩ = some (.int .i64 x.d4) ∧ w.cell? ⟨A, 8, none⟩ = some (.int .i64 x.d5) ∧ w.cell? ⟨A, 9, none⟩ = some (.int .i64 x.a) ∧ w.cell? ⟨A, 10, none⟩ = some (.int .i64 x.b) ∧ w.cell? ⟨D, 0, none⟩ = some (.int .i64 y.k) ∧ w.cell? ⟨D, 1, none⟩ = some (.int .i64 y.l) ∧ w.cell? ⟨D, 2, none⟩ = some (.int .i64 y.s) ∧ w.cell? ⟨D, 3, none⟩ = some (.int .i64 y.d0) ∧ w.cell? ⟨D, 4, none⟩ = some (.int .i64 y.d1) ∧ w.cell? ⟨D, 5, none⟩ = some (.int .i64 y.d2) ∧ w.cell? ⟨D, 6, none⟩ = some (.int .i64 y.d3) ∧ w.cell? ⟨D, 7, none⟩ = some (.int .i64 y.d4) ∧ w.cell? ⟨D, 8, none⟩ = some (.int .i64 y.d5) ∧ w.cell? ⟨D, 9, none⟩ = some (.int .i64 y.a) ∧ w.cell? ⟨D, 10, none⟩ = some (.int .i64 y.b) ∧ w.cell? ⟨E, 0, none⟩ = some (.int .i64 y.k) ∧ w.cell? ⟨E, 1, none⟩ = some (.int .i64 y.l) ∧ w.cell? ⟨E, 2, none⟩ = some (.int .i64 y.s) ∧ w.cell? ⟨E, 3, none⟩ = some (.int .i64 y.d0) ∧ w.cell? ⟨E, 4, none⟩ = some (.int .i64 y.d1) ∧ w.cell? ⟨E, 5, none⟩ = some (.int .i64 y.d2) ∧ w.cell? ⟨E, 6, none⟩ = some (.int .i64 y.d3) ∧ w.cell? ⟨E, 7, none⟩ = some (.int .i64 y.d4) ∧ w.cell? ⟨E, 8, none⟩ = some (.int .i64 y.d5) ∧ w.cell? ⟨E, 9, none⟩ = some (.int .i64 y.a) ∧ w.cell? ⟨E, 10, none⟩ = some (.int .i64 y.b) ∧ Fr w0 w (fun _ => False)) : w'.cell? ⟨A, 0, none⟩ = some (.int .i64 x.k) ∧ w'.cell? ⟨A, 1, none⟩ = some (.int .i64 x.l) ∧ w'.cell? ⟨A, 2, none⟩ = some (.int .i64 x.s) ∧ w'.cell? ⟨A, 3, none⟩ = some (.int .i64 x.d0) ∧ w'.cell? ⟨A, 4, none⟩ = some (.int .i64 x.d1) ∧ w'.cell? ⟨A, 5, none⟩ = some (.int .i64 x.d2) ∧ w'.cell? ⟨A, 6, none⟩ = some (.int .i64 x.d3) ∧ w'.cell? ⟨A, 7, none⟩ = some (.int .i64 x.d4) ∧ w'.cell? ⟨A, 8, none⟩ = some (.int .i64 x.d5) ∧ w'.cell? ⟨A, 9, none⟩ = some (.int .i64 x.a) ∧ w'.cell? ⟨A, 10, none⟩ = some (.int .i64 x.b) ∧ w'.cell? ⟨D, 0, none⟩ = some (.int .i64 y.k) ∧ w'.cell? ⟨D, 1, none⟩ = some (.int .i64 y.l) ∧ w'.cell? ⟨D, 2, none⟩ = some (.int .i64 y.s) ∧ w'.cell? ⟨D, 3, none⟩ = some (.int .i64 y.d0) ∧ w'.cell? ⟨D, 4, none⟩ = some (.int .i64 y.d1) ∧ w'.cell? ⟨D, 5, none⟩ = some (.int .i64 y.d2) ∧ w'.cell? ⟨D, 6, none⟩ = some (.int .i64 y.d3) ∧ w'.cell? ⟨D, 7, none⟩ = some (.int .i64 y.d4) ∧ w'.cell? ⟨D, 8, none⟩ = some (.int .i64 y.d5) ∧ w'.cell? ⟨D, 9, none⟩ = some (.int .i64 y.a) ∧ w'.cell? ⟨D, 10, none⟩ = some (.int .i64 y.b) ∧ w'.cell? ⟨E, 0, none⟩ = some (.int .i64 y.k) ∧ w'.cell? ⟨E, 1, none⟩ = some (.int .i64 y.l) ∧ w'.cell? ⟨E, 2, none⟩ = some (.int .i64 y.s) ∧ w'.cell? ⟨E, 3, none⟩ = some (.int .i64 y.d0) ∧ w'.cell? ⟨E, 4, none⟩ = some (.int .i64 y.d1) ∧ w'.cell? ⟨E, 5, none⟩ = some (.int .i64 y.d2) ∧ w'.cell? ⟨E, 6, none⟩ = some (.int .i64 y.d3) ∧ w'.cell? ⟨E, 7, none⟩ = some (.int .i64 y.d4) ∧ w'.cell? ⟨E, 8, none⟩ = some (.int .i64 y.d5) ∧ w'.cell? ⟨E, 9, none⟩ = some (.int .i64 y.a) ∧ w'.cell? ⟨E, 10, none⟩ = some (.int .i64 y.b) ∧ Fr w0 w' (fun _ => False) := by
  obtain ⟨h0, h1, h2, h3, h4, h5, h6, h7, h8, h9, h10, h11, h12, h13, h14, h15, h16, h17, h18, h19, h20, h21, h22, h23, h24, h25, h26, h27, h28, h29, h30, h31, h32, hl⟩ := h
  exact ⟨cell_fr h0 hf, cell_fr h1 hf, cell_fr h2 hf, cell_fr h3 hf, cell_fr h4 hf, cell_fr h5 hf, cell_fr h6 hf, cell_fr h7 hf, cell_fr h8 hf, cell_fr h9 hf, cell_fr h10 hf, cell_fr h11 hf, cell_fr h12 hf, cell_fr h13 hf, cell_fr h14 hf, cell_fr h15 hf, cell_fr h16 hf, cell_fr h17 hf, cell_fr h18 hf, cell_fr h19 hf, cell_fr h20 hf, cell_fr h21 hf, cell_fr h22 hf, cell_fr h23 hf, cell_fr h24 hf, cell_fr h25 hf, cell_fr h26 hf, cell_fr h27 hf, cell_fr h28 hf, cell_fr h29 hf, cell_fr h30 hf, cell_fr h31 hf, cell_fr h32 hf, hl.trans hf⟩
theorem keep33d {w0 w : World} {A D E : Nat} {x y : Nd} (h : w.cell? ⟨A, 0, none⟩ = some (.int .i64 x.k) ∧ w.cell? ⟨A, 1, none⟩ = some (.int .i64 x.l) ∧ w.cell? ⟨A, 2, none⟩ = some (.int .i64 x.s) ∧ w.cell? ⟨A, 3, none⟩ = some (.int .i64 x.d0) ∧ w.cell? ⟨A, 4, none⟩ = some (.int .i64 x.d1) ∧ w.cell? ⟨A, 5, none⟩ = some (.int .i64 x.d2) ∧ w.cell? ⟨A, 6, none⟩ = some (.int .i64 x.d3) ∧ w.cell? ⟨A, 7, none⟩ = some (.int .i64 x.d4) ∧ w.cell? ⟨A, 8, none⟩ = some (.int .i64 x.d5) ∧ w.cell? ⟨A, 9, none⟩ = some (.int .i64 x.a) ∧ w.cell? ⟨A, 10, none⟩ = some (.int .i64 x.b) ∧ w.cell? ⟨D, 0, none⟩ = some (.int .i64 y.k) ∧ w.cell? ⟨D, 1, none⟩ = some (.int .i64 y.l) ∧ w.cell? ⟨D, 2, none⟩ = some (.int .i64 y.s) ∧ w.cell? ⟨D, 3, none⟩ = some (.int .i64 y.d0) ∧ w.cell? ⟨D, 4, none⟩ = some (.int .i64 y.d1) ∧ w.cell? ⟨D, 5, none⟩ = some (.int .i64 y.d2) ∧ w.cell? ⟨D, 6, none⟩ = some (.int .i64 y.d3) ∧ w.cell? ⟨D, 7, none⟩ = some (.int .i64 y.d4) ∧ w.cell? ⟨D, 8, none⟩ = some (.int .i64 y.d5) ∧ w.cell? ⟨D, 9, none⟩ = some (.int .i64 y.a) ∧ w.cell? ⟨D, 10, none⟩ = some (.int .i64 y.b) ∧ w.cell? ⟨E, 0, none⟩ = some (.int .i64 y.k) ∧ w.cell? ⟨E, 1, none⟩ = some (.int .i64 y.l) ∧ w.cell? ⟨E, 2, none⟩ = some (.int .i64 y.s) ∧ w.cell? ⟨E, 3, none⟩ = some (.int .i64 y.d0) ∧ w.cell? ⟨E, 4, none⟩ = some (.int .i64 y.d1) ∧ w.cell? ⟨E, 5, none⟩ = some (.int .i64 y.d2) ∧ w.cell? ⟨E, 6, none⟩ = some (.int .i64 y.d3) ∧ w.cell? ⟨E, 7, none⟩ = some (.int .i64 y.d4) ∧ w.cell? ⟨E, 8, none⟩ = some (.int .i64 y.d5) ∧ w.cell? ⟨E, 9, none⟩ = some (.int .i64 y.a) ∧ w.cell? ⟨E, 10, none⟩ = some (.int .i64 y.b) ∧ Fr w0 w (fun _ => False)) : w.drew.cell? ⟨A, 0, none⟩ = some (.int .i64 x.k) ∧ w.drew.cell? ⟨A, 1, none⟩ = some (.int .i64 x.l) ∧ w.drew.cell? ⟨A, 2, none⟩ = some (.int .i64 x.s) ∧ w.drew.cell? ⟨A, 3, none⟩ = some (.int .i64 x.d0) ∧ w.drew.cell? ⟨A, 4, none⟩ = some (.int .i64 x.d1) ∧ w.drew.cell? ⟨A, 5, none⟩ = some (.int .i64 x.d2) ∧ w.drew.cell? ⟨A, 6, none⟩ = some (.int .i64 x.d3) ∧ w.drew.cell? ⟨A, 7, none⟩ = some (.int .i64 x.d4) ∧ w.drew.cell? ⟨A, 8, none⟩ = some (.int .i64 x.d5) ∧ w.drew.cell? ⟨A, 9, none⟩ = some (.int .i64 x.a) ∧ w.drew.cell? ⟨A, 10, none⟩ = some (.int .i64 x.b) ∧ w.drew.cell? ⟨D, 0, none⟩ = some (.int .i64 y.k) ∧ w.drew.cell? ⟨D, 1, none⟩ = some (.int .i64 y.l) ∧ w.drew.cell? ⟨D, 2, none⟩ = some (.int .i64 y.s) ∧ w.drew.cell? ⟨D, 3, none⟩ = some (.int .i64 y.d0) ∧ w.drew.cell? ⟨D, 4, none⟩ = some (.int .i64 y.d1) ∧ w.drew.cell? ⟨D, 5, none⟩ = some (.int .i64 y.d2) ∧ w.drew.cell? ⟨D, 6, none⟩ = some (.int .i64 y.d3) ∧ w.drew.cell? ⟨D, 7, none⟩ = some (.int .i64 y.d4) ∧ w.drew.cell? ⟨D, 8, none⟩ = some (.int .i64 y.d5) ∧ w.drew.cell? ⟨D, 9, none⟩ = some (.int .i64 y.a) ∧ w.drew.cell? ⟨D, 10, none⟩ = some (.int .i64 y.b) ∧ w.drew.cell? ⟨E, 0, none⟩ = some (.int .i64 y.k) ∧ w.drew.cell? ⟨E, 1, none⟩ = some (.int .i64 y.l) ∧ w.drew.cell? ⟨E, 2, none⟩ = some (.int .i64 y.s) ∧ w.drew.cell? ⟨E, 3, none⟩ = some (.int .i64 y.d0) ∧ w.drew.cell? ⟨E, 4, none⟩ = some (.int .i64 y.d1) ∧ w.drew.cell? ⟨E, 5, none⟩ = some (.int .i64 y.d2) ∧ w.drew.cell? ⟨E, 6, none⟩ = some (.int .i64 y.d3) ∧ w.drew.cell? ⟨E, 7, none⟩ = some (.int .i64 y.d4) ∧ w.drew.cell? ⟨E, 8, none⟩ = some (.int .i64 y.d5) ∧ w.drew.cell? ⟨E, 9, none⟩ = some (.int .i64 y.a) ∧ w.drew.cell? ⟨E, 10, none⟩ = some (.int .i64 y.b) ∧ Fr w0 w.drew (fun _ => False) := by
  obtain ⟨h0, h1, h2, h3, h4, h5, h6, h7, h8, h9, h10, h11, h12, h13, h14, h15, h16, h17, h18, h19, h20, h21, h22, h23, h24, h25, h26, h27, h28, h29, h30, h31, h32, hl⟩ := h
  exact ⟨h0, h1, h2, h3, h4, h5, h6, h7, h8, h9, h10, h11, h12, h13, h14, h15, h16, h17, h18, h19, h20, h21, h22, h23, h24, h25, h26, h27, h28, h29, h30, h31, h32, hl.drew⟩
theorem last33 {w0 w : World} {A D E : Nat} {x y : Nd} (h : w.cell? ⟨A, 0, none⟩ = some (.int .i64 x.k) ∧ w.cell? ⟨A, 1, none⟩ = some (.int .i64 x.l) ∧ w.cell? ⟨A, 2, none⟩ = some (.int .i64 x.s) ∧ w.cell? ⟨A, 3, none⟩ = some (.int .i64 x.d0) ∧ w.cell? ⟨A, 4, none⟩ = some (.int .i64 x.d1) ∧ w.cell? ⟨A, 5, none⟩ = some (.int .i64 x.d2) ∧ w.cell? ⟨A, 6, none⟩ = some (.int .i64 x.d3) ∧ w.cell? ⟨A, 7, none⟩ = some (.int .i64 x.d4) ∧ w.cell? ⟨A, 8, none⟩ = some (.int .i64 x.d5) ∧ w.cell? ⟨A, 9, none⟩ = some (.int .i64 x.a) ∧ w.cell? ⟨A, 10, none⟩ = some (.int .i64 x.b) ∧ w.cell? ⟨D, 0, none⟩ = some (.int .i64 y.k) ∧ w.cell? ⟨D, 1, none⟩ = some (.int .i64 y.l) ∧ w.cell? ⟨D, 2, none⟩ = some (.int .i64 y.s) ∧ w.cell? ⟨D, 3, none⟩ = some (.int .i64 y.d0) ∧ w.cell? ⟨D, 4, none⟩ = some (.int .i64 y.d1) ∧ w.cell? ⟨D, 5, none⟩ = some (.int .i64 y.d2) ∧ w.cell? ⟨D, 6, none⟩ = some (.int .i64 y.d3) ∧ w.cell? ⟨D, 7, none⟩ = some (.int .i64 y.d4) ∧ w.cell? ⟨D, 8, none⟩ = some (.int .i64 y.d5) ∧ w.cell? ⟨D, 9, none⟩ = some (.int .i64 y.a) ∧ w.cell? ⟨D, 10, none⟩ = some (.int .i64 y.b) ∧ w.cell? ⟨E, 0, none⟩ = some (.int .i64 y.k) ∧ w.cell? ⟨E, 1, none⟩ = some (.int .i64 y.l) ∧ w.cell? ⟨E, 2, none⟩ = some (.int .i64 y.s) ∧ w.cell? ⟨E, 3, none⟩ = some (.int .i64 y.d0) ∧ w.cell? ⟨E, 4, none⟩ = some (.int .i64 y.d1) ∧ w.cell? ⟨E, 5, none⟩ = some (.int .i64 y.d2) ∧ w.cell? ⟨E, 6, none⟩ = some (.int .i64 y.d3) ∧ w.cell? ⟨E, 7, none⟩ = some (.int .i64 y.d4) ∧ w.cell? ⟨E, 8, none⟩ = some (.int .i64 y.d5) ∧ w.cell? ⟨E, 9, none⟩ = some (.int .i64 y.a) ∧ w.cell? ⟨E, 10, none⟩ = some (.int .i64 y.b) ∧ Fr w0 w (fun _ => False)) : Fr w0 w (fun _ => False) := by
  obtain ⟨h0, h1, h2, h3, h4, h5, h6, h7, h8, h9, h10, h11, h12, h13, h14, h15, h16, h17, h18, h19, h20, h21, h22, h23, h24, h25, h26, h27, h28, h29, h30, h31, h32, hl⟩ := h
  exact hl
theorem mk33 {w : World} {A D E : Nat} {x y : Nd} {t : TypeId} (hx : w.heap[A]? = some (.cells #[.int .i64 x.k, .int .i64 x.l, .int .i64 x.s, .int .i64 x.d0, .int .i64 x.d1, .int .i64 x.d2, .int .i64 x.d3, .int .i64 x.d4, .int .i64 x.d5, .int .i64 x.a, .int .i64 x.b] t (0, 0))) (hD : w.heap[D]? = some (.cells #[.int .i64 y.k, .int .i64 y.l, .int .i64 y.s, .int .i64 y.d0, .int .i64 y.d1, .int .i64 y.d2, .int .i64 y.d3, .int .i64 y.d4, .int .i64 y.d5, .int .i64 y.a, .int .i64 y.b] t (0, 0))) (hE : w.heap[E]? = some (.cells #[.int .i64 y.k, .int .i64 y.l, .int .i64 y.s, .int .i64 y.d0, .int .i64 y.d1, .int .i64 y.d2, .int .i64 y.d3, .int .i64 y.d4, .int .i64 y.d5, .int .i64 y.a, .int .i64 y.b] t (0, 0))) : w.cell? ⟨A, 0, none⟩ = some (.int .i64 x.k) ∧ w.cell? ⟨A, 1, none⟩ = some (.int .i64 x.l) ∧ w.cell? ⟨A, 2, none⟩ = some (.int .i64 x.s) ∧ w.cell? ⟨A, 3, none⟩ = some (.int .i64 x.d0) ∧ w.cell? ⟨A, 4, none⟩ = some (.int .i64 x.d1) ∧ w.cell? ⟨A, 5, none⟩ = some (.int .i64 x.d2) ∧ w.cell? ⟨A, 6, none⟩ = some (.int .i64 x.d3) ∧ w.cell? ⟨A, 7, none⟩ = some (.int .i64 x.d4) ∧ w.cell? ⟨A, 8, none⟩ = some (.int .i64 x.d5) ∧ w.cell? ⟨A, 9, none⟩ = some (.int .i64 x.a) ∧ w.cell? ⟨A, 10, none⟩ = some (.int .i64 x.b) ∧ w.cell? ⟨D, 0, none⟩ = some (.int .i64 y.k) ∧ w.cell? ⟨D, 1, none⟩ = some (.int .i64 y.l) ∧ w.cell? ⟨D, 2, none⟩ = some (.int .i64 y.s) ∧ w.cell? ⟨D, 3, none⟩ = some (.int .i64 y.d0) ∧ w.cell? ⟨D, 4, none⟩ = some (.int .i64 y.d1) ∧ w.cell? ⟨D, 5, none⟩ = some (.int .i64 y.d2) ∧ w.cell? ⟨D, 6, none⟩ = some (.int .i64 y.d3) ∧ w.cell? ⟨D, 7, none⟩ = some (.int .i64 y.d4) ∧ w.cell? ⟨D, 8, none⟩ = some (.int .i64 y.d5) ∧ w.cell? ⟨D, 9, none⟩ = some (.int .i64 y.a) ∧ w.cell? ⟨D, 10, none⟩ = some (.int .i64 y.b) ∧ w.cell? ⟨E, 0, none⟩ = some (.int .i64 y.k) ∧ w.cell? ⟨E, 1, none⟩ = some (.int .i64 y.l) ∧ w.cell? ⟨E, 2, none⟩ = some (.int .i64 y.s) ∧ w.cell? ⟨E, 3, none⟩ = some (.int .i64 y.d0) ∧ w.cell? ⟨E, 4, none⟩ = some (.int .i64 y.d1) ∧ w.cell? ⟨E, 5, none⟩ = some (.int .i64 y.d2) ∧ w.cell? ⟨E, 6, none⟩ = some (.int .i64 y.d3) ∧ w.cell? ⟨E, 7, none⟩ = some (.int .i64 y.d4) ∧ w.cell? ⟨E, 8, none⟩ = some (.int .i64 y.d5) ∧ w.cell? ⟨E, 9, none⟩ = some (.int .i64 y.a) ∧ w.cell? ⟨E, 10, none⟩ = some (.int .i64 y.b) ∧ Fr w w (fun _ => False) :=
  ⟨cell_blk hx 0, cell_blk hx 1, cell_blk hx 2, cell_blk hx 3, cell_blk hx 4, cell_blk hx 5, cell_blk hx 6, cell_blk hx 7, cell_blk hx 8, cell_blk hx 9, cell_blk hx 10, cell_blk hD 0, cell_blk hD 1, cell_blk hD 2, cell_blk hD 3, cell_blk hD 4, cell_blk hD 5, cell_blk hD 6, cell_blk hD 7, cell_blk hD 8, cell_blk hD 9, cell_blk hD 10, cell_blk hE 0, cell_blk hE 1, cell_blk hE 2, cell_blk hE 3, cell_blk hE 4, cell_blk hE 5, cell_blk hE 6, cell_blk hE 7, cell_blk hE 8, cell_blk hE 9, cell_blk hE 10, Fr.refl w _⟩

set_option maxRecDepth 100000 in
set_option maxHeartbeats 1000000 in
theorem codes12_gen (w : World) (x y : Nd) (s EB : ByteArray) (EE X EC : Int) (RB : Bool) (hER : (EC == 0) = RB)
    (h1 : ∀ w, Calls Try.prog 10 #[x.V] w fun e w' => e = .returned (.tuple #[.string EB, .int .i64 EE]) ∧ Fr w w' (fun _ => False))
    (h2 : ∀ w, Calls Try.prog 11 #[x.V] w fun e w' => e = .returned (.tuple #[.string EB, .int .i64 EE]) ∧ Fr w w' (fun _ => False))
    (h3 : ∀ w, Calls Try.prog 12 #[.string s] w fun e w' => e = .returned (.tuple #[y.V, .int .i64 X]) ∧ Fr w w' (fun _ => False))
    (h4 : ∀ w, Calls Try.prog 13 #[.string s] w fun e w' => e = .returned (.tuple #[y.V, .int .i64 X]) ∧ Fr w w' (fun _ => False))
    (h5 : ∀ w, Calls Try.prog 14 #[x.V] w fun e w' => e = .returned (.int .i64 EC) ∧ Fr w w' (fun _ => False))
    (h6 : ∀ w, Calls Try.prog 15 #[x.V] w fun e w' => e = .returned (.bool RB) ∧ Fr w w' (fun _ => False)) :
    Calls Try.prog 3 #[x.V, .string s] w fun e w' => e = .returned (.bool true) ∧ Fr w w' (fun _ => False) := by
  have H1 := hid h1
  have H2 := hid h2
  have H3 := hid h3
  have H4 := hid h4
  have H5 := hid h5
  have H6 := hid h6
  have hq := eq11_yes y.k y.l y.s y.d0 y.d1 y.d2 y.d3 y.d4 y.d5 y.a y.b
  clear h1 h2 h3 h4 h5 h6
  unfold Nd.V at *
  go_enter Try.func3, Try.ntmps3
  go_wp2_with fail
  refine (H1.out _).mono ?_
  rintro e w1 ⟨rfl, hf1⟩
  have hx1 := hf1.at_ (alloc_new w _) (fun x => x)
  have hA1 := ((Fr.refl w (fun _ => False)).alloc _).trans hf1
  generalize w.heap.size = A at *
  have c0 := (cell_blk hx1 0).trans rfl
  have c1 := (cell_blk hx1 1).trans rfl
  have c2 := (cell_blk hx1 2).trans rfl
  have c3 := (cell_blk hx1 3).trans rfl
  have c4 := (cell_blk hx1 4).trans rfl
  have c5 := (cell_blk hx1 5).trans rfl
  have c6 := (cell_blk hx1 6).trans rfl
  have c7 := (cell_blk hx1 7).trans rfl
  have c8 := (cell_blk hx1 8).trans rfl
  have c9 := (cell_blk hx1 9).trans rfl
  have c10 := (cell_blk hx1 10).trans rfl
  go_wp2_with fail
  refine (H2.out _).mono ?_
  rintro e w2 ⟨rfl, hf2⟩
  have hx2 := hf2.at_ hx1 (fun x => x)
  have hA2 := hA1.trans hf2
  clear c0 c1 c2 c3 c4 c5 c6 c7 c8 c9 c10 hf1 hf2 hx1 hA1
  go_wp2_with fail
  refine (H3.out _).mono ?_
  rintro e w3 ⟨rfl, hf3⟩
  have hx3 := hf3.at_ hx2 (fun x => x)
  have hA3 := hA2.trans hf3
  clear hA2 hf3 hx2
  go_wp2_with fail
  have hD := alloc_new w3 (.cells #[.int .i64 y.k, .int .i64 y.l, .int .i64 y.s, .int .i64 y.d0, .int .i64 y.d1, .int .i64 y.d2, .int .i64 y.d3, .int .i64 y.d4, .int .i64 y.d5, .int .i64 y.a, .int .i64 y.b] 24)
  have hF4 := (Fr.refl w3 (fun _ => False)).alloc (.cells #[.int .i64 y.k, .int .i64 y.l, .int .i64 y.s, .int .i64 y.d0, .int .i64 y.d1, .int .i64 y.d2, .int .i64 y.d3, .int .i64 y.d4, .int .i64 y.d5, .int .i64 y.a, .int .i64 y.b] 24)
  have hx4 := hF4.at_ hx3 (fun x => x)
  have hA4 := hA3.trans hF4
  clear hF4 hx3 hA3
  generalize w3.heap.size = D at *
  generalize w3.alloc (.cells #[.int .i64 y.k, .int .i64 y.l, .int .i64 y.s, .int .i64 y.d0, .int .i64 y.d1, .int .i64 y.d2, .int .i64 y.d3, .int .i64 y.d4, .int .i64 y.d5, .int .i64 y.a, .int .i64 y.b] 24) = w4 at *
  refine (H4.out _).mono ?_
  rintro e w5 ⟨rfl, hf5⟩
  have hx5 := hf5.at_ hx4 (fun x => x)
  have hD5 := hf5.at_ hD (fun x => x)
  have hA5 := hA4.trans hf5
  clear hf5 hx4 hD hA4
  have hE6 := alloc_new w5 (.cells #[.int .i64 y.k, .int .i64 y.l, .int .i64 y.s, .int .i64 y.d0, .int .i64 y.d1, .int .i64 y.d2, .int .i64 y.d3, .int .i64 y.d4, .int .i64 y.d5, .int .i64 y.a, .int .i64 y.b] 24)
  have hF6 := (Fr.refl w5 (fun _ => False)).alloc (.cells #[.int .i64 y.k, .int .i64 y.l, .int .i64 y.s, .int .i64 y.d0, .int .i64 y.d1, .int .i64 y.d2, .int .i64 y.d3, .int .i64 y.d4, .int .i64 y.d5, .int .i64 y.a, .int .i64 y.b] 24)
  have hx6 := hF6.at_ hx5 (fun x => x)
  have hD6 := hF6.at_ hD5 (fun x => x)
  have hA6 := hA5.trans hF6
  clear hF6 hx5 hD5 hA5
  have c0 := (cell_blk hx6 0).trans rfl
  have c1 := (cell_blk hx6 1).trans rfl
  have c2 := (cell_blk hx6 2).trans rfl
  have c3 := (cell_blk hx6 3).trans rfl
  have c4 := (cell_blk hx6 4).trans rfl
  have c5 := (cell_blk hx6 5).trans rfl
  have c6 := (cell_blk hx6 6).trans rfl
  have c7 := (cell_blk hx6 7).trans rfl
  have c8 := (cell_blk hx6 8).trans rfl
  have c9 := (cell_blk hx6 9).trans rfl
  have c10 := (cell_blk hx6 10).trans rfl
  go_wp2_with fail
  generalize w5.heap.size = E at *
  generalize w5.alloc (.cells #[.int .i64 y.k, .int .i64 y.l, .int .i64 y.s, .int .i64 y.d0, .int .i64 y.d1, .int .i64 y.d2, .int .i64 y.d3, .int .i64 y.d4, .int .i64 y.d5, .int .i64 y.a, .int .i64 y.b] 24) = w6 at *
  have hS := mk33 hx6 hD6 hE6
  clear hx6 hD6 hE6 c0 c1 c2 c3 c4 c5 c6 c7 c8 c9 c10 H1 H2 H3 H4
  go_region_held3 (fun w' => w'.cell? ⟨A, 0, none⟩ = some (.int .i64 x.k) ∧ w'.cell? ⟨A, 1, none⟩ = some (.int .i64 x.l) ∧ w'.cell? ⟨A, 2, none⟩ = some (.int .i64 x.s) ∧ w'.cell? ⟨A, 3, none⟩ = some (.int .i64 x.d0) ∧ w'.cell? ⟨A, 4, none⟩ = some (.int .i64 x.d1) ∧ w'.cell? ⟨A, 5, none⟩ = some (.int .i64 x.d2) ∧ w'.cell? ⟨A, 6, none⟩ = some (.int .i64 x.d3) ∧ w'.cell? ⟨A, 7, none⟩ = some (.int .i64 x.d4) ∧ w'.cell? ⟨A, 8, none⟩ = some (.int .i64 x.d5) ∧ w'.cell? ⟨A, 9, none⟩ = some (.int .i64 x.a) ∧ w'.cell? ⟨A, 10, none⟩ = some (.int .i64 x.b) ∧ w'.cell? ⟨D, 0, none⟩ = some (.int .i64 y.k) ∧ w'.cell? ⟨D, 1, none⟩ = some (.int .i64 y.l) ∧ w'.cell? ⟨D, 2, none⟩ = some (.int .i64 y.s) ∧ w'.cell? ⟨D, 3, none⟩ = some (.int .i64 y.d0) ∧ w'.cell? ⟨D, 4, none⟩ = some (.int .i64 y.d1) ∧ w'.cell? ⟨D, 5, none⟩ = some (.int .i64 y.d2) ∧ w'.cell? ⟨D, 6, none⟩ = some (.int .i64 y.d3) ∧ w'.cell? ⟨D, 7, none⟩ = some (.int .i64 y.d4) ∧ w'.cell? ⟨D, 8, none⟩ = some (.int .i64 y.d5) ∧ w'.cell? ⟨D, 9, none⟩ = some (.int .i64 y.a) ∧ w'.cell? ⟨D, 10, none⟩ = some (.int .i64 y.b) ∧ w'.cell? ⟨E, 0, none⟩ = some (.int .i64 y.k) ∧ w'.cell? ⟨E, 1, none⟩ = some (.int .i64 y.l) ∧ w'.cell? ⟨E, 2, none⟩ = some (.int .i64 y.s) ∧ w'.cell? ⟨E, 3, none⟩ = some (.int .i64 y.d0) ∧ w'.cell? ⟨E, 4, none⟩ = some (.int .i64 y.d1) ∧ w'.cell? ⟨E, 5, none⟩ = some (.int .i64 y.d2) ∧ w'.cell? ⟨E, 6, none⟩ = some (.int .i64 y.d3) ∧ w'.cell? ⟨E, 7, none⟩ = some (.int .i64 y.d4) ∧ w'.cell? ⟨E, 8, none⟩ = some (.int .i64 y.d5) ∧ w'.cell? ⟨E, 9, none⟩ = some (.int .i64 y.a) ∧ w'.cell? ⟨E, 10, none⟩ = some (.int .i64 y.b) ∧ Fr w6 w' (fun _ => False)) (first | exact keep33d hS | exact keep33 (by assumption) (by assumption))
    (first
      | (go_at_call 14; refine (H5.out _).mono ?_; rintro e wc ⟨rfl, hfc⟩)
      | (go_at_call 15; refine (H6.out _).mono ?_; rintro e wr ⟨rfl, hfr⟩)
      | (go_at_call 16; refine (speaks12_calls _).mono ?_; rintro e6 ws ⟨rfl, hfs⟩))
  all_goals
    go_wp2
    go_ret
    exact ⟨rfl, hA6.trans (last33 (by assumption))⟩

theorem codes12_calls (w : World) (x : Nd) (s : ByteArray) (hs : s.size ≤ 140737488351232) :
    Calls Try.prog 3 #[x.V, .string s] w fun e w' => e = .returned (.bool true) ∧ Fr w w' (fun _ => False) := by
  have hs2 : s.size ≤ maxLen := by unfold maxLen; omega
  obtain ⟨y, X, hy⟩ : ∃ (y : Nd) (X : Int), ndV (Nd.ofF (rvl s)) s = .tuple #[y.V, .int .i64 X] := dV_split _ _
  have D1 := fun w => decode12_calls w s hs2
  have D2 := fun w => refDecode12_calls w s hs2
  rw [hy] at D1 D2
  by_cases hR : x.R
  · exact codes12_gen w x y s _ _ X x.E x.Rb (by rw [Nd.E_yes hR, Nd.Rb_yes hR]; rfl) (fun w => encode12_yes w x hR) (fun w => refEncode12_yes w x hR) D1 D2 (fun w => check_calls w x) (fun w => refRight12_calls w x)
  · exact codes12_gen w x y s _ _ X x.E x.Rb (by rw [Nd.E_no hR, Nd.Rb_no hR]; rfl) (fun w => encode12_no w x hR) (fun w => refEncode12_no w x hR) D1 D2 (fun w => check_calls w x) (fun w => refRight12_calls w x)
end Go.Proofs.Ytmbfcnacoijmaaa.Cw
