/- What the statements of layer 12 ask first. Own work. -/
import Derived.Test.YtmbfcnacoijmaaaIoU
import Derived.Test.YtmbfcnacoijmaaaIoQ
namespace Go.Proofs.Ytmbfcnacoijmaaa.Cw
open Go.RowKit
set_option linter.unusedVariables false
set_option linter.unusedSimpArgs false

def spkN : Nd := ⟨1, 2, 300, 0, 0, 0, 0, 0, 0, 258, 0⟩
theorem spkN_R : spkN.R := by decide
def spkL (i : Nat) : Int := match i with | 0 => 0 | 1 => 6 | 2 => 70 | _ => 134
theorem spkL_cost : coV 4 spkL = .tuple #[.int .i64 8, .int .i64 0] := by
  rw [coV_yes]
  · rfl
  · intro j hj
    rcases (show j = 0 ∨ j = 1 ∨ j = 2 ∨ j = 3 by omega) with rfl | rfl | rfl | rfl <;> decide

theorem spk12_enc (w : World) : Calls Try.prog 10 #[.agg #[.int .i64 1, .int .i64 2, .int .i64 300, .int .i64 0, .int .i64 0, .int .i64 0, .int .i64 0, .int .i64 0, .int .i64 0, .int .i64 258, .int .i64 0]] w fun e w' => e = .returned (.tuple #[.string ⟨(ndB spkN).toArray⟩, .int .i64 0]) ∧ Fr w w' (fun _ => False) := encode12_yes w spkN spkN_R
theorem spk12_dec (w : World) : Calls Try.prog 12 #[.string ⟨(ndB spkN).toArray⟩] w fun e w' => e = .returned (.tuple #[.agg #[.int .i64 1, .int .i64 2, .int .i64 300, .int .i64 0, .int .i64 0, .int .i64 0, .int .i64 0, .int .i64 0, .int .i64 0, .int .i64 258, .int .i64 0], .int .i64 0]) ∧ Fr w w' (fun _ => False) := by
  have h := decode12_calls w ⟨(ndB spkN).toArray⟩ (by show (ndB spkN).toArray.size ≤ maxLen; rw [List.size_toArray, ndB_len]; decide)
  rw [ndV_back spkN spkN_R] at h
  exact h
theorem spk12_place (w : World) : Calls Try.prog 19 #[.int .i64 134] w fun e w' => e = .returned (.tuple #[.int .i64 2, .int .i64 1, .int .i64 0, .int .i64 0]) ∧ w = w' := by
  have h := place_calls w 134 (by decide) (by decide)
  rw [plV_2 (by decide) (by decide)] at h
  exact h
theorem spk12_cost (w : World) (b : Nat) (h : w.heap[b]? = some (.cells #[.int .i64 0, .int .i64 6, .int .i64 70, .int .i64 134] 3 (0, 0))) :
    Calls Try.prog 17 #[.slice (some ⟨b, 0, none⟩) 4 4] w fun e w' => e = .returned (.tuple #[.int .i64 8, .int .i64 0]) ∧ Fr w w' (fun _ => False) := by
  have hc := cost_some w b 0 4 4 spkL (fun i hi => by
    rw [Nat.zero_add]
    refine (cell_blk h i).trans ?_
    rcases (show i = 0 ∨ i = 1 ∨ i = 2 ∨ i = 3 by omega) with rfl | rfl | rfl | rfl <;> rfl) (fun i hi => by
    rcases (show i = 0 ∨ i = 1 ∨ i = 2 ∨ i = 3 by omega) with rfl | rfl | rfl | rfl <;> decide) (by omega)
  rw [spkL_cost] at hc
  exact hc

attribute [local go_sem ↓ high] eqNd
set_option maxRecDepth 100000 in
set_option maxHeartbeats 6400000 in
theorem speaks12_calls (w : World) : Calls Try.prog 16 #[] w fun e w' => e = .returned (.bool true) ∧ Fr w w' (fun _ => False) := by
  have SE := hid spk12_enc
  have SD := hid spk12_dec
  have SP := hid spk12_place
  have hl := ndB_len spkN
  have hq : eq11 1 2 300 0 0 0 0 0 0 258 0 1 2 300 0 0 0 0 0 0 258 0 = true := by decide
  generalize ndB spkN = l at *
  have HL : (((l.length : Nat) : Int) == 32) = true := by rw [hl]; rfl
  clear hl
  go_enter Try.func16, Try.ntmps16
  go_wp2_with fail
  refine (SE.out _).mono ?_
  rintro e w1 ⟨rfl, hf1⟩
  have hx1 := hf1.at_ (alloc_new w _) (fun x => x)
  have hA1 := ((Fr.refl w (fun _ => False)).alloc _).trans hf1
  clear hf1
  go_wp2_with fail
  refine (SD.out _).mono ?_
  rintro e w2 ⟨rfl, hf2⟩
  have hx2 := hf2.at_ hx1 (fun x => x)
  have hA2 := hA1.trans hf2
  clear hf2 hx1 hA1
  go_wp2_with fail
  have hx3 := ((Fr.refl w2 (fun _ => False)).alloc (.cells #[.int .i64 1, .int .i64 2, .int .i64 300, .int .i64 0, .int .i64 0, .int .i64 0, .int .i64 0, .int .i64 0, .int .i64 0, .int .i64 258, .int .i64 0] 24)).at_ hx2 (fun x => x)
  have hD3 := alloc_new w2 (.cells #[.int .i64 1, .int .i64 2, .int .i64 300, .int .i64 0, .int .i64 0, .int .i64 0, .int .i64 0, .int .i64 0, .int .i64 0, .int .i64 258, .int .i64 0] 24)
  have hA3 := hA2.alloc (.cells #[.int .i64 1, .int .i64 2, .int .i64 300, .int .i64 0, .int .i64 0, .int .i64 0, .int .i64 0, .int .i64 0, .int .i64 0, .int .i64 258, .int .i64 0] 24)
  clear hx2 hA2
  generalize w2.heap.size = db at *
  generalize w2.alloc (.cells #[.int .i64 1, .int .i64 2, .int .i64 300, .int .i64 0, .int .i64 0, .int .i64 0, .int .i64 0, .int .i64 0, .int .i64 0, .int .i64 258, .int .i64 0] 24) = w3 at *
  refine (SP.out _).mono ?_
  rintro e w4 ⟨rfl, rfl⟩
  go_wp2_with fail
  refine (spk12_cost _ _ (alloc_new w3 _)).mono ?_
  rintro e w5 ⟨rfl, hf5⟩
  have hF5 := ((Fr.refl w3 (fun _ => False)).alloc (.cells #[.int .i64 0, .int .i64 6, .int .i64 70, .int .i64 134] 3)).trans hf5
  have hx5 := hF5.at_ hx3 (fun x => x)
  have hD5 := hF5.at_ hD3 (fun x => x)
  have hA5 := hA3.trans hF5
  have c0 := (cell_blk hx5 0).trans rfl
  have d0 := (cell_blk hD5 0).trans rfl
  have c1 := (cell_blk hx5 1).trans rfl
  have d1 := (cell_blk hD5 1).trans rfl
  have c2 := (cell_blk hx5 2).trans rfl
  have d2 := (cell_blk hD5 2).trans rfl
  have c3 := (cell_blk hx5 3).trans rfl
  have d3 := (cell_blk hD5 3).trans rfl
  have c4 := (cell_blk hx5 4).trans rfl
  have d4 := (cell_blk hD5 4).trans rfl
  have c5 := (cell_blk hx5 5).trans rfl
  have d5 := (cell_blk hD5 5).trans rfl
  have c6 := (cell_blk hx5 6).trans rfl
  have d6 := (cell_blk hD5 6).trans rfl
  have c7 := (cell_blk hx5 7).trans rfl
  have d7 := (cell_blk hD5 7).trans rfl
  have c8 := (cell_blk hx5 8).trans rfl
  have d8 := (cell_blk hD5 8).trans rfl
  have c9 := (cell_blk hx5 9).trans rfl
  have d9 := (cell_blk hD5 9).trans rfl
  have c10 := (cell_blk hx5 10).trans rfl
  have d10 := (cell_blk hD5 10).trans rfl
  clear hf5 hF5 hx3 hD3 hA3
  go_wp2_with fail
  go_ret
  exact ⟨rfl, hA5⟩
end Go.Proofs.Ytmbfcnacoijmaaa.Cw
