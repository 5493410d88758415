/- ChunkWhole: every snapshot. Own work. -/
import Derived.Test.YthnigmbdacjlnaaChunkWholeWalk
namespace Go.Proofs.Ythnigmbdacjlnaa.Cw
open Go.RowKit
set_option linter.unusedVariables false
set_option linter.unusedSimpArgs false

set_option maxRecDepth 100000 in
set_option maxHeartbeats 3200000 in
theorem chunkWhole_big (w : World) (A A2 : Option Addr) (N LO cap cap2 : Nat) (hb : 1100 < N ∨ 300 < LO) (h1 : N ≤ 9223372036854775807) (h2 : LO ≤ 9223372036854775807) :
    Calls Try.prog 5 #[.slice A N cap, .slice A2 LO cap2] w fun e w' => e = .returned (.bool true) ∧ Fr w w' (fun _ => False) := by
  by_cases hn : 1100 < N
  · have d1 : decide ((1100 : Int) < (N : Int)) = true := decide_eq_true (by omega)
    go_enter Try.func5, Try.ntmps5
    go_wp2_with (go_at_call 8; refine (speaks25_calls _).mono ?_; rintro e w6 ⟨rfl, hf6⟩)
    go_ret
    exact ⟨rfl, hf6⟩
  · have d1 : decide ((1100 : Int) < (N : Int)) = false := decide_eq_false (by omega)
    have d2 : decide ((300 : Int) < (LO : Int)) = true := decide_eq_true (by omega)
    go_enter Try.func5, Try.ntmps5
    go_wp2_with (go_at_call 8; refine (speaks25_calls _).mono ?_; rintro e w6 ⟨rfl, hf6⟩)
    go_ret
    exact ⟨rfl, hf6⟩

set_option maxRecDepth 100000 in
set_option maxHeartbeats 3200000 in
theorem chunkWhole_calls (w : World) (v : Value) (bs : List ByteArray) (u : Value) (os : List Int) (h : Tv w v bs) (ho : Nv w u os) :
    Calls Try.prog 5 #[v, u] w fun e w' => e = .returned (.bool true) ∧ Fr w w' (fun _ => False) := by
  by_cases hb : 1100 < bs.length ∨ 300 < os.length
  · obtain ⟨A, cap, rfl, h1, h2, h3⟩ := h
    obtain ⟨A2, cap2, rfl, k1, k2, k3⟩ := ho
    simp only [List.length_map] at h1 k1 ⊢
    clear h3 k3
    unfold maxLen at h2 k2
    exact chunkWhole_big w A A2 bs.length os.length cap cap2 hb (by omega) (by omega)
  · by_cases hE : splE bs = 0
    · exact chunkWhole_good w v u bs os h ho (vs_of hE) (by omega)
    · have SPC := hid (split_calls w v bs h)
      rw [splL_no hE] at SPC
      obtain ⟨A, cap, rfl, h1, h2, h3⟩ := h
      obtain ⟨A2, cap2, rfl, k1, k2, k3⟩ := ho
      simp only [List.length_map] at h1 k1 SPC ⊢
      clear h3 k3
      generalize splE bs = E at *
      generalize bs.length = N at *
      generalize os.length = LO at *
      have d1 : decide ((1100 : Int) < (N : Int)) = false := decide_eq_false (by omega)
      have d2 : decide ((300 : Int) < (LO : Int)) = false := decide_eq_false (by omega)
      have e1 : (E != 0) = true := bne_iff_ne.2 hE
      clear hE hb h2 k2
      go_enter Try.func5, Try.ntmps5
      go_wp2_with (first
        | (go_at_call 9; refine SPC.out.mono ?_; rintro e w1 ⟨u1, rfl, ⟨A1, c1, rfl, hq1, hq2, hq3⟩, hf1⟩; rw [List.length_nil] at hq1 ⊢)
        | (go_at_call 8; refine (speaks25_calls _).mono ?_; rintro e w9 ⟨rfl, hf9⟩))
      go_ret
      exact ⟨rfl, hf1.trans hf9⟩
end Go.Proofs.Ythnigmbdacjlnaa.Cw
