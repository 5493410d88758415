/- A result that lies in a block of nine cells. Own work. -/
import Derived.Test.YtbphkbbidbjpmaaRpA
import Derived.Deep.MidRow
namespace Go.Proofs.Ytbphkbbidbjpmaa.Cw
open Go.RowKit
set_option linter.unusedVariables false
set_option linter.unusedSimpArgs false

theorem set9 {w : World} {b : Nat} {t : TypeId} {o0 o1 o2 o3 o4 o5 o6 o7 o8 : Value} (v0 v1 v2 v3 v4 v5 v6 v7 v8 : Value) (h : w.heap[b]? = some (.cells #[o0, o1, o2, o3, o4, o5, o6, o7, o8] t (0, 0))) :
    (((((((((w.setCell ⟨b, 0, none⟩ v0).setCell ⟨b, 1, none⟩ v1).setCell ⟨b, 2, none⟩ v2).setCell ⟨b, 3, none⟩ v3).setCell ⟨b, 4, none⟩ v4).setCell ⟨b, 5, none⟩ v5).setCell ⟨b, 6, none⟩ v6).setCell ⟨b, 7, none⟩ v7).setCell ⟨b, 8, none⟩ v8).heap[b]? = some (.cells #[v0, v1, v2, v3, v4, v5, v6, v7, v8] t (0, 0)) := by
  have g0 := set_blk h 0 v0
  have g1 := set_blk g0 1 v1
  have g2 := set_blk g1 2 v2
  have g3 := set_blk g2 3 v3
  have g4 := set_blk g3 4 v4
  have g5 := set_blk g4 5 v5
  have g6 := set_blk g5 6 v6
  have g7 := set_blk g6 7 v7
  have g8 := set_blk g7 8 v8
  simp only [List.setIfInBounds_toArray, List.set_cons_zero, List.set_cons_succ] at g8
  exact g8
theorem fr9 {w0 w : World} {b : Nat} (v0 v1 v2 v3 v4 v5 v6 v7 v8 : Value) (h : Fr w0 w (fun _ => False)) (hb : w0.heap.size ≤ b) :
    Fr w0 (((((((((w.setCell ⟨b, 0, none⟩ v0).setCell ⟨b, 1, none⟩ v1).setCell ⟨b, 2, none⟩ v2).setCell ⟨b, 3, none⟩ v3).setCell ⟨b, 4, none⟩ v4).setCell ⟨b, 5, none⟩ v5).setCell ⟨b, 6, none⟩ v6).setCell ⟨b, 7, none⟩ v7).setCell ⟨b, 8, none⟩ v8) (fun _ => False) := by
  have n : ∀ k : Nat, (⟨b, k, none⟩ : Addr).block < w0.heap.size → False := fun k x => by
    have : b < w0.heap.size := x
    omega
  exact ((((((((h.set _ (n 0) v0).set _ (n 1) v1).set _ (n 2) v2).set _ (n 3) v3).set _ (n 4) v4).set _ (n 5) v5).set _ (n 6) v6).set _ (n 7) v7).set _ (n 8) v8

theorem heap_drw (w : World) : w.drew.heap = w.heap := rfl
theorem info_entry : (Try.prog.info? 25).map (·.size) = some 9 := by kernel_rfl
theorem load9 {w : World} {b : Nat} {t : TypeId} {v0 v1 v2 v3 v4 v5 v6 v7 v8 : Value} (h : w.heap[b]? = some (.cells #[v0, v1, v2, v3, v4, v5, v6, v7, v8] t (0, 0))) :
    (loadVar 25 ⟨b, 0, none⟩).run Try.prog w = .ok (.agg #[v0, v1, v2, v3, v4, v5, v6, v7, v8]) w := by
  refine run_loadVar_mid w b 0 25 [v0, v1, v2, v3, v4, v5, v6, v7, v8] _ ?_ Try.underlying25 rfl (info_entry.trans rfl)
  intro j v hj
  rw [cell_blk h, Nat.zero_add]
  simpa using hj
theorem results_entry {fn : Func} {u x y : Tmp} (h : fn.results = #[.cell u 25, .tmp x, .tmp y]) (tmps : Array Value) (w : World) (b : Nat) (hb : tmps.getD u undef = .pointer (some ⟨b, 0, none⟩)) {cs : Value}
    (hl : (loadVar 25 ⟨b, 0, none⟩).run Try.prog w = .ok cs w) :
    (results fn tmps).run Try.prog w = .ok (.tuple #[cs, tmps.getD x undef, tmps.getD y undef]) w := by
  have hb' : tmps[u]?.getD undef = .pointer (some ⟨b, 0, none⟩) := by simpa using hb
  simp [results, h, hb', hl, Sem.run_bind, asAddr]
end Go.Proofs.Ytbphkbbidbjpmaa.Cw
