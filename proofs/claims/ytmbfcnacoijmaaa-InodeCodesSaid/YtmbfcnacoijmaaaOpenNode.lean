/- An argument that is an inode, opened. Own work. -/
import Derived.Test.YtmbfcnacoijmaaaIoE
import Derived.ProofKit
import Derived.Lib.SmallJoins
import Derived.OpenShut
namespace Go.Proofs.Ytmbfcnacoijmaaa.Cw
open Go.Joins Go.ChangeShapes Go.WideShapes Go.RowKit
set_option linter.unusedVariables false
set_option linter.unusedSimpArgs false

theorem cellsNode : Try.prog.cellsOf 24 = 11 := by kernel_rfl
theorem list11 {cs : List Value} (h : cs.length = 11) : ∃ v0 v1 v2 v3 v4 v5 v6 v7 v8 v9 v10, cs = [v0, v1, v2, v3, v4, v5, v6, v7, v8, v9, v10] := by
  rcases cs with _ | ⟨v0, _ | ⟨v1, _ | ⟨v2, _ | ⟨v3, _ | ⟨v4, _ | ⟨v5, _ | ⟨v6, _ | ⟨v7, _ | ⟨v8, _ | ⟨v9, _ | ⟨v10, _ | ⟨v11, r⟩⟩⟩⟩⟩⟩⟩⟩⟩⟩⟩⟩
  all_goals first
    | exact ⟨_, _, _, _, _, _, _, _, _, _, _, rfl⟩
    | (simp at h)
set_option maxRecDepth 100000 in
theorem trod_node {H : Type} {enc : TypeId × Value → H} {w : World} {base : Nat} {spare : Nat → Bool} {held : Bool} {fuel : Nat} {cs : List Value} {x : DataW H × List MemPlace}
    (h : DataW.trod enc Try.prog w base spare held fuel 24 cs = some x) : ∃ y : Nd, cs = (y.V.cells).toList := by
  obtain ⟨ys, n, _, _, hl, hyl, hf⟩ := DataW.trod_struct Try.underlying24 h
  have hlen : cs.length = 11 := hl.trans cellsNode
  obtain ⟨v0, v1, v2, v3, v4, v5, v6, v7, v8, v9, v10, rfl⟩ := list11 hlen
  have k1 : Try.prog.cellsOf 3 = 1 := by kernel_rfl
  have k6 : Try.prog.cellsOf 22 = 6 := by kernel_rfl
  have hy6 : ys.length = 6 := hyl
  have f0 : DataW.trod enc Try.prog w base spare held n 3 (List.take (Try.prog.cellsOf 3) (List.drop 0 [v0, v1, v2, v3, v4, v5, v6, v7, v8, v9, v10])) = ys[0]? := hf 0 _ rfl
  rw [k1, List.getElem?_eq_getElem (by omega)] at f0
  simp only [List.drop_zero, List.drop_succ_cons, List.take_succ_cons, List.take_zero] at f0
  have f1 : DataW.trod enc Try.prog w base spare held n 3 (List.take (Try.prog.cellsOf 3) (List.drop 1 [v0, v1, v2, v3, v4, v5, v6, v7, v8, v9, v10])) = ys[1]? := hf 1 _ rfl
  rw [k1, List.getElem?_eq_getElem (by omega)] at f1
  simp only [List.drop_zero, List.drop_succ_cons, List.take_succ_cons, List.take_zero] at f1
  have f2 : DataW.trod enc Try.prog w base spare held n 3 (List.take (Try.prog.cellsOf 3) (List.drop 2 [v0, v1, v2, v3, v4, v5, v6, v7, v8, v9, v10])) = ys[2]? := hf 2 _ rfl
  rw [k1, List.getElem?_eq_getElem (by omega)] at f2
  simp only [List.drop_zero, List.drop_succ_cons, List.take_succ_cons, List.take_zero] at f2
  have f3 : DataW.trod enc Try.prog w base spare held n 22 (List.take (Try.prog.cellsOf 22) (List.drop 3 [v0, v1, v2, v3, v4, v5, v6, v7, v8, v9, v10])) = ys[3]? := hf 3 _ rfl
  rw [k6, List.getElem?_eq_getElem (by omega)] at f3
  simp only [List.drop_zero, List.drop_succ_cons, List.take_succ_cons, List.take_zero] at f3
  have f4 : DataW.trod enc Try.prog w base spare held n 3 (List.take (Try.prog.cellsOf 3) (List.drop 9 [v0, v1, v2, v3, v4, v5, v6, v7, v8, v9, v10])) = ys[4]? := hf 4 _ rfl
  rw [k1, List.getElem?_eq_getElem (by omega)] at f4
  simp only [List.drop_zero, List.drop_succ_cons, List.take_succ_cons, List.take_zero] at f4
  have f5 : DataW.trod enc Try.prog w base spare held n 3 (List.take (Try.prog.cellsOf 3) (List.drop 10 [v0, v1, v2, v3, v4, v5, v6, v7, v8, v9, v10])) = ys[5]? := hf 5 _ rfl
  rw [k1, List.getElem?_eq_getElem (by omega)] at f5
  simp only [List.drop_zero, List.drop_succ_cons, List.take_succ_cons, List.take_zero] at f5
  obtain ⟨zs, n2, _, _, _, hzl, hg⟩ := DataW.trod_array Try.underlying22 f3
  have g0 : DataW.trod enc Try.prog w base spare held n2 3 (List.take (Try.prog.cellsOf 3) (List.drop (0 * Try.prog.cellsOf 3) [v3, v4, v5, v6, v7, v8])) = zs[0]? := hg 0 (by omega)
  rw [k1, List.getElem?_eq_getElem (by omega)] at g0
  simp only [Nat.reduceMul, Nat.zero_mul, List.drop_zero, List.drop_succ_cons, List.take_succ_cons, List.take_zero] at g0
  have g1 : DataW.trod enc Try.prog w base spare held n2 3 (List.take (Try.prog.cellsOf 3) (List.drop (1 * Try.prog.cellsOf 3) [v3, v4, v5, v6, v7, v8])) = zs[1]? := hg 1 (by omega)
  rw [k1, List.getElem?_eq_getElem (by omega)] at g1
  simp only [Nat.reduceMul, Nat.zero_mul, List.drop_zero, List.drop_succ_cons, List.take_succ_cons, List.take_zero] at g1
  have g2 : DataW.trod enc Try.prog w base spare held n2 3 (List.take (Try.prog.cellsOf 3) (List.drop (2 * Try.prog.cellsOf 3) [v3, v4, v5, v6, v7, v8])) = zs[2]? := hg 2 (by omega)
  rw [k1, List.getElem?_eq_getElem (by omega)] at g2
  simp only [Nat.reduceMul, Nat.zero_mul, List.drop_zero, List.drop_succ_cons, List.take_succ_cons, List.take_zero] at g2
  have g3 : DataW.trod enc Try.prog w base spare held n2 3 (List.take (Try.prog.cellsOf 3) (List.drop (3 * Try.prog.cellsOf 3) [v3, v4, v5, v6, v7, v8])) = zs[3]? := hg 3 (by omega)
  rw [k1, List.getElem?_eq_getElem (by omega)] at g3
  simp only [Nat.reduceMul, Nat.zero_mul, List.drop_zero, List.drop_succ_cons, List.take_succ_cons, List.take_zero] at g3
  have g4 : DataW.trod enc Try.prog w base spare held n2 3 (List.take (Try.prog.cellsOf 3) (List.drop (4 * Try.prog.cellsOf 3) [v3, v4, v5, v6, v7, v8])) = zs[4]? := hg 4 (by omega)
  rw [k1, List.getElem?_eq_getElem (by omega)] at g4
  simp only [Nat.reduceMul, Nat.zero_mul, List.drop_zero, List.drop_succ_cons, List.take_succ_cons, List.take_zero] at g4
  have g5 : DataW.trod enc Try.prog w base spare held n2 3 (List.take (Try.prog.cellsOf 3) (List.drop (5 * Try.prog.cellsOf 3) [v3, v4, v5, v6, v7, v8])) = zs[5]? := hg 5 (by omega)
  rw [k1, List.getElem?_eq_getElem (by omega)] at g5
  simp only [Nat.reduceMul, Nat.zero_mul, List.drop_zero, List.drop_succ_cons, List.take_succ_cons, List.take_zero] at g5
  obtain ⟨a0, q0, _, _⟩ := DataW.trod_int Try.underlying3 f0
  obtain ⟨a1, q1, _, _⟩ := DataW.trod_int Try.underlying3 f1
  obtain ⟨a2, q2, _, _⟩ := DataW.trod_int Try.underlying3 f2
  obtain ⟨a4, q4, _, _⟩ := DataW.trod_int Try.underlying3 f4
  obtain ⟨a5, q5, _, _⟩ := DataW.trod_int Try.underlying3 f5
  obtain ⟨b0, r0, _, _⟩ := DataW.trod_int Try.underlying3 g0
  obtain ⟨b1, r1, _, _⟩ := DataW.trod_int Try.underlying3 g1
  obtain ⟨b2, r2, _, _⟩ := DataW.trod_int Try.underlying3 g2
  obtain ⟨b3, r3, _, _⟩ := DataW.trod_int Try.underlying3 g3
  obtain ⟨b4, r4, _, _⟩ := DataW.trod_int Try.underlying3 g4
  obtain ⟨b5, r5, _, _⟩ := DataW.trod_int Try.underlying3 g5
  simp only [List.cons.injEq, and_true] at q0 q1 q2 q4 q5 r0 r1 r2 r3 r4 r5
  subst q0 q1 q2 q4 q5 r0 r1 r2 r3 r4 r5
  exact ⟨⟨a0, a1, a2, b0, b1, b2, b3, b4, b5, a4, a5⟩, rfl⟩

set_option maxRecDepth 100000 in
theorem open_node {H : Type} {enc : TypeId × Value → H} {w : World} {base : Nat} {spare : Nat → Bool} {held : Bool} {r : Reach} {b0 : Nat} {v : Value} {d : DataW H} {p : List MemPlace}
    (hv : Value.okWide Try.prog w r b0 24 v) (h : DataW.Trod enc Try.prog w base spare held 24 v d p) : ∃ x : Nd, v = x.V := by
  obtain ⟨cs, rfl, hsz⟩ := okWide_struct Try.underlying24 hv
  obtain ⟨fuel, hf⟩ := h
  obtain ⟨y, hc⟩ := trod_node hf
  refine ⟨y, ?_⟩
  have hc2 : cs.toList = (y.V.cells).toList := by simpa [Value.cells] using hc
  have : cs = y.V.cells := by
    apply Array.toList_inj.1
    exact hc2
  rw [this]
  rfl
end Go.Proofs.Ytmbfcnacoijmaaa.Cw
