/- An argument that is an entry, opened. Own work. -/
import Derived.Test.YtmnmmmoeeapeiaaJam
import Derived.ProofKit
import Derived.Lib.SmallJoins
import Derived.OpenShut
import Derived.Test.YtmnmmmoeeapeiaaJat
import Derived.ChangeSlices
import Derived.Deep.Slices
import Derived.Deep.Fields
namespace Go.Proofs.Ytmnmmmoeeapeiaa.Cw
open Go.Joins Go.ChangeShapes Go.WideShapes Go.RowKit
set_option linter.unusedVariables false
set_option linter.unusedSimpArgs false

theorem wf_i64e {n : Int} (h : (Lit.int .i64 n).wf = true) : i64 n := by
  simp [Lit.wf, IntKind.min, IntKind.max, IntKind.bits, IntKind.signed] at h
  unfold i64
  omega
theorem cellsEntry : Try.prog.cellsOf 52 = 9 := by kernel_rfl
def En.Ok (x : En) : Prop := (i64 x.a ∧ i64 x.b ∧ i64 x.c ∧ i64 x.k ∧ i64 x.t ∧ i64 x.n) ∧ x.p.size ≤ maxLen ∧ x.q.size ≤ maxLen ∧ x.r.size ≤ maxLen

theorem list9 {cs : List Value} (h : cs.length = 9) : ∃ v0 v1 v2 v3 v4 v5 v6 v7 v8, cs = [v0, v1, v2, v3, v4, v5, v6, v7, v8] := by
  rcases cs with _ | ⟨v0, _ | ⟨v1, _ | ⟨v2, _ | ⟨v3, _ | ⟨v4, _ | ⟨v5, _ | ⟨v6, _ | ⟨v7, _ | ⟨v8, _ | ⟨v9, r⟩⟩⟩⟩⟩⟩⟩⟩⟩⟩
  all_goals first
    | exact ⟨_, _, _, _, _, _, _, _, _, rfl⟩
    | (simp at h)
set_option maxRecDepth 100000 in
theorem trod_entry {H : Type} {enc : TypeId × Value → H} {w : World} {base : Nat} {spare : Nat → Bool} {held : Bool} {fuel : Nat} {cs : List Value} {x : DataW H × List MemPlace}
    (h : DataW.trod enc Try.prog w base spare held fuel 52 cs = some x) : ∃ y : En, y.Ok ∧ cs = y.cells := by
  obtain ⟨ys, n, _, _, hl, hyl, hf⟩ := DataW.trod_struct Try.underlying52 h
  have hlen : cs.length = 9 := hl.trans cellsEntry
  obtain ⟨v0, v1, v2, v3, v4, v5, v6, v7, v8, rfl⟩ := list9 hlen
  have k1 : Try.prog.cellsOf 3 = 1 := by kernel_rfl
  have k2 : Try.prog.cellsOf 9 = 1 := by kernel_rfl
  have k6 : Try.prog.cellsOf 50 = 6 := by kernel_rfl
  have hy4 : ys.length = 4 := hyl
  have f0 : DataW.trod enc Try.prog w base spare held n 3 (List.take (Try.prog.cellsOf 3) (List.drop 0 [v0, v1, v2, v3, v4, v5, v6, v7, v8])) = ys[0]? := hf 0 _ rfl
  rw [k1, List.getElem?_eq_getElem (by omega)] at f0
  simp only [List.drop_zero, List.drop_succ_cons, List.take_succ_cons, List.take_zero] at f0
  have f1 : DataW.trod enc Try.prog w base spare held n 3 (List.take (Try.prog.cellsOf 3) (List.drop 1 [v0, v1, v2, v3, v4, v5, v6, v7, v8])) = ys[1]? := hf 1 _ rfl
  rw [k1, List.getElem?_eq_getElem (by omega)] at f1
  simp only [List.drop_zero, List.drop_succ_cons, List.take_succ_cons, List.take_zero] at f1
  have f2 : DataW.trod enc Try.prog w base spare held n 3 (List.take (Try.prog.cellsOf 3) (List.drop 2 [v0, v1, v2, v3, v4, v5, v6, v7, v8])) = ys[2]? := hf 2 _ rfl
  rw [k1, List.getElem?_eq_getElem (by omega)] at f2
  simp only [List.drop_zero, List.drop_succ_cons, List.take_succ_cons, List.take_zero] at f2
  have f3 : DataW.trod enc Try.prog w base spare held n 50 (List.take (Try.prog.cellsOf 50) (List.drop 3 [v0, v1, v2, v3, v4, v5, v6, v7, v8])) = ys[3]? := hf 3 _ rfl
  rw [k6, List.getElem?_eq_getElem (by omega)] at f3
  simp only [List.drop_zero, List.drop_succ_cons, List.take_succ_cons, List.take_zero] at f3
  obtain ⟨zs, n2, _, _, _, hzl, hg⟩ := DataW.trod_struct Try.underlying50 f3
  have hz6 : zs.length = 6 := hzl
  have g0 : DataW.trod enc Try.prog w base spare held n2 3 (List.take (Try.prog.cellsOf 3) (List.drop 0 [v3, v4, v5, v6, v7, v8])) = zs[0]? := hg 0 _ rfl
  rw [k1, List.getElem?_eq_getElem (by omega)] at g0
  simp only [List.drop_zero, List.drop_succ_cons, List.take_succ_cons, List.take_zero] at g0
  have g1 : DataW.trod enc Try.prog w base spare held n2 3 (List.take (Try.prog.cellsOf 3) (List.drop 1 [v3, v4, v5, v6, v7, v8])) = zs[1]? := hg 1 _ rfl
  rw [k1, List.getElem?_eq_getElem (by omega)] at g1
  simp only [List.drop_zero, List.drop_succ_cons, List.take_succ_cons, List.take_zero] at g1
  have g2 : DataW.trod enc Try.prog w base spare held n2 3 (List.take (Try.prog.cellsOf 3) (List.drop 2 [v3, v4, v5, v6, v7, v8])) = zs[2]? := hg 2 _ rfl
  rw [k1, List.getElem?_eq_getElem (by omega)] at g2
  simp only [List.drop_zero, List.drop_succ_cons, List.take_succ_cons, List.take_zero] at g2
  have g3 : DataW.trod enc Try.prog w base spare held n2 9 (List.take (Try.prog.cellsOf 9) (List.drop 3 [v3, v4, v5, v6, v7, v8])) = zs[3]? := hg 3 _ rfl
  rw [k2, List.getElem?_eq_getElem (by omega)] at g3
  simp only [List.drop_zero, List.drop_succ_cons, List.take_succ_cons, List.take_zero] at g3
  have g4 : DataW.trod enc Try.prog w base spare held n2 9 (List.take (Try.prog.cellsOf 9) (List.drop 4 [v3, v4, v5, v6, v7, v8])) = zs[4]? := hg 4 _ rfl
  rw [k2, List.getElem?_eq_getElem (by omega)] at g4
  simp only [List.drop_zero, List.drop_succ_cons, List.take_succ_cons, List.take_zero] at g4
  have g5 : DataW.trod enc Try.prog w base spare held n2 9 (List.take (Try.prog.cellsOf 9) (List.drop 5 [v3, v4, v5, v6, v7, v8])) = zs[5]? := hg 5 _ rfl
  rw [k2, List.getElem?_eq_getElem (by omega)] at g5
  simp only [List.drop_zero, List.drop_succ_cons, List.take_succ_cons, List.take_zero] at g5
  obtain ⟨a0, q0, _, w0⟩ := DataW.trod_int Try.underlying3 f0
  obtain ⟨a1, q1, _, w1⟩ := DataW.trod_int Try.underlying3 f1
  obtain ⟨a2, q2, _, w2⟩ := DataW.trod_int Try.underlying3 f2
  obtain ⟨b0, r0, _, u0⟩ := DataW.trod_int Try.underlying3 g0
  obtain ⟨b1, r1, _, u1⟩ := DataW.trod_int Try.underlying3 g1
  obtain ⟨b2, r2, _, u2⟩ := DataW.trod_int Try.underlying3 g2
  obtain ⟨s0, t0, _, l0⟩ := DataW.trod_string Try.underlying9 g3
  obtain ⟨s1, t1, _, l1⟩ := DataW.trod_string Try.underlying9 g4
  obtain ⟨s2, t2, _, l2⟩ := DataW.trod_string Try.underlying9 g5
  simp only [List.cons.injEq, and_true] at q0 q1 q2 r0 r1 r2 t0 t1 t2
  subst q0 q1 q2 r0 r1 r2 t0 t1 t2
  exact ⟨⟨a0, a1, a2, b0, b1, b2, s0, s1, s2⟩, ⟨⟨wf_i64e w0, wf_i64e w1, wf_i64e w2, wf_i64e u0, wf_i64e u1, wf_i64e u2⟩, l0, l1, l2⟩, rfl⟩

set_option maxRecDepth 100000 in
theorem open_entry {H : Type} {enc : TypeId × Value → H} {w : World} {base : Nat} {spare : Nat → Bool} {held : Bool} {r : Reach} {b0 : Nat} {v : Value} {d : DataW H} {p : List MemPlace}
    (hv : Value.okWide Try.prog w r b0 52 v) (h : DataW.Trod enc Try.prog w base spare held 52 v d p) : ∃ x : En, v = x.V ∧ x.Ok := by
  obtain ⟨cs, rfl, hsz⟩ := okWide_struct Try.underlying52 hv
  obtain ⟨fuel, hf⟩ := h
  obtain ⟨y, hy, hc⟩ := trod_entry hf
  refine ⟨y, ?_, hy⟩
  have hc2 : cs.toList = y.cells := by simpa [Value.cells] using hc
  have : cs = y.cells.toArray := by rw [← hc2]
  rw [this]
  rfl
end Go.Proofs.Ytmnmmmoeeapeiaa.Cw

/- An argument that is a slice of entries, opened. Own work. -/
namespace Go.Proofs.Ytmnmmmoeeapeiaa.Cw
open Go.Joins Go.ChangeShapes Go.WideShapes Go.Deep Go.RowKit
set_option linter.unusedVariables false
set_option linter.unusedSimpArgs false

theorem spot_none20 {w : World} {a : Addr} {v : Value} (h : w.cell? (a.add (0 * 9 + 0)) = some v) : a = ⟨a.block, a.off, none⟩ := by
  obtain ⟨b, o, sp⟩ := a
  cases sp with
  | none => rfl
  | some q =>
    unfold World.cell? at h
    simp [Addr.add] at h
    split at h <;> simp at h
theorem cell_lt20 {w : World} {a : Addr} {k : Nat} {v : Value} (h : w.cell? (a.add k) = some v) : a.block < w.heap.size := by
  have hb : (a.add k).block = a.block := by unfold Addr.add; split <;> rfl
  unfold World.cell? at h
  rw [hb] at h
  rcases Nat.lt_or_ge a.block w.heap.size with h1 | h1
  · exact h1
  · rw [Array.getElem?_eq_none h1] at h
    cases h

set_option maxRecDepth 100000 in
theorem open_entries {H : Type} {enc : TypeId × Value → H} {w : World} {base : Nat} {spare : Nat → Bool} {held : Bool} {r : Reach} {b0 : Nat} {v : Value} {d : DataW H} {p : List MemPlace}
    (hv : Value.okWide Try.prog w r b0 22 v) (h : DataW.Trod enc Try.prog w base spare held 22 v d p)
    (hs : ∀ es sp, d = .slice es sp → (es.length + sp.length) * Try.prog.bytesOf 52 ≤ reachBytes) : ∃ l : List En, Sv w v l ∧ (∀ x ∈ l, x.Ok) ∧ l.length ≤ 1466015503701 := by
  obtain ⟨a0, len, cap, rfl⟩ := okWide_slice Try.underlying22 hv
  obtain ⟨fuel, hf⟩ := h
  rcases open_slice Try.underlying22 hf with ⟨hcs, _⟩ | ⟨a, len', cap', m, n, D, Pl, hcs, _, hl, hm, hmm, hx, hi⟩
  · simp [Value.cells] at hcs
    obtain ⟨rfl, rfl, rfl⟩ := hcs
    exact ⟨[], ⟨none, 0, rfl, by simp, by unfold maxLen; omega, fun h => absurd rfl h⟩, by simp, by simp⟩
  · simp [Value.cells] at hcs
    obtain ⟨rfl, rfl, rfl⟩ := hcs
    have hlm : len ≤ m := by rw [hmm]; split <;> omega
    have h96 : Try.prog.bytesOf 52 = 96 := by kernel_rfl
    have hsz := hs _ _ (congrArg Prod.fst hx)
    rw [h96] at hsz
    have hlen : len ≤ 1466015503701 := by
      simp only [List.length_map, List.length_range] at hsz
      unfold reachBytes at hsz
      omega
    have hall : ∀ i, i < len → ∃ x : En, x.Ok ∧ ∀ j u, x.cells[j]? = some u → w.cell? (a.add (i * 9 + j)) = some u := by
      intro i hil
      obtain ⟨cs', hc, ht⟩ := hi i (by omega)
      rw [cellsEntry] at hc
      obtain ⟨y, hy, rfl⟩ := trod_entry ht
      obtain ⟨_, hcl, hat⟩ := World.cells?_some hc
      refine ⟨y, hy, fun j u hu => ?_⟩
      have hj : j < 9 := (List.getElem?_eq_some_iff.1 hu).1
      have := hat j hj
      rw [hu] at this
      rw [← Go.Deep.add_add]
      exact this
    obtain ⟨f, hf⟩ := Classical.axiomOfChoice (r := fun (i : Nat) (x : En) => i < len → x.Ok ∧ ∀ (j : Nat) (u : Value), x.cells[j]? = some u → w.cell? (a.add (i * 9 + j)) = some u) (fun i => by
      by_cases hil : i < len
      · obtain ⟨x, hx⟩ := hall i hil
        exact ⟨x, fun _ => hx⟩
      · exact ⟨⟨0, 0, 0, 0, 0, 0, ByteArray.empty, ByteArray.empty, ByteArray.empty⟩, fun h => absurd h hil⟩)
    refine ⟨(List.range len).map f, ⟨some a, cap, by simp, by simpa using hl, hm, fun hn => ⟨a.block, a.off, ?_, ?_, ?_⟩⟩, ?_, by simpa using hlen⟩
    · have hn0 : 0 < len := by
        rcases Nat.eq_zero_or_pos len with h0 | h0
        · subst h0; exact absurd rfl hn
        · exact h0
      exact congrArg some (spot_none20 ((hf 0 hn0).2 0 _ rfl))
    · have hn0 : 0 < len := by
        rcases Nat.eq_zero_or_pos len with h0 | h0
        · subst h0; exact absurd rfl hn
        · exact h0
      exact cell_lt20 ((hf 0 hn0).2 0 _ rfl)
    · intro i x hix j u hu
      have hil : i < len := by
        have := (List.getElem?_eq_some_iff.1 hix).1
        simpa using this
      have hxe : x = f i := by
        have := (List.getElem?_eq_some_iff.1 hix).2
        simpa using this.symm
      subst hxe
      have hq := spot_none20 ((hf 0 (by omega)).2 0 _ rfl)
      have hh := (hf i hil).2 j u hu
      generalize a.block = b at *
      generalize a.off = o at *
      subst hq
      rw [Addr.add_lit] at hh
      rw [Nat.add_assoc]
      exact hh
    · intro x hx
      obtain ⟨i, hir, rfl⟩ := List.mem_map.1 hx
      exact (hf i (List.mem_range.1 hir)).1
end Go.Proofs.Ytmnmmmoeeapeiaa.Cw
