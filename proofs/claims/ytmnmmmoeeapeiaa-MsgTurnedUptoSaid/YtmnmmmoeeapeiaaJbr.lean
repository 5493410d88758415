/- An argument that is a message, opened; how many entries it has at most. Own work. -/
import Derived.Test.YtmnmmmoeeapeiaaJbc
import Derived.Test.YtmnmmmoeeapeiaaJau
import Derived.Test.YtmnmmmoeeapeiaaJbq
namespace Go.Proofs.Ytmnmmmoeeapeiaa.Cw
open Go.Joins Go.ChangeShapes Go.WideShapes Go.Deep Go.RowKit
set_option linter.unusedVariables false
set_option linter.unusedSimpArgs false

theorem wf_i64m {n : Int} (h : (Lit.int .i64 n).wf = true) : i64 n := by
  simp [Lit.wf, IntKind.min, IntKind.max, IntKind.bits, IntKind.signed] at h
  unfold i64
  omega
set_option maxRecDepth 100000 in
theorem trod_entries23 {H : Type} {enc : TypeId × Value → H} {w : World} {base : Nat} {spare : Nat → Bool} {held : Bool} {fuel : Nat} {cs : List Value} {x : DataW H × List MemPlace}
    (hf : DataW.trod enc Try.prog w base spare held fuel 22 cs = some x) : ∃ (v : Value) (l : List En), cs = [v] ∧ Sv w v l ∧ (∀ x ∈ l, x.Ok) ∧ l.length ≤ Rows.uptoBulk x.1 := by
  rcases open_slice Try.underlying22 hf with ⟨hcs, _⟩ | ⟨a, len, cap, m, n, D, Pl, hcs, _, hl, hm, hmm, hx, hi⟩
  · exact ⟨_, [], hcs, ⟨none, 0, rfl, by simp, by unfold maxLen; omega, fun h => absurd rfl h⟩, by simp, by simp⟩
  · have hlm : len ≤ m := by rw [hmm]; split <;> omega
    have hall : ∀ i, i < len → ∃ x : En, x.Ok ∧ ∀ j u, x.cells[j]? = some u → w.cell? (a.add (i * 9 + j)) = some u := by
      intro i hil
      obtain ⟨cs', hc, ht⟩ := hi i (by omega)
      rw [cellsEntry] at hc
      obtain ⟨y, hy, rfl⟩ := trod_entry ht
      obtain ⟨_, hcl, hat⟩ := World.cells?_some hc
      refine ⟨y, hy, fun j u hu => ?_⟩
      have hj : j < 9 := (List.getElem?_eq_some_iff.1 hu).1
      have := hat j hj
      rw [hu] at this
      rw [← Go.Deep.add_add]
      exact this
    obtain ⟨f, hf⟩ := Classical.axiomOfChoice (r := fun (i : Nat) (x : En) => i < len → x.Ok ∧ ∀ (j : Nat) (u : Value), x.cells[j]? = some u → w.cell? (a.add (i * 9 + j)) = some u) (fun i => by
      by_cases hil : i < len
      · obtain ⟨x, hx⟩ := hall i hil
        exact ⟨x, fun _ => hx⟩
      · exact ⟨⟨0, 0, 0, 0, 0, 0, ByteArray.empty, ByteArray.empty, ByteArray.empty⟩, fun h => absurd h hil⟩)
    refine ⟨_, (List.range len).map f, hcs, ⟨some a, cap, by simp, by simpa using hl, hm, fun hn => ⟨a.block, a.off, ?_, ?_, ?_⟩⟩, ?_, ?_⟩
    · have hn0 : 0 < len := by
        rcases Nat.eq_zero_or_pos len with h0 | h0
        · subst h0; exact absurd rfl hn
        · exact h0
      exact congrArg some (spot_none20 ((hf 0 hn0).2 0 _ rfl))
    · have hn0 : 0 < len := by
        rcases Nat.eq_zero_or_pos len with h0 | h0
        · subst h0; exact absurd rfl hn
        · exact h0
      exact cell_lt20 ((hf 0 hn0).2 0 _ rfl)
    · intro i x hix j u hu
      have hil : i < len := by
        have := (List.getElem?_eq_some_iff.1 hix).1
        simpa using this
      have hxe : x = f i := by
        have := (List.getElem?_eq_some_iff.1 hix).2
        simpa using this.symm
      subst hxe
      have hq := spot_none20 ((hf 0 (by omega)).2 0 _ rfl)
      have hh := (hf i hil).2 j u hu
      generalize a.block = b at *
      generalize a.off = o at *
      subst hq
      rw [Addr.add_lit] at hh
      rw [Nat.add_assoc]
      exact hh
    · intro x hx
      obtain ⟨i, hir, rfl⟩ := List.mem_map.1 hx
      exact (hf i (List.mem_range.1 hir)).1
    · have hx1 := congrArg Prod.fst hx
      simp only at hx1
      rw [hx1]
      have h1 := bulk_count ((List.range len).map D)
      simp only [List.length_map, List.length_range] at h1
      simp only [Rows.uptoBulk, List.length_map, List.length_range]
      omega
theorem list6 {cs : List Value} (h : cs.length = 6) : ∃ v0 v1 v2 v3 v4 v5, cs = [v0, v1, v2, v3, v4, v5] := by
  rcases cs with _ | ⟨v0, _ | ⟨v1, _ | ⟨v2, _ | ⟨v3, _ | ⟨v4, _ | ⟨v5, _ | ⟨v6, r⟩⟩⟩⟩⟩⟩⟩
  all_goals first
    | exact ⟨_, _, _, _, _, _, rfl⟩
    | (simp at h)
set_option maxRecDepth 100000 in
theorem open_msg {H : Type} {enc : TypeId × Value → H} {w : World} {base : Nat} {spare : Nat → Bool} {held : Bool} {r : Reach} {b0 : Nat} {v : Value} {d : DataW H} {p : List MemPlace}
    (hv : Value.okWide Try.prog w r b0 24 v) (h : DataW.Trod enc Try.prog w base spare held 24 v d p) :
    ∃ (k vw n a c : Int) (u : Value) (l : List En), v = .agg #[.int .i64 k, .int .i64 vw, .int .i64 n, .int .i64 a, .int .i64 c, u] ∧ Sv w u l ∧ (∀ x ∈ l, x.Ok) ∧ l.length ≤ Rows.uptoBulk d ∧ (i64 k ∧ i64 vw ∧ i64 n ∧ i64 a ∧ i64 c) := by
  obtain ⟨cs, rfl, hsz⟩ := okWide_struct Try.underlying24 hv
  obtain ⟨fuel, hf⟩ := h
  obtain ⟨ys, n, _, hxe, hl, hyl, hff⟩ := DataW.trod_struct Try.underlying24 hf
  have k6 : Try.prog.cellsOf 24 = 6 := by kernel_rfl
  have k1 : Try.prog.cellsOf 3 = 1 := by kernel_rfl
  have k2 : Try.prog.cellsOf 22 = 1 := by kernel_rfl
  have hy6 : ys.length = 6 := hyl
  obtain ⟨v0, v1, v2, v3, v4, v5, hcs⟩ := list6 (hl.trans k6)
  rw [hcs] at hff
  have f0 : DataW.trod enc Try.prog w base spare held n 3 (List.take (Try.prog.cellsOf 3) (List.drop 0 [v0, v1, v2, v3, v4, v5])) = ys[0]? := hff 0 _ rfl
  have f1 : DataW.trod enc Try.prog w base spare held n 3 (List.take (Try.prog.cellsOf 3) (List.drop 1 [v0, v1, v2, v3, v4, v5])) = ys[1]? := hff 1 _ rfl
  have f2 : DataW.trod enc Try.prog w base spare held n 3 (List.take (Try.prog.cellsOf 3) (List.drop 2 [v0, v1, v2, v3, v4, v5])) = ys[2]? := hff 2 _ rfl
  have f3 : DataW.trod enc Try.prog w base spare held n 3 (List.take (Try.prog.cellsOf 3) (List.drop 3 [v0, v1, v2, v3, v4, v5])) = ys[3]? := hff 3 _ rfl
  have f4 : DataW.trod enc Try.prog w base spare held n 3 (List.take (Try.prog.cellsOf 3) (List.drop 4 [v0, v1, v2, v3, v4, v5])) = ys[4]? := hff 4 _ rfl
  have f5 : DataW.trod enc Try.prog w base spare held n 22 (List.take (Try.prog.cellsOf 22) (List.drop 5 [v0, v1, v2, v3, v4, v5])) = ys[5]? := hff 5 _ rfl
  rw [k1, List.getElem?_eq_getElem (by omega)] at f0 f1 f2 f3 f4
  rw [k2, List.getElem?_eq_getElem (by omega)] at f5
  simp only [List.drop_zero, List.drop_succ_cons, List.take_succ_cons, List.take_zero] at f0 f1 f2 f3 f4 f5
  obtain ⟨a0, q0, _, w0⟩ := DataW.trod_int Try.underlying3 f0
  obtain ⟨a1, q1, _, w1⟩ := DataW.trod_int Try.underlying3 f1
  obtain ⟨a2, q2, _, w2⟩ := DataW.trod_int Try.underlying3 f2
  obtain ⟨a3, q3, _, w3⟩ := DataW.trod_int Try.underlying3 f3
  obtain ⟨a4, q4, _, w4⟩ := DataW.trod_int Try.underlying3 f4
  obtain ⟨u, l, q5, hS, hO, hB⟩ := trod_entries23 f5
  simp only [List.cons.injEq, and_true] at q0 q1 q2 q3 q4 q5
  subst q0 q1 q2 q3 q4 q5
  refine ⟨a0, a1, a2, a3, a4, v5, l, ?_, hS, hO, ?_, wf_i64m w0, wf_i64m w1, wf_i64m w2, wf_i64m w3, wf_i64m w4⟩
  · have hc2 : cs.toList = [.int .i64 a0, .int .i64 a1, .int .i64 a2, .int .i64 a3, .int .i64 a4, v5] := by simpa [Value.cells] using hcs
    have : cs = #[.int .i64 a0, .int .i64 a1, .int .i64 a2, .int .i64 a3, .int .i64 a4, v5] := Array.toList_inj.1 hc2
    rw [this]
  · have hx1 := congrArg Prod.fst hxe
    simp only at hx1
    rw [hx1]
    have hm : (ys[5]).1 ∈ ys.map (·.1) := List.mem_map.2 ⟨_, List.getElem_mem (by omega), rfl⟩
    have := bulk_part hm
    simp only [Rows.uptoBulk]
    omega
end Go.Proofs.Ytmnmmmoeeapeiaa.Cw

