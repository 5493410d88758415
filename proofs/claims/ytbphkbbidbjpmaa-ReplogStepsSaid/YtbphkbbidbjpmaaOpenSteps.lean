/- An argument that is a slice of steps, opened. Own work. -/
import Derived.Test.YtbphkbbidbjpmaaReQ
import Derived.SizedLaws
namespace Go.Proofs.Ytbphkbbidbjpmaa.Cw
open Go.Joins Go.ChangeShapes Go.WideShapes Go.Deep Go.RowKit
set_option linter.unusedVariables false
set_option linter.unusedSimpArgs false

theorem weightsAll_mem {H : Type} {P : Program} {e : TypeId} : ∀ {ds : List (DataW H)} {d : DataW H}, d ∈ ds → ∀ n ∈ d.weights P e, n ∈ DataW.weightsAll P e ds
  | d0 :: ds, d, hd, n, hn => by
    simp only [DataW.weightsAll, List.mem_append]
    rcases List.mem_cons.1 hd with rfl | h
    · exact .inl hn
    · exact .inr (weightsAll_mem h n hn)
  | [], _, hd, _, _ => by simp at hd

set_option maxRecDepth 100000 in
theorem trod_entries {H : Type} {enc : TypeId × Value → H} {w : World} {base : Nat} {spare : Nat → Bool} {held : Bool} {fuel : Nat} {cs : List Value} {x : DataW H × List MemPlace}
    (hf : DataW.trod enc Try.prog w base spare held fuel 37 cs = some x) (hs : ∀ n ∈ x.1.weights Try.prog 37, n ≤ reachBytes) : ∃ (v : Value) (l : List En), cs = [v] ∧ Sv w v l ∧ l.length ≤ 1466015503701 := by
  rcases open_slice Try.underlying37 hf with ⟨hcs, _⟩ | ⟨a, len, cap, m, n, D, Pl, hcs, _, hl, hm, hmm, hx, hi⟩
  · exact ⟨_, [], hcs, ⟨none, 0, rfl, by simp, by unfold maxLen; omega, fun h => absurd rfl h⟩, by simp⟩
  · have hlm : len ≤ m := by rw [hmm]; split <;> omega
    have h96 : Try.prog.bytesOf 25 = 96 := by kernel_rfl
    have hsz := hs ((((List.range len).map D).length + ((List.range (m - len)).map fun j => D (len + j)).length) * Try.prog.bytesOf 25) (by
      rw [hx]
      simp [DataW.weights, Try.underlying37])
    rw [h96] at hsz
    have hlen : len ≤ 1466015503701 := by
      simp only [List.length_map, List.length_range] at hsz
      unfold reachBytes at hsz
      omega
    have hall : ∀ i, i < len → ∃ x : En, x.Ok ∧ ∀ j u, x.cells[j]? = some u → w.cell? (a.add (i * 9 + j)) = some u := by
      intro i hil
      obtain ⟨cs', hc, ht⟩ := hi i (by omega)
      rw [cellsEntry] at hc
      obtain ⟨y, hy, rfl⟩ := trod_entry ht
      obtain ⟨_, hcl, hat⟩ := World.cells?_some hc
      refine ⟨y, hy, fun j u hu => ?_⟩
      have hj : j < 9 := (List.getElem?_eq_some_iff.1 hu).1
      have := hat j hj
      rw [hu] at this
      rw [← Go.Deep.add_add]
      exact this
    obtain ⟨f, hf⟩ := Classical.axiomOfChoice (r := fun (i : Nat) (x : En) => i < len → x.Ok ∧ ∀ (j : Nat) (u : Value), x.cells[j]? = some u → w.cell? (a.add (i * 9 + j)) = some u) (fun i => by
      by_cases hil : i < len
      · obtain ⟨x, hx⟩ := hall i hil
        exact ⟨x, fun _ => hx⟩
      · exact ⟨⟨0, 0, 0, 0, 0, 0, ByteArray.empty, ByteArray.empty, ByteArray.empty⟩, fun h => absurd h hil⟩)
    refine ⟨_, (List.range len).map f, hcs, ⟨some a, cap, by simp, by simpa using hl, hm, fun hn => ⟨a.block, a.off, ?_, ?_, ?_⟩⟩, by simpa using hlen⟩
    · have hn0 : 0 < len := by
        rcases Nat.eq_zero_or_pos len with h0 | h0
        · subst h0; exact absurd rfl hn
        · exact h0
      exact congrArg some (spot_none20 ((hf 0 hn0).2 0 _ rfl))
    · have hn0 : 0 < len := by
        rcases Nat.eq_zero_or_pos len with h0 | h0
        · subst h0; exact absurd rfl hn
        · exact h0
      exact cell_lt20 ((hf 0 hn0).2 0 _ rfl)
    · intro i x hix j u hu
      have hil : i < len := by
        have := (List.getElem?_eq_some_iff.1 hix).1
        simpa using this
      have hxe : x = f i := by
        have := (List.getElem?_eq_some_iff.1 hix).2
        simpa using this.symm
      subst hxe
      have hq := spot_none20 ((hf 0 (by omega)).2 0 _ rfl)
      have hh := (hf i hil).2 j u hu
      generalize a.block = b at *
      generalize a.off = o at *
      subst hq
      rw [Addr.add_lit] at hh
      rw [Nat.add_assoc]
      exact hh

/-- A step. -/
structure St where
  k : Int
  n : Int
  e : En
  v : Value
  l : List En
def St.cells (x : St) : List Value := [.int .i64 x.k, .int .i64 x.n, .int .i64 x.e.a, .int .i64 x.e.b, .int .i64 x.e.c, .int .i64 x.e.k, .int .i64 x.e.t, .int .i64 x.e.n, .string x.e.p, .string x.e.q, .string x.e.r, x.v]
def St.Ok (w : World) (x : St) : Prop := i64 x.k ∧ i64 x.n ∧ Sv w x.v x.l ∧ x.l.length ≤ 1466015503701
theorem cellsStep : Try.prog.cellsOf 52 = 12 := by kernel_rfl
theorem list12 {cs : List Value} (h : cs.length = 12) : ∃ v0 v1 v2 v3 v4 v5 v6 v7 v8 v9 v10 v11, cs = [v0, v1, v2, v3, v4, v5, v6, v7, v8, v9, v10, v11] := by
  rcases cs with _ | ⟨v0, _ | ⟨v1, _ | ⟨v2, _ | ⟨v3, _ | ⟨v4, _ | ⟨v5, _ | ⟨v6, _ | ⟨v7, _ | ⟨v8, _ | ⟨v9, _ | ⟨v10, _ | ⟨v11, _ | ⟨v12, r⟩⟩⟩⟩⟩⟩⟩⟩⟩⟩⟩⟩⟩
  all_goals first
    | exact ⟨_, _, _, _, _, _, _, _, _, _, _, _, rfl⟩
    | (simp at h)

set_option maxRecDepth 100000 in
theorem trod_step {H : Type} {enc : TypeId × Value → H} {w : World} {base : Nat} {spare : Nat → Bool} {held : Bool} {fuel : Nat} {cs : List Value} {x : DataW H × List MemPlace}
    (h : DataW.trod enc Try.prog w base spare held fuel 52 cs = some x) (hs : ∀ n ∈ x.1.weights Try.prog 52, n ≤ reachBytes) : ∃ y : St, y.Ok w ∧ cs = y.cells := by
  obtain ⟨ys, n, _, hxe, hl, hyl, hf⟩ := DataW.trod_struct Try.underlying52 h
  have hlen : cs.length = 12 := hl.trans cellsStep
  obtain ⟨v0, v1, v2, v3, v4, v5, v6, v7, v8, v9, v10, v11, rfl⟩ := list12 hlen
  have k1 : Try.prog.cellsOf 3 = 1 := by kernel_rfl
  have k2 : Try.prog.cellsOf 37 = 1 := by kernel_rfl
  have k9 := cellsEntry
  have hy4 : ys.length = 4 := hyl
  have f0 : DataW.trod enc Try.prog w base spare held n 3 (List.take (Try.prog.cellsOf 3) (List.drop 0 [v0, v1, v2, v3, v4, v5, v6, v7, v8, v9, v10, v11])) = ys[0]? := hf 0 _ rfl
  rw [k1, List.getElem?_eq_getElem (by omega)] at f0
  simp only [List.drop_zero, List.drop_succ_cons, List.take_succ_cons, List.take_zero] at f0
  have f1 : DataW.trod enc Try.prog w base spare held n 3 (List.take (Try.prog.cellsOf 3) (List.drop 1 [v0, v1, v2, v3, v4, v5, v6, v7, v8, v9, v10, v11])) = ys[1]? := hf 1 _ rfl
  rw [k1, List.getElem?_eq_getElem (by omega)] at f1
  simp only [List.drop_zero, List.drop_succ_cons, List.take_succ_cons, List.take_zero] at f1
  have f2 : DataW.trod enc Try.prog w base spare held n 25 (List.take (Try.prog.cellsOf 25) (List.drop 2 [v0, v1, v2, v3, v4, v5, v6, v7, v8, v9, v10, v11])) = ys[2]? := hf 2 _ rfl
  rw [k9, List.getElem?_eq_getElem (by omega)] at f2
  simp only [List.drop_zero, List.drop_succ_cons, List.take_succ_cons, List.take_zero] at f2
  have f3 : DataW.trod enc Try.prog w base spare held n 37 (List.take (Try.prog.cellsOf 37) (List.drop 11 [v0, v1, v2, v3, v4, v5, v6, v7, v8, v9, v10, v11])) = ys[3]? := hf 3 _ rfl
  rw [k2, List.getElem?_eq_getElem (by omega)] at f3
  simp only [List.drop_zero, List.drop_succ_cons, List.take_succ_cons, List.take_zero] at f3
  obtain ⟨a0, q0, _, w0⟩ := DataW.trod_int Try.underlying3 f0
  obtain ⟨a1, q1, _, w1⟩ := DataW.trod_int Try.underlying3 f1
  obtain ⟨y, _, hy⟩ := trod_entry f2
  have hw3 : ∀ n ∈ (ys[3]).1.weights Try.prog 37, n ≤ reachBytes := by
    intro n hn
    refine hs n ?_
    rw [hxe]
    have hm : n ∈ DataW.weightsEach Try.prog [3, 3, 25, 37] (ys.map (·.1)) := DataW.weights_mem_each (j := 3) (t := 37) (d := (ys[3]).1) rfl (by rw [List.getElem?_map, List.getElem?_eq_getElem (by omega)]; rfl) n hn
    rw [DataW.weights, Try.underlying52]
    exact hm
  obtain ⟨v, l, q3, hv, hvl⟩ := trod_entries f3 hw3
  simp only [List.cons.injEq, and_true] at q0 q1 q3
  subst q0 q1 q3
  unfold En.cells at hy
  simp only [List.cons.injEq, and_true] at hy
  obtain ⟨rfl, rfl, rfl, rfl, rfl, rfl, rfl, rfl, rfl⟩ := hy
  exact ⟨⟨a0, a1, y, v11, l⟩, ⟨wf_i64e w0, wf_i64e w1, hv, hvl⟩, rfl⟩

/-- A slice of these steps. -/
def SvS (w : World) (v : Value) (l : List St) : Prop := ∃ A cap, v = .slice A l.length cap ∧ l.length ≤ cap ∧ cap ≤ maxLen ∧ (∀ x ∈ l, x.Ok w) ∧ (l ≠ [] → ∃ b off, A = some ⟨b, off, none⟩ ∧ b < w.heap.size ∧ ∀ i x, l[i]? = some x → ∀ j u, x.cells[j]? = some u → w.cell? ⟨b, off + i * 12 + j, none⟩ = some u)

set_option maxRecDepth 100000 in
theorem open_steps {H : Type} {enc : TypeId × Value → H} {w : World} {base : Nat} {spare : Nat → Bool} {held : Bool} {r : Reach} {b0 : Nat} {v : Value} {d : DataW H} {p : List MemPlace}
    (hv : Value.okWide Try.prog w r b0 46 v) (h : DataW.Trod enc Try.prog w base spare held 46 v d p)
    (hs : ∀ n ∈ d.weights Try.prog 46, n ≤ reachBytes) : ∃ l : List St, SvS w v l := by
  obtain ⟨a0, len, cap, rfl⟩ := okWide_slice Try.underlying46 hv
  obtain ⟨fuel, hf⟩ := h
  rcases open_slice Try.underlying46 hf with ⟨hcs, _⟩ | ⟨a, len', cap', m, n, D, Pl, hcs, _, hl, hm, hmm, hx, hi⟩
  · simp [Value.cells] at hcs
    obtain ⟨rfl, rfl, rfl⟩ := hcs
    exact ⟨[], none, 0, rfl, by simp, by unfold maxLen; omega, by simp, fun h => absurd rfl h⟩
  · simp [Value.cells] at hcs
    obtain ⟨rfl, rfl, rfl⟩ := hcs
    have hlm : len ≤ m := by rw [hmm]; split <;> omega
    have hall : ∀ i, i < len → ∃ x : St, x.Ok w ∧ ∀ j u, x.cells[j]? = some u → w.cell? (a.add (i * 12 + j)) = some u := by
      intro i hil
      obtain ⟨cs', hc, ht⟩ := hi i (by omega)
      rw [cellsStep] at hc
      obtain ⟨y, hy, rfl⟩ := trod_step ht (fun n hn => hs n (by
        have e := congrArg Prod.fst hx
        simp only at e
        rw [e, DataW.weights, Try.underlying46]
        refine List.mem_cons_of_mem _ (List.mem_append.2 (.inl ?_))
        exact weightsAll_mem (d := D i) (List.mem_map.2 ⟨i, List.mem_range.2 hil, rfl⟩) n hn))
      obtain ⟨_, hcl, hat⟩ := World.cells?_some hc
      refine ⟨y, hy, fun j u hu => ?_⟩
      have hj : j < 12 := (List.getElem?_eq_some_iff.1 hu).1
      have := hat j hj
      rw [hu] at this
      rw [← Go.Deep.add_add]
      exact this
    obtain ⟨f, hf⟩ := Classical.axiomOfChoice (r := fun (i : Nat) (x : St) => i < len → x.Ok w ∧ ∀ (j : Nat) (u : Value), x.cells[j]? = some u → w.cell? (a.add (i * 12 + j)) = some u) (fun i => by
      by_cases hil : i < len
      · obtain ⟨x, hx⟩ := hall i hil
        exact ⟨x, fun _ => hx⟩
      · exact ⟨⟨0, 0, ⟨0, 0, 0, 0, 0, 0, ByteArray.empty, ByteArray.empty, ByteArray.empty⟩, .slice none 0 0, []⟩, fun h => absurd h hil⟩)
    have hspot : ∀ {v : Value}, w.cell? (a.add (0 * 12 + 0)) = some v → a = ⟨a.block, a.off, none⟩ := fun h => spot_none20 (by simpa using h)
    refine ⟨(List.range len).map f, some a, cap, by simp, by simpa using hl, hm, ?_, fun hn => ⟨a.block, a.off, ?_, ?_, ?_⟩⟩
    · intro x hx
      obtain ⟨i, hir, rfl⟩ := List.mem_map.1 hx
      exact (hf i (List.mem_range.1 hir)).1
    · have hn0 : 0 < len := by
        rcases Nat.eq_zero_or_pos len with h0 | h0
        · subst h0; exact absurd rfl hn
        · exact h0
      exact congrArg some (hspot ((hf 0 hn0).2 0 _ rfl))
    · have hn0 : 0 < len := by
        rcases Nat.eq_zero_or_pos len with h0 | h0
        · subst h0; exact absurd rfl hn
        · exact h0
      exact cell_lt20 ((hf 0 hn0).2 0 _ rfl)
    · intro i x hix j u hu
      have hil : i < len := by
        have := (List.getElem?_eq_some_iff.1 hix).1
        simpa using this
      have hxe : x = f i := by
        have := (List.getElem?_eq_some_iff.1 hix).2
        simpa using this.symm
      subst hxe
      have hq := hspot ((hf 0 (by omega)).2 0 _ rfl)
      have hh := (hf i hil).2 j u hu
      generalize a.block = b at *
      generalize a.off = o at *
      subst hq
      rw [Addr.add_lit] at hh
      rw [Nat.add_assoc]
      exact hh
end Go.Proofs.Ytbphkbbidbjpmaa.Cw
