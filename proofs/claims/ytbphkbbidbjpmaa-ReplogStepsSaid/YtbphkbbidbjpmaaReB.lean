/- An argument that is a slice of entries, opened. Own work. -/
import Derived.Test.YtbphkbbidbjpmaaReA
import Derived.Test.YtbphkbbidbjpmaaOpenEntry
import Derived.ChangeSlices
import Derived.Deep.Slices
import Derived.Deep.Fields
namespace Go.Proofs.Ytbphkbbidbjpmaa.Cw
open Go.Joins Go.ChangeShapes Go.WideShapes Go.Deep Go.RowKit
set_option linter.unusedVariables false
set_option linter.unusedSimpArgs false

theorem spot_none20 {w : World} {a : Addr} {v : Value} (h : w.cell? (a.add (0 * 9 + 0)) = some v) : a = ⟨a.block, a.off, none⟩ := by
  obtain ⟨b, o, sp⟩ := a
  cases sp with
  | none => rfl
  | some q =>
    unfold World.cell? at h
    simp [Addr.add] at h
    split at h <;> simp at h
theorem cell_lt20 {w : World} {a : Addr} {k : Nat} {v : Value} (h : w.cell? (a.add k) = some v) : a.block < w.heap.size := by
  have hb : (a.add k).block = a.block := by unfold Addr.add; split <;> rfl
  unfold World.cell? at h
  rw [hb] at h
  rcases Nat.lt_or_ge a.block w.heap.size with h1 | h1
  · exact h1
  · rw [Array.getElem?_eq_none h1] at h
    cases h

set_option maxRecDepth 100000 in
theorem open_entries {H : Type} {enc : TypeId × Value → H} {w : World} {base : Nat} {spare : Nat → Bool} {held : Bool} {r : Reach} {b0 : Nat} {v : Value} {d : DataW H} {p : List MemPlace}
    (hv : Value.okWide Try.prog w r b0 37 v) (h : DataW.Trod enc Try.prog w base spare held 37 v d p)
    (hs : ∀ es sp, d = .slice es sp → (es.length + sp.length) * Try.prog.bytesOf 25 ≤ reachBytes) : ∃ l : List En, Sv w v l ∧ (∀ x ∈ l, x.Ok) ∧ l.length ≤ 1466015503701 := by
  obtain ⟨a0, len, cap, rfl⟩ := okWide_slice Try.underlying37 hv
  obtain ⟨fuel, hf⟩ := h
  rcases open_slice Try.underlying37 hf with ⟨hcs, _⟩ | ⟨a, len', cap', m, n, D, Pl, hcs, _, hl, hm, hmm, hx, hi⟩
  · simp [Value.cells] at hcs
    obtain ⟨rfl, rfl, rfl⟩ := hcs
    exact ⟨[], ⟨none, 0, rfl, by simp, by unfold maxLen; omega, fun h => absurd rfl h⟩, by simp, by simp⟩
  · simp [Value.cells] at hcs
    obtain ⟨rfl, rfl, rfl⟩ := hcs
    have hlm : len ≤ m := by rw [hmm]; split <;> omega
    have h96 : Try.prog.bytesOf 25 = 96 := by kernel_rfl
    have hsz := hs _ _ (congrArg Prod.fst hx)
    rw [h96] at hsz
    have hlen : len ≤ 1466015503701 := by
      simp only [List.length_map, List.length_range] at hsz
      unfold reachBytes at hsz
      omega
    have hall : ∀ i, i < len → ∃ x : En, x.Ok ∧ ∀ j u, x.cells[j]? = some u → w.cell? (a.add (i * 9 + j)) = some u := by
      intro i hil
      obtain ⟨cs', hc, ht⟩ := hi i (by omega)
      rw [cellsEntry] at hc
      obtain ⟨y, hy, rfl⟩ := trod_entry ht
      obtain ⟨_, hcl, hat⟩ := World.cells?_some hc
      refine ⟨y, hy, fun j u hu => ?_⟩
      have hj : j < 9 := (List.getElem?_eq_some_iff.1 hu).1
      have := hat j hj
      rw [hu] at this
      rw [← Go.Deep.add_add]
      exact this
    obtain ⟨f, hf⟩ := Classical.axiomOfChoice (r := fun (i : Nat) (x : En) => i < len → x.Ok ∧ ∀ (j : Nat) (u : Value), x.cells[j]? = some u → w.cell? (a.add (i * 9 + j)) = some u) (fun i => by
      by_cases hil : i < len
      · obtain ⟨x, hx⟩ := hall i hil
        exact ⟨x, fun _ => hx⟩
      · exact ⟨⟨0, 0, 0, 0, 0, 0, ByteArray.empty, ByteArray.empty, ByteArray.empty⟩, fun h => absurd h hil⟩)
    refine ⟨(List.range len).map f, ⟨some a, cap, by simp, by simpa using hl, hm, fun hn => ⟨a.block, a.off, ?_, ?_, ?_⟩⟩, ?_, by simpa using hlen⟩
    · have hn0 : 0 < len := by
        rcases Nat.eq_zero_or_pos len with h0 | h0
        · subst h0; exact absurd rfl hn
        · exact h0
      exact congrArg some (spot_none20 ((hf 0 hn0).2 0 _ rfl))
    · have hn0 : 0 < len := by
        rcases Nat.eq_zero_or_pos len with h0 | h0
        · subst h0; exact absurd rfl hn
        · exact h0
      exact cell_lt20 ((hf 0 hn0).2 0 _ rfl)
    · intro i x hix j u hu
      have hil : i < len := by
        have := (List.getElem?_eq_some_iff.1 hix).1
        simpa using this
      have hxe : x = f i := by
        have := (List.getElem?_eq_some_iff.1 hix).2
        simpa using this.symm
      subst hxe
      have hq := spot_none20 ((hf 0 (by omega)).2 0 _ rfl)
      have hh := (hf i hil).2 j u hu
      generalize a.block = b at *
      generalize a.off = o at *
      subst hq
      rw [Addr.add_lit] at hh
      rw [Nat.add_assoc]
      exact hh
    · intro x hx
      obtain ⟨i, hir, rfl⟩ := List.mem_map.1 hx
      exact (hf i (List.mem_range.1 hir)).1
end Go.Proofs.Ytbphkbbidbjpmaa.Cw
