/- Arguments opened: a chunk; a slice of chunks, of texts, of numbers. Own work. -/
import Derived.Test.YthnigmbdacjlnaaCkR
import Derived.ProofKit
import Derived.Lib.SmallJoins
import Derived.OpenShut
import Derived.ChangeSlices
import Derived.SliceStrings
import Derived.Deep.Slices
import Derived.Deep.Fields
namespace Go.Proofs.Ythnigmbdacjlnaa.Cw
open Go.Joins Go.ChangeShapes Go.WideShapes Go.Deep Go.RowKit
set_option linter.unusedVariables false
set_option linter.unusedSimpArgs false

theorem cellsCk : Try.prog.cellsOf 24 = 5 := by kernel_rfl
theorem list5 {cs : List Value} (h : cs.length = 5) : ∃ v0 v1 v2 v3 v4, cs = [v0, v1, v2, v3, v4] := by
  rcases cs with _ | ⟨v0, _ | ⟨v1, _ | ⟨v2, _ | ⟨v3, _ | ⟨v4, _ | ⟨v5, r⟩⟩⟩⟩⟩⟩
  all_goals first
    | exact ⟨_, _, _, _, _, rfl⟩
    | (simp at h)
set_option maxRecDepth 100000 in
theorem trod_ck {H : Type} {enc : TypeId × Value → H} {w : World} {base : Nat} {spare : Nat → Bool} {held : Bool} {fuel : Nat} {cs : List Value} {x : DataW H × List MemPlace}
    (h : DataW.trod enc Try.prog w base spare held fuel 24 cs = some x) : ∃ y : Ck, cs = y.cells := by
  obtain ⟨ys, n, _, _, hl, hyl, hf⟩ := DataW.trod_struct Try.underlying24 h
  have hlen : cs.length = 5 := hl.trans cellsCk
  obtain ⟨v0, v1, v2, v3, v4, rfl⟩ := list5 hlen
  have k1 : Try.prog.cellsOf 3 = 1 := by kernel_rfl
  have k2 : Try.prog.cellsOf 9 = 1 := by kernel_rfl
  have hy5 : ys.length = 5 := hyl
  have f0 : DataW.trod enc Try.prog w base spare held n 3 (List.take (Try.prog.cellsOf 3) (List.drop 0 [v0, v1, v2, v3, v4])) = ys[0]? := hf 0 _ rfl
  have f1 : DataW.trod enc Try.prog w base spare held n 3 (List.take (Try.prog.cellsOf 3) (List.drop 1 [v0, v1, v2, v3, v4])) = ys[1]? := hf 1 _ rfl
  have f2 : DataW.trod enc Try.prog w base spare held n 3 (List.take (Try.prog.cellsOf 3) (List.drop 2 [v0, v1, v2, v3, v4])) = ys[2]? := hf 2 _ rfl
  have f3 : DataW.trod enc Try.prog w base spare held n 9 (List.take (Try.prog.cellsOf 9) (List.drop 3 [v0, v1, v2, v3, v4])) = ys[3]? := hf 3 _ rfl
  have f4 : DataW.trod enc Try.prog w base spare held n 3 (List.take (Try.prog.cellsOf 3) (List.drop 4 [v0, v1, v2, v3, v4])) = ys[4]? := hf 4 _ rfl
  rw [k1, List.getElem?_eq_getElem (by omega)] at f0 f1 f2 f4
  rw [k2, List.getElem?_eq_getElem (by omega)] at f3
  simp only [List.drop_zero, List.drop_succ_cons, List.take_succ_cons, List.take_zero] at f0 f1 f2 f3 f4
  obtain ⟨a0, q0, _, w0⟩ := DataW.trod_int Try.underlying3 f0
  obtain ⟨a1, q1, _, w1⟩ := DataW.trod_int Try.underlying3 f1
  obtain ⟨a2, q2, _, w2⟩ := DataW.trod_int Try.underlying3 f2
  obtain ⟨s3, q3, _, w3⟩ := DataW.trod_string Try.underlying9 f3
  obtain ⟨a4, q4, _, w4⟩ := DataW.trod_int Try.underlying3 f4
  simp only [List.cons.injEq, and_true] at q0 q1 q2 q3 q4
  subst q0 q1 q2 q3 q4
  exact ⟨⟨a0, a1, a2, s3, a4⟩, rfl⟩
set_option maxRecDepth 100000 in
theorem open_ck {H : Type} {enc : TypeId × Value → H} {w : World} {base : Nat} {spare : Nat → Bool} {held : Bool} {r : Reach} {b0 : Nat} {v : Value} {d : DataW H} {p : List MemPlace}
    (hv : Value.okWide Try.prog w r b0 24 v) (h : DataW.Trod enc Try.prog w base spare held 24 v d p) : ∃ x : Ck, v = x.V := by
  obtain ⟨cs, rfl, hsz⟩ := okWide_struct Try.underlying24 hv
  obtain ⟨fuel, hf⟩ := h
  obtain ⟨y, hc⟩ := trod_ck hf
  refine ⟨y, ?_⟩
  have hc2 : cs.toList = y.cells := by simpa [Value.cells] using hc
  have : cs = y.cells.toArray := by rw [← hc2]
  rw [this]
  rfl
theorem spot_none25 {w : World} {a : Addr} {v : Value} (h : w.cell? a = some v) : a = ⟨a.block, a.off, none⟩ := by
  obtain ⟨b, o, sp⟩ := a
  cases sp with
  | none => rfl
  | some q =>
    unfold World.cell? at h
    simp at h
    split at h <;> simp at h
theorem add_lit25 (a : Addr) (k : Nat) (h : a = ⟨a.block, a.off, none⟩) : a.add k = ⟨a.block, a.off + k, none⟩ := by
  rw [h]
  exact Addr.add_lit _ _ _
theorem cell_lt25 {w : World} {b o : Nat} {v : Value} (h : w.cell? ⟨b, o, none⟩ = some v) : b < w.heap.size := by
  rcases Nat.lt_or_ge b w.heap.size with h1 | h1
  · exact h1
  · unfold World.cell? at h
    simp [Array.getElem?_eq_none h1] at h

theorem ev_opened {w : World} {a : Addr} {cap : Nat} {l : List Value} (hl : l.length ≤ cap) (hm : cap ≤ maxLen) (hc : ∀ i x, l[i]? = some x → w.cell? (a.add i) = some x) : Ev w (.slice (some a) l.length cap) l := by
  refine ⟨some a, cap, rfl, hl, hm, fun hn => ?_⟩
  have h0 := hc 0 _ (List.getElem?_eq_getElem (List.length_pos_iff.2 hn))
  rw [Addr.add_zero'] at h0
  have hq := spot_none25 h0
  refine ⟨a.block, a.off, congrArg some hq, ?_, fun i x hx => ?_⟩
  · rw [hq] at h0
    exact cell_lt25 h0
  · have := hc i x hx
    rwa [add_lit25 a i hq] at this
set_option maxRecDepth 100000 in
theorem open_texts {H : Type} {enc : TypeId × Value → H} {w : World} {base : Nat} {spare : Nat → Bool} {held : Bool} {r : Reach} {b0 : Nat} {v : Value} {d : DataW H} {p : List MemPlace}
    (hv : Value.okWide Try.prog w r b0 22 v) (h : DataW.Trod enc Try.prog w base spare held 22 v d p) : ∃ l : List ByteArray, Tv w v l := by
  obtain ⟨a0, len, cap, rfl⟩ := okWide_slice Try.underlying22 hv
  obtain ⟨fuel, hf⟩ := h
  rcases Go.ChangeShapes.open_strings Try.underlying22 Try.underlying9 (by kernel_rfl) hf with ⟨hcs, _⟩ | ⟨a, len', cap', ss, hcs, _, hl, hm, hz, _, hcell, _⟩
  · simp [Value.cells] at hcs
    obtain ⟨rfl, rfl, rfl⟩ := hcs
    exact ⟨[], Ev.nil w⟩
  · simp [Value.cells] at hcs
    obtain ⟨rfl, rfl, rfl⟩ := hcs
    have hlz : len ≤ ss.length := by rw [hz]; split <;> omega
    have hL : ((ss.take len).map Value.string).length = len := by rw [List.length_map, List.length_take, Nat.min_eq_left hlz]
    refine ⟨ss.take len, ?_⟩
    have := ev_opened (w := w) (a := a) (cap := cap) (l := (ss.take len).map Value.string) (by omega) hm (fun i x hx => by
      rw [List.getElem?_map, List.getElem?_take] at hx
      split at hx
      · rename_i hil
        rw [hcell i (by omega), List.getD_eq_getElem?_getD]
        cases hs : ss[i]? with
        | none => rw [hs] at hx; cases hx
        | some y => rw [hs] at hx; injection hx with hx; subst hx; rfl
      · cases hx)
    rwa [hL] at this
set_option maxRecDepth 100000 in
theorem open_nv {H : Type} {enc : TypeId × Value → H} {w : World} {base : Nat} {spare : Nat → Bool} {held : Bool} {r : Reach} {b0 : Nat} {v : Value} {d : DataW H} {p : List MemPlace}
    (hv : Value.okWide Try.prog w r b0 52 v) (h : DataW.Trod enc Try.prog w base spare held 52 v d p) : ∃ l : List Int, Nv w v l := by
  obtain ⟨a0, len, cap, rfl⟩ := okWide_slice Try.underlying52 hv
  obtain ⟨fuel, hf⟩ := h
  rcases open_ints Try.underlying52 Try.underlying3 (by kernel_rfl) hf with ⟨hcs, _⟩ | ⟨a, len', cap', zs, hcs, _, hl, hm, hz, hx, hcell, hwz⟩
  · simp [Value.cells] at hcs
    obtain ⟨rfl, rfl, rfl⟩ := hcs
    exact ⟨[], Ev.nil w⟩
  · simp [Value.cells] at hcs
    obtain ⟨rfl, rfl, rfl⟩ := hcs
    have hlz : len ≤ zs.length := by rw [hz]; split <;> omega
    have hL : ((zs.take len).map (Value.int .i64)).length = len := by rw [List.length_map, List.length_take, Nat.min_eq_left hlz]
    refine ⟨zs.take len, ?_⟩
    have := ev_opened (w := w) (a := a) (cap := cap) (l := (zs.take len).map (Value.int .i64)) (by omega) (by omega) (fun i x hx => by
      rw [List.getElem?_map, List.getElem?_take] at hx
      split at hx
      · rename_i hil
        rw [hcell i (by omega), List.getD_eq_getElem?_getD]
        cases hs : zs[i]? with
        | none => rw [hs] at hx; cases hx
        | some y => rw [hs] at hx; injection hx with hx; subst hx; rfl
      · cases hx)
    rwa [hL] at this
set_option maxRecDepth 100000 in
theorem open_cks {H : Type} {enc : TypeId × Value → H} {w : World} {base : Nat} {spare : Nat → Bool} {held : Bool} {r : Reach} {b0 : Nat} {v : Value} {d : DataW H} {p : List MemPlace}
    (hv : Value.okWide Try.prog w r b0 26 v) (h : DataW.Trod enc Try.prog w base spare held 26 v d p) : ∃ l : List Ck, Cv w v l := by
  obtain ⟨a0, len, cap, rfl⟩ := okWide_slice Try.underlying26 hv
  obtain ⟨fuel, hf⟩ := h
  rcases open_slice Try.underlying26 hf with ⟨hcs, _⟩ | ⟨a, len', cap', m, n, D, Pl, hcs, _, hl, hm, hmm, hx, hi⟩
  · simp [Value.cells] at hcs
    obtain ⟨rfl, rfl, rfl⟩ := hcs
    exact ⟨[], Cv.nil w⟩
  · simp [Value.cells] at hcs
    obtain ⟨rfl, rfl, rfl⟩ := hcs
    have hlm : len ≤ m := by rw [hmm]; split <;> omega
    have hall : ∀ i, i < len → ∃ x : Ck, ∀ j u, x.cells[j]? = some u → w.cell? (a.add (i * 5 + j)) = some u := by
      intro i hil
      obtain ⟨cs', hc, ht⟩ := hi i (by omega)
      rw [cellsCk] at hc
      obtain ⟨y, rfl⟩ := trod_ck ht
      obtain ⟨_, hcl, hat⟩ := World.cells?_some hc
      refine ⟨y, fun j u hu => ?_⟩
      have hj : j < 5 := (List.getElem?_eq_some_iff.1 hu).1
      have := hat j hj
      rw [hu] at this
      rw [← Go.Deep.add_add]
      exact this
    obtain ⟨f, hf⟩ := Classical.axiomOfChoice (r := fun (i : Nat) (x : Ck) => i < len → ∀ (j : Nat) (u : Value), x.cells[j]? = some u → w.cell? (a.add (i * 5 + j)) = some u) (fun i => by
      by_cases hil : i < len
      · obtain ⟨x, hx⟩ := hall i hil
        exact ⟨x, fun _ => hx⟩
      · exact ⟨⟨0, 0, 0, ByteArray.empty, 0⟩, fun h => absurd h hil⟩)
    refine ⟨(List.range len).map f, some a, cap, by simp, by simpa using hl, hm, fun hn => ?_⟩
    have hn0 : 0 < len := by
      rcases Nat.eq_zero_or_pos len with h0 | h0
      · subst h0; exact absurd rfl hn
      · exact h0
    have h0 := hf 0 hn0 0 _ rfl
    rw [Nat.zero_mul, Nat.zero_add, Addr.add_zero'] at h0
    have hq := spot_none25 h0
    refine ⟨a.block, a.off, congrArg some hq, ?_, ?_⟩
    · rw [hq] at h0
      exact cell_lt25 h0
    · intro i x hix j u hu
      have hil : i < len := by
        have := (List.getElem?_eq_some_iff.1 hix).1
        simpa using this
      have hxe : x = f i := by
        have := (List.getElem?_eq_some_iff.1 hix).2
        simpa using this.symm
      subst hxe
      have hh := hf i hil j u hu
      rw [add_lit25 a _ hq] at hh
      rw [Nat.add_assoc]
      exact hh
end Go.Proofs.Ythnigmbdacjlnaa.Cw
