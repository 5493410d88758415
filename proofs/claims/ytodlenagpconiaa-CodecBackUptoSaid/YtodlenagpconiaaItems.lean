/- A slice of items as an argument. Own work. -/
import Derived.Test.YtodlenagpconiaaOpenItem
import Derived.Deep.Slices
import Derived.Deep.Fields
import Derived.ChangeSame
namespace Go.Proofs.Ytodlenagpconiaa.Cw
open Go.ChangeShapes Go.WideShapes Go.Deep Go.RowKit Go.Joins
set_option linter.unusedVariables false

/-- An item. -/
structure It where
  kind : Int
  n : Int
  size : Int
  s : ByteArray
def It.V (x : It) : Value := itemV x.kind x.n x.size x.s
def It.cells (x : It) : List Value := [.int .i64 x.kind, .int .i64 x.n, .int .i64 x.size, .string x.s]
/-- An item's numbers are ints, and its text is no longer than a text may be. -/
def It.Ok (x : It) : Prop := (-9223372036854775808 ≤ x.n ∧ x.n < 9223372036854775808) ∧ (-9223372036854775808 ≤ x.size ∧ x.size < 9223372036854775808) ∧ x.s.size ≤ maxLen

theorem add_plain (b o i : Nat) : (⟨b, o, none⟩ : Addr).add i = ⟨b, o + i, none⟩ := Addr.add_lit b o i

/-- An item lies at this place. -/
def ItAt (w : World) (b o : Nat) (x : It) : Prop := w.cell? ⟨b, o, none⟩ = some (.int .i64 x.kind) ∧ w.cell? ⟨b, o + 1, none⟩ = some (.int .i64 x.n) ∧ w.cell? ⟨b, o + 2, none⟩ = some (.int .i64 x.size) ∧ w.cell? ⟨b, o + 3, none⟩ = some (.string x.s)

/-- The slice value of these parts reads as these items; it lies below block B. -/
def Items (w : World) (B : Nat) (A : Option Addr) (len : Nat) (l : List It) : Prop :=
  l.length = len ∧ (∀ x ∈ l, x.Ok) ∧ (0 < len → ∃ b o : Nat, A = some ⟨b, o, none⟩ ∧ b < B ∧ ∀ (i : Nat) (x : It), l[i]? = some x → ItAt w b (o + i * 4) x)

theorem ItAt.fr {w W : World} {b o : Nat} {x : It} {S : Nat → Prop} (h : ItAt w b o x) (k : Fr w W S) (hb : b < w.heap.size) (hs : ¬ S b) : ItAt W b o x := by
  have e : ∀ q, W.cell? ⟨b, q, none⟩ = w.cell? ⟨b, q, none⟩ := fun q => World.cell?_of_block (k.block b hb hs)
  unfold ItAt at *
  rw [e, e, e, e]
  exact h

theorem spot_none {w : World} {a : Addr} {v : Value} (h : w.cell? (a.add (0 * 4 + 0)) = some v) : a = ⟨a.block, a.off, none⟩ := by
  obtain ⟨b, o, sp⟩ := a
  cases sp with
  | none => rfl
  | some q =>
    unfold World.cell? at h
    simp [Addr.add] at h
    split at h <;> simp at h

theorem cell_lt {w : World} {a : Addr} {k : Nat} {v : Value} (h : w.cell? (a.add k) = some v) : a.block < w.heap.size := by
  have hb : (a.add k).block = a.block := by unfold Addr.add; split <;> rfl
  unfold World.cell? at h
  rw [hb] at h
  rcases Nat.lt_or_ge a.block w.heap.size with h1 | h1
  · exact h1
  · rw [Array.getElem?_eq_none h1] at h
    cases h

section
variable {H : Type} {enc : TypeId × Value → H} {P : Program} {w : World} {base : Nat} {spare : Nat → Bool} {held : Bool}
theorem open_slice_fields {t e : TypeId} {fs : Array Field} {fuel : Nat} {cs : List Value} {x : DataW H × List MemPlace} (ht : P.underlying t = some (.slice e)) (he : P.underlying e = some (.struct fs))
    (hone : oneCellFields P fs = true) (hC : P.cellsOf e = fs.size) (h : DataW.trod enc P w base spare held fuel t cs = some x) :
    (cs = [.slice none 0 0] ∧ x = (.nil, [])) ∨
    ∃ (a : Addr) (len cap m : Nat) (D : Nat → DataW H) (Pl : Nat → List MemPlace), cs = [.slice (some a) len cap] ∧ base ≤ a.block ∧ len ≤ cap ∧ cap ≤ maxLen ∧ m = (if spare a.block then cap else len) ∧
      x = (.slice ((List.range len).map D) ((List.range (m - len)).map fun j => D (len + j)), MemPlace.row a (m * fs.size) ++ (List.range m).flatMap Pl) ∧
      ∀ i, i < m → ∃ (ys : List (DataW H × List MemPlace)) (n : Nat), D i = .agg (ys.map (·.1)) ∧ Pl i = ys.flatMap (·.2) ∧ ys.length = fs.size ∧
        ∀ (j : Nat) (f : Field), fs[j]? = some f → ∃ (v : Value) (y : DataW H × List MemPlace), w.cell? (a.add (i * fs.size + j)) = some v ∧ ys[j]? = some y ∧ DataW.trod enc P w base spare held n f.type [v] = some y := by
  rcases open_slice ht h with h0 | ⟨a, len, cap, m, n, D, Pl, hcs, hb, hl, hm, hmm, hx, hi⟩
  · exact .inl h0
  · refine .inr ⟨a, len, cap, m, D, Pl, hcs, hb, hl, hm, hmm, by rw [hC] at hx; exact hx, fun i him => ?_⟩
    obtain ⟨cs', hc, ht'⟩ := hi i him
    rw [hC] at hc
    obtain ⟨ys, n', hn', hy, hlen, hyl, hf⟩ := DataW.trod_struct he ht'
    obtain ⟨_, hcl, hat⟩ := World.cells?_some hc
    simp only [Prod.mk.injEq] at hy
    refine ⟨ys, n', hy.1, hy.2, hyl, fun j f hj => ?_⟩
    obtain ⟨ho, hk⟩ := hone_of hone j f hj
    have hjl : j < fs.size := (Array.getElem?_eq_some_iff.1 hj).1
    have hcell := hat j hjl
    have hv : cs'[j]? = some (cs'[j]'(by omega)) := List.getElem?_eq_getElem (by omega)
    have h1 := hf j f hj
    rw [ho, hk] at h1
    have hone' : (cs'.drop j).take 1 = [cs'[j]'(by omega)] := by
      rw [List.drop_eq_getElem_cons (by omega)]
      rfl
    rw [hone'] at h1
    have hys : ys[j]? = some (ys[j]'(by omega)) := List.getElem?_eq_getElem (by omega)
    refine ⟨_, _, ?_, hys, h1.trans hys⟩
    rw [← Go.Deep.add_add, hcell, hv]
end

/-- A slice of items, opened: its items, and how many letters its datum has at least (for the narrower statements). -/
theorem open_items {H : Type} {enc : TypeId × Value → H} {w : World} {base : Nat} {spare : Nat → Bool} {held : Bool} {r : Reach} {b0 : Nat} {v : Value} {d : DataW H} {p : List MemPlace}
    (hv : Value.okWide Try.prog w r b0 36 v) (h : DataW.Trod enc Try.prog w base spare held 36 v d p) (hp : ∀ x ∈ p, x.block < w.heap.size) :
    ∃ (A : Option Addr) (len cap : Nat) (l : List It), v = .slice A len cap ∧ Items w w.heap.size A len l ∧ len ≤ maxLen := by
  obtain ⟨a0, len, cap, rfl⟩ := okWide_slice Try.underlying36 hv
  obtain ⟨fuel, hf⟩ := h
  rcases open_slice_fields Try.underlying36 Try.underlying38 (by kernel_rfl) (by rw [cellsItem]; rfl) hf with ⟨hcs, _⟩ | ⟨a, len', cap', m, D, Pl, hcs, _, hl, hm, hmm, hx, hi⟩
  · simp [Value.cells] at hcs
    obtain ⟨rfl, rfl, rfl⟩ := hcs
    exact ⟨none, 0, 0, [], rfl, ⟨rfl, by simp, fun h => absurd h (by omega)⟩, by omega⟩
  · simp [Value.cells] at hcs
    obtain ⟨rfl, rfl, rfl⟩ := hcs
    have hlm : len ≤ m := by rw [hmm]; split <;> omega
    have hall : ∀ i, i < len → ∃ x : It, x.Ok ∧ ∀ j u, x.cells[j]? = some u → w.cell? (a.add (i * 4 + j)) = some u := by
      intro i hil
      obtain ⟨ys, n, _, _, _, hfs⟩ := hi i (by omega)
      obtain ⟨v0, y0, c0, _, t0⟩ := hfs 0 _ rfl
      obtain ⟨v1, y1, c1, _, t1⟩ := hfs 1 _ rfl
      obtain ⟨v2, y2, c2, _, t2⟩ := hfs 2 _ rfl
      obtain ⟨v3, y3, c3, _, t3⟩ := hfs 3 _ rfl
      obtain ⟨n0, e0, _, _⟩ := DataW.trod_int Try.underlying3 t0
      obtain ⟨n1, e1, _, w1⟩ := DataW.trod_int Try.underlying3 t1
      obtain ⟨n2, e2, _, w2⟩ := DataW.trod_int Try.underlying3 t2
      obtain ⟨s, e3, _, hs⟩ := DataW.trod_string Try.underlying9 t3
      simp only [List.cons.injEq, and_true] at e0 e1 e2 e3
      subst e0 e1 e2 e3
      refine ⟨⟨n0, n1, n2, s⟩, ⟨wf_i64 w1, wf_i64 w2, hs⟩, fun j u hu => ?_⟩
      match j, hu with
      | 0, hu => simp [It.cells] at hu; subst hu; exact c0
      | 1, hu => simp [It.cells] at hu; subst hu; exact c1
      | 2, hu => simp [It.cells] at hu; subst hu; exact c2
      | 3, hu => simp [It.cells] at hu; subst hu; exact c3
      | j + 4, hu => simp [It.cells] at hu
    obtain ⟨f, hf⟩ := Classical.axiomOfChoice (r := fun (i : Nat) (x : It) => i < len → x.Ok ∧ ∀ (j : Nat) (u : Value), x.cells[j]? = some u → w.cell? (a.add (i * 4 + j)) = some u) (fun i => by
      by_cases hil : i < len
      · obtain ⟨x, hx⟩ := hall i hil
        exact ⟨x, fun _ => hx⟩
      · exact ⟨⟨0, 0, 0, ByteArray.empty⟩, fun h => absurd h hil⟩)
    refine ⟨some a, len, cap, (List.range len).map f, rfl, ⟨by simp, ?_, fun hn => ⟨a.block, a.off, ?_, ?_, ?_⟩⟩, by omega⟩
    · intro x hx
      obtain ⟨i, hir, rfl⟩ := List.mem_map.1 hx
      exact (hf i (List.mem_range.1 hir)).1
    · exact congrArg some (spot_none ((hf 0 hn).2 0 _ rfl))
    · exact cell_lt ((hf 0 hn).2 0 _ rfl)
    · intro i x hix
      have hil : i < len := by
        have := (List.getElem?_eq_some_iff.1 hix).1
        simpa using this
      have hxe : x = f i := by
        have := (List.getElem?_eq_some_iff.1 hix).2
        simpa using this.symm
      subst hxe
      have hpl : ∀ j, a.add (i * 4 + j) = ⟨a.block, a.off + i * 4 + j, none⟩ := by
        intro j
        have hq := spot_none ((hf 0 hn).2 0 _ rfl)
        generalize a.block = b at hq
        generalize a.off = o at hq
        subst hq
        rw [Addr.add_lit, Nat.add_assoc]
      have h0 := (hf i hil).2 0 _ rfl
      have h1 := (hf i hil).2 1 _ rfl
      have h2 := (hf i hil).2 2 _ rfl
      have h3 := (hf i hil).2 3 _ rfl
      rw [hpl] at h0 h1 h2 h3
      exact ⟨h0, h1, h2, h3⟩
end Go.Proofs.Ytodlenagpconiaa.Cw
