/- A message in memory whose entries are gathered. Own work. -/
import Derived.Test.YtmnmmmoeeapeiaaJbi
import Derived.Deep.AppendLies
import Derived.Test.YtmnmmmoeeapeiaaJar
namespace Go.Proofs.Ytmnmmmoeeapeiaa.Cw
open Go.RowKit
set_option linter.unusedVariables false
set_option linter.unusedSimpArgs false

/-- A message at block mb, whose entries' row is the call's own. -/
def Mg (T : TypeId) (B mb : Nat) (k v n a c : Int) (w : World) (u : Value) (l : List En) : Prop :=
  w.heap[mb]? = some (.cells #[.int .i64 k, .int .i64 v, .int .i64 n, .int .i64 a, .int .i64 c, u] T (0, 0)) ∧ w.ownsRow B 52 9 u l.length (l.flatMap En.cells)

section
variable {T : TypeId} {B mb : Nat} {k v n a c : Int} {w W : World} {u : Value} {l : List En}
theorem Mg.lt (h : Mg T B mb k v n a c w u l) : mb < w.heap.size := blk_lt h.1
theorem Mg.alloc (h : Mg T B mb k v n a c w u l) (o : Obj) : Mg T B mb k v n a c (w.alloc o) u l := ⟨(Below.heap_alloc _ _ _ h.lt).trans h.1, h.2.alloc o⟩
theorem Mg.fr (h : Mg T B mb k v n a c w u l) (hf : Fr w W (fun _ => False)) : Mg T B mb k v n a c W u l := ⟨hf.at_ h.1 (fun x => x), ownsRow_fr23 h.2 hf⟩
theorem Mg.own (h : Mg T B mb k v n a c w u l) {b : Nat} (hb : u.ownBlock = some b) : B ≤ b := (h.2.lt b hb).1
theorem Mg.ne (hT : ¬ T = 52) (h : Mg T B mb k v n a c w u l) : u.ownBlock ≠ some mb := by
  intro hb
  rcases h.2.2 with ⟨rfl, _⟩ | ⟨g', cap, cur, rfl, _, hg, _⟩
  · cases hb
  · injection hb with hb
    have h1 := h.1
    subst hb
    have h2 : some (Obj.cells #[.int .i64 k, .int .i64 v, .int .i64 n, .int .i64 a, .int .i64 c, .slice (some ⟨g', 0, none⟩) l.length cap] T (0, 0)) = some (Obj.cells cur 52 (0, 0)) := h1.symm.trans hg
    injection h2 with h2
    injection h2 with _ h3
    exact absurd h3 hT
theorem Mg.grown (hT : ¬ T = 52) (h : Mg T B mb k v n a c W u l) {w4 : World} (hg : W.grownBy w4 u.ownBlock) :
    w4.heap[mb]? = some (.cells #[.int .i64 k, .int .i64 v, .int .i64 n, .int .i64 a, .int .i64 c, u] T (0, 0)) ∧ w4.cell? ⟨mb, 5, none⟩ = some u ∧ w4.frozen? ⟨mb, 5, none⟩ = false := by
  have hb := (hg.block mb h.lt (fun e => h.ne hT e.symm)).trans h.1
  exact ⟨hb, cell_blk hb 5, free_blk hb 5⟩
theorem Mg.push (hT : ¬ T = 52) (h : Mg T B mb k v n a c W u l) {w4 : World} {u' : Value} {x : En} (hown : w4.ownsRow B 52 9 u' (l.length + 1) (l.flatMap En.cells ++ x.cells)) (hg : W.grownBy w4 u.ownBlock) :
    Mg T B mb k v n a c (w4.setCell ⟨mb, 5, none⟩ u') u' (l ++ [x]) := by
  have hb := (h.grown hT hg).1
  refine ⟨?_, ?_⟩
  · have := set_blk hb 5 u'
    simp only [List.setIfInBounds_toArray, List.set_cons_zero, List.set_cons_succ] at this
    exact this
  · have h2 := hown.kept (w' := w4.setCell ⟨mb, 5, none⟩ u') (row := some mb) ⟨rfl, rfl, rfl, by simp [World.setCell], fun k hk hne => Below.heap_setCell _ _ _ _ (fun e => hne (by rw [e]))⟩ (by
      right
      intro hv
      rcases hown.2 with ⟨rfl, _⟩ | ⟨g', cap, cur, rfl, _, hg', _⟩
      · cases hv
      · injection hv with hv
        subst hv
        have h3 : some (Obj.cells #[.int .i64 k, .int .i64 v, .int .i64 n, .int .i64 a, .int .i64 c, u] T (0, 0)) = some (Obj.cells cur 52 (0, 0)) := hb.symm.trans hg'
        injection h3 with h3
        injection h3 with _ h3
        exact absurd h3 hT)
    rw [List.length_append, List.flatMap_append, List.flatMap_cons, List.flatMap_nil, List.append_nil]
    exact h2
theorem Mg.pushFr {w0 w4 : World} {u' : Value} (h : Mg T w0.heap.size mb k v n a c W u l) (hf : Fr w0 W (fun _ => False)) (hm : w0.heap.size ≤ mb) (hg : W.grownBy w4 u.ownBlock) : Fr w0 (w4.setCell ⟨mb, 5, none⟩ u') (fun _ => False) := by
  refine Fr.set (Fr.grown hf hg (fun b hb hlt => ?_)) _ (fun hlt => ?_) _
  · have := h.own hb
    omega
  · have h9 : mb < w0.heap.size := hlt
    omega
theorem owns_sv (h : w.ownsRow B 52 9 u l.length (l.flatMap En.cells)) : Sv w u l := by
  rcases h.2 with ⟨rfl, h0⟩ | ⟨g', cap, cur, rfl, hb, hg, h1, h2, hr⟩
  · exact ⟨none, 0, by rw [h0], by omega, by unfold maxLen; omega, fun hn => absurd (List.eq_nil_of_length_eq_zero h0) hn⟩
  · refine ⟨_, cap, rfl, h1, h2, fun hn => ⟨g', 0, rfl, blk_lt hg, fun i x hx j z hz => ?_⟩⟩
    have hc : ∀ j u, (l.flatMap En.cells)[j]? = some u → w.cell? ((⟨g', 0, none⟩ : Addr).add j) = some u := h.cells (g := g') rfl
    have hj : j < 9 := (List.getElem?_eq_some_iff.1 hz).1
    have := hc (i * 9 + j) z ((en_flat l i x j hx hj).trans hz)
    rw [Addr.add_mid, Nat.zero_add] at this
    rw [Nat.zero_add]
    exact this
theorem Mg.sv (h : Mg T B mb k v n a c w u l) : Sv w u l := owns_sv h.2
theorem Mg.six (h : Mg T B mb k v n a c w u l) : w.cell? ⟨mb, 0, none⟩ = some (.int .i64 k) ∧ w.cell? ⟨mb, 1, none⟩ = some (.int .i64 v) ∧ w.cell? ⟨mb, 2, none⟩ = some (.int .i64 n) ∧ w.cell? ⟨mb, 3, none⟩ = some (.int .i64 a) ∧ w.cell? ⟨mb, 4, none⟩ = some (.int .i64 c) ∧ w.cell? ⟨mb, 5, none⟩ = some u :=
  ⟨cell_blk h.1 0, cell_blk h.1 1, cell_blk h.1 2, cell_blk h.1 3, cell_blk h.1 4, cell_blk h.1 5⟩
theorem Mg.new (h : w.heap[mb]? = some (.cells #[.int .i64 k, .int .i64 v, .int .i64 n, .int .i64 a, .int .i64 c, .slice none 0 0] T (0, 0))) : Mg T B mb k v n a c w (.slice none 0 0) [] := ⟨h, World.ownsRow_nil w B _ 9⟩
end
theorem ownsRow_frS {w w' : World} {B : Nat} {t : TypeId} {k : Nat} {v : Value} {n : Nat} {xs : List Value} {S : Nat → Prop} (h : w.ownsRow B t k v n xs) (hf : Fr w w' S) (hs : ∀ b, v.ownBlock = some b → ¬ S b) : w'.ownsRow B t k v n xs := by
  refine ⟨h.1, ?_⟩
  rcases h.2 with hn | ⟨g', cap, cur, rfl, hb, hg, hr⟩
  · exact .inl hn
  · exact .inr ⟨g', cap, cur, rfl, hb, hf.at_ hg (hs g' rfl), hr⟩
theorem ownsRow_base {w : World} {B B' : Nat} {t : TypeId} {k : Nat} {v : Value} {n : Nat} {xs : List Value} (h : w.ownsRow B t k v n xs) (hB : B' ≤ B) : w.ownsRow B' t k v n xs := by
  refine ⟨h.1, ?_⟩
  rcases h.2 with hn | ⟨g', cap, cur, rfl, hb, hg, hr⟩
  · exact .inl hn
  · exact .inr ⟨g', cap, cur, rfl, by omega, hg, hr⟩
theorem ownsRow_ge {w : World} {B : Nat} {t : TypeId} {k : Nat} {v : Value} {n : Nat} {xs : List Value} (h : w.ownsRow B t k v n xs) {b : Nat} (hb : v.ownBlock = some b) : B ≤ b := (h.lt b hb).1
theorem set6m {w : World} {b : Nat} {t : TypeId} {o0 o1 o2 o3 o4 o5 : Value} (v0 v1 v2 v3 v4 v5 : Value) (h : w.heap[b]? = some (.cells #[o0, o1, o2, o3, o4, o5] t (0, 0))) :
    ((((((w.setCell ⟨b, 0, none⟩ v0).setCell ⟨b, 1, none⟩ v1).setCell ⟨b, 2, none⟩ v2).setCell ⟨b, 3, none⟩ v3).setCell ⟨b, 4, none⟩ v4).setCell ⟨b, 5, none⟩ v5).heap[b]? = some (.cells #[v0, v1, v2, v3, v4, v5] t (0, 0)) := by
  have g0 := set_blk h 0 v0
  have g1 := set_blk g0 1 v1
  have g2 := set_blk g1 2 v2
  have g3 := set_blk g2 3 v3
  have g4 := set_blk g3 4 v4
  have g5 := set_blk g4 5 v5
  simp only [List.setIfInBounds_toArray, List.set_cons_zero, List.set_cons_succ] at g5
  exact g5
theorem fr6m (w : World) (b : Nat) (v0 v1 v2 v3 v4 v5 : Value) : Fr w ((((((w.setCell ⟨b, 0, none⟩ v0).setCell ⟨b, 1, none⟩ v1).setCell ⟨b, 2, none⟩ v2).setCell ⟨b, 3, none⟩ v3).setCell ⟨b, 4, none⟩ v4).setCell ⟨b, 5, none⟩ v5) (fun i => i = b) :=
  ((((((Fr.refl w (fun i => i = b)).set _ (fun _ => rfl) _).set _ (fun _ => rfl) _).set _ (fun _ => rfl) _).set _ (fun _ => rfl) _).set _ (fun _ => rfl) _).set _ (fun _ => rfl) _
theorem cells6 {w : World} {b : Nat} {t : TypeId} {v0 v1 v2 v3 v4 v5 : Value} (h : w.heap[b]? = some (.cells #[v0, v1, v2, v3, v4, v5] t (0, 0))) :
    w.cell? ⟨b, 0, none⟩ = some v0 ∧ w.cell? ⟨b, 1, none⟩ = some v1 ∧ w.cell? ⟨b, 2, none⟩ = some v2 ∧ w.cell? ⟨b, 3, none⟩ = some v3 ∧ w.cell? ⟨b, 4, none⟩ = some v4 ∧ w.cell? ⟨b, 5, none⟩ = some v5 :=
  ⟨cell_blk h 0, cell_blk h 1, cell_blk h 2, cell_blk h 3, cell_blk h 4, cell_blk h 5⟩
theorem free6 {w : World} {b : Nat} {t : TypeId} {v0 v1 v2 v3 v4 v5 : Value} (h : w.heap[b]? = some (.cells #[v0, v1, v2, v3, v4, v5] t (0, 0))) :
    w.frozen? ⟨b, 0, none⟩ = false ∧ w.frozen? ⟨b, 1, none⟩ = false ∧ w.frozen? ⟨b, 2, none⟩ = false ∧ w.frozen? ⟨b, 3, none⟩ = false ∧ w.frozen? ⟨b, 4, none⟩ = false ∧ w.frozen? ⟨b, 5, none⟩ = false :=
  ⟨free_blk h 0, free_blk h 1, free_blk h 2, free_blk h 3, free_blk h 4, free_blk h 5⟩
theorem info_mgm : (Try.prog.info? 24).map (·.size) = some 6 := by kernel_rfl
theorem loadMgm {w : World} {b : Nat} {t : TypeId} {v0 v1 v2 v3 v4 v5 : Value} (h : w.heap[b]? = some (.cells #[v0, v1, v2, v3, v4, v5] t (0, 0))) :
    (loadVar 24 ⟨b, 0, none⟩).run Try.prog w = .ok (.agg #[v0, v1, v2, v3, v4, v5]) w := by
  refine run_loadVar_mid w b 0 24 [v0, v1, v2, v3, v4, v5] _ ?_ Try.underlying24 rfl (info_mgm.trans rfl)
  intro j v hj
  rw [cell_blk h, Nat.zero_add]
  simpa using hj
theorem results_mgm {fn : Func} {u : Tmp} (h : fn.results = #[.cell u 24]) (tmps : Array Value) (w : World) (b : Nat) (hb : tmps.getD u undef = .pointer (some ⟨b, 0, none⟩)) {cs : Value}
    (hl : (loadVar 24 ⟨b, 0, none⟩).run Try.prog w = .ok cs w) :
    (results fn tmps).run Try.prog w = .ok cs w := by
  have hb' : tmps[u]?.getD undef = .pointer (some ⟨b, 0, none⟩) := by simpa using hb
  simp [results, h, hb', hl, Sem.run_bind, asAddr]
end Go.Proofs.Ytmnmmmoeeapeiaa.Cw

