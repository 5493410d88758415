/- A log in memory. Own work. -/
import Derived.Test.YtbphkbbidbjpmaaRpA
import Derived.Test.YtbphkbbidbjpmaaCwF
import Derived.Deep.MidRow
namespace Go.Proofs.Ytbphkbbidbjpmaa.Cw
open Go.RowKit
set_option linter.unusedVariables false
set_option linter.unusedSimpArgs false

/-- An entry. -/
structure En where
  a : Int
  b : Int
  c : Int
  k : Int
  t : Int
  n : Int
  p : ByteArray
  q : ByteArray
  r : ByteArray
def En.V (x : En) : Value := enV x.a x.b x.c x.k x.t x.n x.p x.q x.r
def En.cells (x : En) : List Value := [.int .i64 x.a, .int .i64 x.b, .int .i64 x.c, .int .i64 x.k, .int .i64 x.t, .int .i64 x.n, .string x.p, .string x.q, .string x.r]
def En.R (x : En) : Prop := Rt x.a x.b x.c x.p x.q x.r

/-- A log at block g: the slice v is its own, and bears these entries. -/
def Lg (w : World) (g : Nat) (v : Value) (es : List En) : Prop := w.heap[g]? = some (.cells #[v] 89 (0, 0)) ∧ w.ownsRow 0 25 9 v es.length (es.flatMap En.cells)

theorem Lg.lt {w : World} {g : Nat} {v : Value} {es : List En} (h : Lg w g v es) : g < w.heap.size := blk_lt h.1
theorem Lg.own_lt {w : World} {g : Nat} {v : Value} {es : List En} (h : Lg w g v es) {b : Nat} (hb : v.ownBlock = some b) : b < w.heap.size := (h.2.lt b hb).2
theorem Lg.c0 {w : World} {g : Nat} {v : Value} {es : List En} (h : Lg w g v es) : w.cell? ⟨g, 0, none⟩ = some v := cell_blk h.1 0
theorem Lg.f0 {w : World} {g : Nat} {v : Value} {es : List En} (h : Lg w g v es) : w.frozen? ⟨g, 0, none⟩ = false := free_blk h.1 0
theorem Lg.alloc {w : World} {g : Nat} {v : Value} {es : List En} (h : Lg w g v es) (o : Obj) : Lg (w.alloc o) g v es := ⟨(Below.heap_alloc _ _ _ h.lt).trans h.1, h.2.alloc o⟩
theorem Lg.fr {w W : World} {g : Nat} {v : Value} {es : List En} {S : Nat → Prop} (h : Lg w g v es) (k : Fr w W S) (hs : ¬ S g) (hs2 : ∀ b, v.ownBlock = some b → ¬ S b) : Lg W g v es := by
  refine ⟨k.at_ h.1 hs, h.2.1, ?_⟩
  rcases h.2.2 with hn | ⟨g', cap, cur, rfl, hb, hg, hr⟩
  · exact .inl hn
  · exact .inr ⟨g', cap, cur, rfl, hb, k.at_ hg (hs2 g' rfl), hr⟩
theorem Lg.new {w : World} {g : Nat} (h : w.heap[g]? = some (.cells #[.slice none 0 0] 89 (0, 0))) : Lg w g (.slice none 0 0) [] := ⟨h, World.ownsRow_nil w 0 _ 9⟩
theorem Lg.drew {w : World} {g : Nat} {v : Value} {es : List En} (h : Lg w g v es) : Lg w.drew g v es := h
theorem Lg.ne {w : World} {g : Nat} {v : Value} {es : List En} (h : Lg w g v es) : v.ownBlock ≠ some g := by
  intro hb
  rcases h.2.2 with ⟨rfl, _⟩ | ⟨g', cap, cur, rfl, _, hg, _⟩
  · cases hb
  · injection hb with hb
    have h1 := h.1
    subst hb
    have h2 : some (Obj.cells #[.slice (some ⟨g', 0, none⟩) es.length cap] 89 (0, 0)) = some (Obj.cells cur 25 (0, 0)) := h1.symm.trans hg
    injection h2 with h2
    injection h2 with _ h3
    exact absurd h3 (by decide)

theorem en_flat (es : List En) : ∀ (i : Nat) (x : En) (j : Nat), es[i]? = some x → j < 9 → (es.flatMap En.cells)[i * 9 + j]? = x.cells[j]? := by
  induction es with
  | nil => intro i x j h; cases h
  | cons y r ih =>
    intro i x j h hj
    rw [List.flatMap_cons]
    have hl : y.cells.length = 9 := rfl
    cases i with
    | zero =>
      simp only [List.getElem?_cons_zero, Option.some.injEq] at h
      subst h
      rw [List.getElem?_append_left (by omega), Nat.zero_mul, Nat.zero_add]
    | succ i =>
      rw [List.getElem?_cons_succ] at h
      rw [List.getElem?_append_right (by omega), hl, show (i + 1) * 9 + j - 9 = i * 9 + j by omega]
      exact ih i x j h hj
/-- Its slice, and each entry's cells. -/
theorem Lg.shape {w : World} {g : Nat} {v : Value} {es : List En} (h : Lg w g v es) : ∃ A cap, v = .slice A es.length cap ∧
    ∀ (i : Nat) (x : En), es[i]? = some x → ∃ o, A = some ⟨o, 0, none⟩ ∧ v.ownBlock = some o ∧ ∀ j u, x.cells[j]? = some u → w.cell? ⟨o, i * 9 + j, none⟩ = some u := by
  rcases h.2.2 with ⟨rfl, h0⟩ | ⟨g', cap, cur, rfl, hb, hg, hr⟩
  · refine ⟨none, 0, by rw [h0], fun i x hx => ?_⟩
    have := (List.getElem?_eq_some_iff.1 hx).1
    omega
  · refine ⟨some ⟨g', 0, none⟩, cap, rfl, fun i x hx => ⟨g', rfl, rfl, fun j u hu => ?_⟩⟩
    have hc : ∀ j u, (es.flatMap En.cells)[j]? = some u → w.cell? ((⟨g', 0, none⟩ : Addr).add j) = some u := h.2.cells (g := g') rfl
    have hj : j < 9 := (List.getElem?_eq_some_iff.1 hu).1
    have := hc (i * 9 + j) u ((en_flat es i x j hx hj).trans hu)
    rwa [Addr.add_mid, Nat.zero_add] at this

theorem new20_calls (w : World) :
    Calls Try.prog 21 #[] w fun e w' => e = .returned (.pointer (some ⟨w.heap.size, 0, none⟩)) ∧ Lg w' w.heap.size (.slice none 0 0) [] ∧ Fr w w' (fun _ => False) := by
  go_enter Try.func21, Try.ntmps21
  go_wp2
  go_ret
  exact ⟨rfl, Lg.new (alloc_new _ _), (Fr.refl w _).alloc _⟩

theorem len_calls (w : World) (g : Nat) (v : Value) (es : List En) (h : Lg w g v es) :
    Calls Try.prog 18 #[.pointer (some ⟨g, 0, none⟩)] w fun e w' => e = .returned (.int .i64 es.length) ∧ w = w' := by
  obtain ⟨A, cap, rfl, _⟩ := h.shape
  have c0 := h.c0
  go_enter Try.func18, Try.ntmps18
  go_wp2
  go_ret
  exact ⟨rfl, rfl⟩
theorem len_nil (w : World) :
    Calls Try.prog 18 #[.pointer none] w fun e w' => e = .returned (.int .i64 0) ∧ w = w' := by
  go_enter Try.func18, Try.ntmps18
  go_wp2
  go_ret
  exact ⟨rfl, rfl⟩
end Go.Proofs.Ytbphkbbidbjpmaa.Cw
