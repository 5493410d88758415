/- An inode in a block of eleven cells: stored whole, loaded whole, handed back. Own work. -/
import Derived.Test.YtmbfcnacoijmaaaIoD
import Derived.Test.YtmbfcnacoijmaaaCwL
import Derived.Deep.MidRow
namespace Go.Proofs.Ytmbfcnacoijmaaa.Cw
open Go.RowKit
set_option linter.unusedVariables false
set_option linter.unusedSimpArgs false

theorem set11 {w : World} {b : Nat} {t : TypeId} {o0 o1 o2 o3 o4 o5 o6 o7 o8 o9 o10 : Value} (v0 v1 v2 v3 v4 v5 v6 v7 v8 v9 v10 : Value) (h : w.heap[b]? = some (.cells #[o0, o1, o2, o3, o4, o5, o6, o7, o8, o9, o10] t (0, 0))) :
    (((((((((((w.setCell ⟨b, 0, none⟩ v0).setCell ⟨b, 1, none⟩ v1).setCell ⟨b, 2, none⟩ v2).setCell ⟨b, 3, none⟩ v3).setCell ⟨b, 4, none⟩ v4).setCell ⟨b, 5, none⟩ v5).setCell ⟨b, 6, none⟩ v6).setCell ⟨b, 7, none⟩ v7).setCell ⟨b, 8, none⟩ v8).setCell ⟨b, 9, none⟩ v9).setCell ⟨b, 10, none⟩ v10).heap[b]? = some (.cells #[v0, v1, v2, v3, v4, v5, v6, v7, v8, v9, v10] t (0, 0)) := by
  have g0 := set_blk h 0 v0
  have g1 := set_blk g0 1 v1
  have g2 := set_blk g1 2 v2
  have g3 := set_blk g2 3 v3
  have g4 := set_blk g3 4 v4
  have g5 := set_blk g4 5 v5
  have g6 := set_blk g5 6 v6
  have g7 := set_blk g6 7 v7
  have g8 := set_blk g7 8 v8
  have g9 := set_blk g8 9 v9
  have g10 := set_blk g9 10 v10
  simp only [List.setIfInBounds_toArray, List.set_cons_zero, List.set_cons_succ] at g10
  exact g10
theorem fr11 {w0 w : World} {b : Nat} (v0 v1 v2 v3 v4 v5 v6 v7 v8 v9 v10 : Value) (h : Fr w0 w (fun _ => False)) (hb : w0.heap.size ≤ b) :
    Fr w0 (((((((((((w.setCell ⟨b, 0, none⟩ v0).setCell ⟨b, 1, none⟩ v1).setCell ⟨b, 2, none⟩ v2).setCell ⟨b, 3, none⟩ v3).setCell ⟨b, 4, none⟩ v4).setCell ⟨b, 5, none⟩ v5).setCell ⟨b, 6, none⟩ v6).setCell ⟨b, 7, none⟩ v7).setCell ⟨b, 8, none⟩ v8).setCell ⟨b, 9, none⟩ v9).setCell ⟨b, 10, none⟩ v10) (fun _ => False) := by
  have n : ∀ k : Nat, (⟨b, k, none⟩ : Addr).block < w0.heap.size → False := fun k x => by
    have : b < w0.heap.size := x
    omega
  exact (((((((((((h.set _ (n 0) v0).set _ (n 1) v1).set _ (n 2) v2).set _ (n 3) v3).set _ (n 4) v4).set _ (n 5) v5).set _ (n 6) v6).set _ (n 7) v7).set _ (n 8) v8).set _ (n 9) v9).set _ (n 10) v10)
theorem info_nd : (Try.prog.info? 24).map (·.size) = some 11 := by kernel_rfl
theorem load11 {w : World} {b : Nat} {t : TypeId} {v0 v1 v2 v3 v4 v5 v6 v7 v8 v9 v10 : Value} (h : w.heap[b]? = some (.cells #[v0, v1, v2, v3, v4, v5, v6, v7, v8, v9, v10] t (0, 0))) :
    (loadVar 24 ⟨b, 0, none⟩).run Try.prog w = .ok (.agg #[v0, v1, v2, v3, v4, v5, v6, v7, v8, v9, v10]) w := by
  refine run_loadVar_mid w b 0 24 [v0, v1, v2, v3, v4, v5, v6, v7, v8, v9, v10] _ ?_ Try.underlying24 rfl (info_nd.trans rfl)
  intro j v hj
  rw [cell_blk h, Nat.zero_add]
  simpa using hj
theorem results_node {fn : Func} {u x : Tmp} (h : fn.results = #[.cell u 24, .tmp x]) (tmps : Array Value) (w : World) (b : Nat) (hb : tmps.getD u undef = .pointer (some ⟨b, 0, none⟩)) {cs : Value}
    (hl : (loadVar 24 ⟨b, 0, none⟩).run Try.prog w = .ok cs w) :
    (results fn tmps).run Try.prog w = .ok (.tuple #[cs, tmps.getD x undef]) w := by
  have hb' : tmps[u]?.getD undef = .pointer (some ⟨b, 0, none⟩) := by simpa using hb
  simp [results, h, hb', hl, Sem.run_bind, asAddr]
theorem ret2v {v x : Value} {a b : Int} (h0 : v = x) (h1 : a = b) : Ending.returned (.tuple #[v, .int .i64 a]) = .returned (.tuple #[x, .int .i64 b]) := by rw [h0, h1]

/-- An inode's numbers by a function. -/
def Nd.ofF (f : Nat → Int) : Nd := ⟨f 0, f 1, f 2, f 3, f 4, f 5, f 6, f 7, f 8, f 9, f 10⟩
def arr11 (f : Nat → Int) : Array Value := #[.int .i64 (f 0), .int .i64 (f 1), .int .i64 (f 2), .int .i64 (f 3), .int .i64 (f 4), .int .i64 (f 5), .int .i64 (f 6), .int .i64 (f 7), .int .i64 (f 8), .int .i64 (f 9), .int .i64 (f 10)]
theorem ofF_V (f : Nat → Int) : (Nd.ofF f).V = .agg (arr11 f) := rfl
theorem arr11_get (f : Nat → Int) (j : Nat) (hj : j < 11) : (arr11 f)[j]? = some (.int .i64 (f j)) := by
  rcases (show j = 0 ∨ j = 1 ∨ j = 2 ∨ j = 3 ∨ j = 4 ∨ j = 5 ∨ j = 6 ∨ j = 7 ∨ j = 8 ∨ j = 9 ∨ j = 10 by omega) with rfl | rfl | rfl | rfl | rfl | rfl | rfl | rfl | rfl | rfl | rfl <;> rfl
theorem arr11_ext {f g : Nat → Int} (h : ∀ j, j < 11 → f j = g j) : arr11 f = arr11 g := by
  unfold arr11
  rw [h 0 (by omega), h 1 (by omega), h 2 (by omega), h 3 (by omega), h 4 (by omega), h 5 (by omega), h 6 (by omega), h 7 (by omega), h 8 (by omega), h 9 (by omega), h 10 (by omega)]
theorem arr11_set (f g : Nat → Int) (m : Nat) (hm : m < 11) (h : ∀ j, j ≠ m → f j = g j) : (arr11 f).setIfInBounds m (.int .i64 (g m)) = arr11 g := by
  apply Array.ext_getElem?
  intro j
  by_cases hj : j < 11
  · rw [arr11_get g j hj, Array.getElem?_setIfInBounds]
    by_cases e : m = j
    · subst e
      rw [if_pos rfl, if_pos (show m < (arr11 f).size from hm)]
    · rw [if_neg e, arr11_get f j hj, h j (fun x => e x.symm)]
  · rw [Array.getElem?_eq_none (show (arr11 g).size ≤ j by show 11 ≤ j; omega), Array.getElem?_eq_none]
    rw [Array.size_setIfInBounds]
    show 11 ≤ j
    omega
/-- The first so many of them; the others 0. -/
def upto (f : Nat → Int) (m : Nat) : Nat → Int := fun j => if j < m then f j else 0
theorem upto_set (f : Nat → Int) (m : Nat) (hm : m < 11) : (arr11 (upto f m)).setIfInBounds m (.int .i64 (f m)) = arr11 (upto f (m + 1)) := by
  have := arr11_set (upto f m) (upto f (m + 1)) m hm (fun j hj => by unfold upto; by_cases h : j < m; rw [if_pos h, if_pos (by omega)]; rw [if_neg h, if_neg (by omega)])
  rwa [show upto f (m + 1) m = f m by unfold upto; rw [if_pos (by omega)]] at this
theorem upto_all (f : Nat → Int) : arr11 (upto f 11) = arr11 f := arr11_ext fun j hj => by unfold upto; rw [if_pos hj]
theorem upto_none (f : Nat → Int) : arr11 (upto f 0) = #[.int .i64 0, .int .i64 0, .int .i64 0, .int .i64 0, .int .i64 0, .int .i64 0, .int .i64 0, .int .i64 0, .int .i64 0, .int .i64 0, .int .i64 0] := rfl
def Nd.zero : Nd := ⟨0, 0, 0, 0, 0, 0, 0, 0, 0, 0, 0⟩
/-- What Decode tells: the inode, if these are its bytes. -/
def ndV (y : Nd) (s : ByteArray) : Value := if y.R ∧ (⟨(ndB y).toArray⟩ : ByteArray) = s then .tuple #[y.V, .int .i64 0] else .tuple #[Nd.zero.V, .int .i64 120]
theorem ndV_yes {y : Nd} {s : ByteArray} (h : y.R ∧ (⟨(ndB y).toArray⟩ : ByteArray) = s) : ndV y s = .tuple #[y.V, .int .i64 0] := if_pos h
theorem ndV_no {y : Nd} {s : ByteArray} (h : ¬ (y.R ∧ (⟨(ndB y).toArray⟩ : ByteArray) = s)) : ndV y s = .tuple #[Nd.zero.V, .int .i64 120] := if_neg h

/-- How many bytes each number has. -/
def fsz : Nat → Nat
  | 0 => 1
  | 1 => 1
  | 2 => 4
  | _ => 2
theorem fsz_ok (i : Nat) : fsz i = 1 ∨ fsz i = 2 ∨ fsz i = 4 ∨ fsz i = 8 := by
  unfold fsz
  split <;> omega
/-- The reader behind so many numbers. -/
def rst (s : ByteArray) : Nat → ByteArray × Nat
  | 0 => (s, 0)
  | i + 1 => ((rdF (fsz i) (rst s i).1 (rst s i).2).2.2.1, (rdF (fsz i) (rst s i).1 (rst s i).2).2.2.2)
/-- Each number that is read. -/
def rvl (s : ByteArray) (i : Nat) : Int := (rdF (fsz i) (rst s i).1 (rst s i).2).1
theorem rst_size (s : ByteArray) (i : Nat) : (rst s i).1.size ≤ s.size := by
  induction i with
  | zero => exact Nat.le_refl _
  | succ i ih => exact Nat.le_trans (rdF_size _ _ _) ih
end Go.Proofs.Ytmbfcnacoijmaaa.Cw
