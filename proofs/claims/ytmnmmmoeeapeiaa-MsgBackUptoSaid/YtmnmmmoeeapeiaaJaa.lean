/- What a writer and a reader of codec are in memory, and the small calls over them. Own work. -/
import Derived.Test.YtmnmmmoeeapeiaaProg
import Derived.WalkKit
import Derived.Below
import Derived.OwnWalk
import Derived.Laws.OwnMore
import Derived.Laws.MakeOwn
import Derived.Deep.QuietTactic
import Derived.BigQuiet
import Derived.Lib.ConvBytes
import Derived.Laws.BytesArg
import Derived.KernelRfl
import Derived.Outline
namespace Go.Proofs.Ytmnmmmoeeapeiaa.Cw
open Go.RowKit

/-- From w to W nothing is turned but the blocks in S; blocks may have come. -/
structure Fr (w W : World) (S : Nat → Prop) : Prop where
  os : W.os = w.os
  tape : W.tape = w.tape
  output : W.output = w.output
  size : w.heap.size ≤ W.heap.size
  block : ∀ i, i < w.heap.size → ¬ S i → W.heap[i]? = w.heap[i]?

theorem Fr.refl (w : World) (S : Nat → Prop) : Fr w w S := ⟨rfl, rfl, rfl, Nat.le_refl _, fun _ _ _ => rfl⟩
theorem Fr.trans {a b c : World} {S : Nat → Prop} (h : Fr a b S) (k : Fr b c S) : Fr a c S :=
  ⟨k.os.trans h.os, k.tape.trans h.tape, k.output.trans h.output, Nat.le_trans h.size k.size, fun i hi hs => (k.block i (Nat.lt_of_lt_of_le hi h.size) hs).trans (h.block i hi hs)⟩
theorem Fr.mono {a b : World} {S T : Nat → Prop} (h : Fr a b S) (k : ∀ i, i < a.heap.size → S i → T i) : Fr a b T := ⟨h.os, h.tape, h.output, h.size, fun i hi hs => h.block i hi (fun x => hs (k i hi x))⟩
theorem Fr.set {a b : World} {S : Nat → Prop} (h : Fr a b S) (p : Addr) (hp : p.block < a.heap.size → S p.block) (u : Value) : Fr a (b.setCell p u) S :=
  ⟨h.os, h.tape, h.output, by simpa [World.setCell] using h.size, fun i hi hs => by
    rw [Below.heap_setCell _ _ _ _ (fun e => by subst e; exact hs (hp hi))]
    exact h.block i hi hs⟩
theorem Fr.set1 (w : World) (g o : Nat) (u : Value) : Fr w (w.setCell ⟨g, o, none⟩ u) (fun i => i = g) := Fr.set (S := fun i => i = g) (Fr.refl w _) ⟨g, o, none⟩ (fun _ => rfl) u
theorem Fr.alloc {a b : World} {S : Nat → Prop} (h : Fr a b S) (o : Obj) : Fr a (b.alloc o) S :=
  ⟨h.os, h.tape, h.output, Nat.le_trans h.size (by simp), fun i hi hs => by
    rw [Below.heap_alloc _ _ _ (Nat.lt_of_lt_of_le hi h.size)]
    exact h.block i hi hs⟩
theorem Fr.drew {a b : World} {S : Nat → Prop} (h : Fr a b S) : Fr a b.drew S := ⟨h.os, h.tape, h.output, h.size, h.block⟩
theorem Fr.drewN {a b : World} {S : Nat → Prop} (h : Fr a b S) (n : Nat) : Fr a (b.drewN n) S := ⟨h.os, h.tape, h.output, h.size, h.block⟩
theorem Fr.grown {a b c : World} {S : Nat → Prop} {row : Option Nat} (h : Fr a b S) (hg : b.grownBy c row) (hr : ∀ k, row = some k → k < a.heap.size → S k) : Fr a c S :=
  ⟨hg.os.trans h.os, hg.tape.trans h.tape, hg.output.trans h.output, Nat.le_trans h.size hg.size, fun i hi hs => by
    rw [hg.block i (Nat.lt_of_lt_of_le hi h.size) (fun e => hs (hr i e.symm hi))]
    exact h.block i hi hs⟩
theorem Fr.below {a b : World} {S : Nat → Prop} {B : Nat} (h : Fr a b S) (hB : B ≤ a.heap.size) (hs : ∀ i, i < B → ¬ S i) : Below B a b :=
  ⟨h.os, h.tape, h.output, h.size, fun i hi => h.block i (by omega) (hs i hi)⟩
/-- What was there at a is as it was, behind what is done to what is newer. -/
theorem Fr.fresh {a b c : World} {S : Nat → Prop} (h : Fr a b (fun _ => False)) (k : Fr b c S) (hs : ∀ i, S i → a.heap.size ≤ i) : Fr a c (fun _ => False) :=
  ⟨k.os.trans h.os, k.tape.trans h.tape, k.output.trans h.output, Nat.le_trans h.size k.size, fun i hi _ => by
    rw [k.block i (Nat.lt_of_lt_of_le hi h.size) (fun x => by have := hs i x; omega)]
    exact h.block i hi (fun x => x)⟩
theorem Fr.at_ {a b : World} {S : Nat → Prop} (h : Fr a b S) {g : Nat} {o : Obj} (hg : a.heap[g]? = some o) (hs : ¬ S g) : b.heap[g]? = some o := by
  have : g < a.heap.size := (Array.getElem?_eq_some_iff.1 hg).1
  rw [h.block g this hs]
  exact hg

/-- A reader at block g: what is left, and what is wrong. -/
def Rd (w : World) (g : Nat) (s : ByteArray) (e : Nat) : Prop := w.heap[g]? = some (.cells #[.string s, .int .i64 e] 107 (0, 0))

theorem hid {p : Prop} (h : p) : Hid p := h

theorem cell_blk {w : World} {g : Nat} {cs : Array Value} {t : TypeId} (h : w.heap[g]? = some (.cells cs t (0, 0))) (k : Nat) : w.cell? ⟨g, k, none⟩ = cs[k]? := by
  unfold World.cell?
  rw [h]
  rfl
theorem free_blk {w : World} {g : Nat} {cs : Array Value} {t : TypeId} (h : w.heap[g]? = some (.cells cs t (0, 0))) (k : Nat) : w.frozen? ⟨g, k, none⟩ = false := by
  unfold World.frozen?
  rw [h]
  simp

theorem alloc_new (w : World) (o : Obj) : (w.alloc o).heap[w.heap.size]? = some o := by
  show (w.heap.push o)[w.heap.size]? = some o
  simp

theorem empty_of (s : ByteArray) (h : s.size = 0) : s.toList.isEmpty = true := by
  rw [ByteArray.toList_eq, List.isEmpty_iff_length_eq_zero, Array.length_toList]
  exact h
theorem full_of (s : ByteArray) (h : ¬ s.size = 0) : s.toList.isEmpty = false := by
  rw [← Bool.not_eq_true, ByteArray.toList_eq, List.isEmpty_iff_length_eq_zero, Array.length_toList]
  exact h

theorem set_blk {w : World} {g : Nat} {cs : Array Value} {t : TypeId} (h : w.heap[g]? = some (.cells cs t (0, 0))) (k : Nat) (u : Value) : (w.setCell ⟨g, k, none⟩ u).heap[g]? = some (.cells (cs.setIfInBounds k u) t (0, 0)) := by
  simp only [World.setCell, Array.getElem?_modify, h]
  simp
theorem blk_lt {w : World} {g : Nat} {o : Obj} (h : w.heap[g]? = some o) : g < w.heap.size := (Array.getElem?_eq_some_iff.1 h).1
theorem Rd.c0 {w : World} {g : Nat} {s : ByteArray} {e : Nat} (h : Rd w g s e) : w.cell? ⟨g, 0, none⟩ = some (.string s) := cell_blk h 0
theorem Rd.c1 {w : World} {g : Nat} {s : ByteArray} {e : Nat} (h : Rd w g s e) : w.cell? ⟨g, 1, none⟩ = some (.int .i64 e) := cell_blk h 1
theorem Rd.f0 {w : World} {g : Nat} {s : ByteArray} {e : Nat} (h : Rd w g s e) : w.frozen? ⟨g, 0, none⟩ = false := free_blk h 0
theorem Rd.f1 {w : World} {g : Nat} {s : ByteArray} {e : Nat} (h : Rd w g s e) : w.frozen? ⟨g, 1, none⟩ = false := free_blk h 1
theorem Rd.s0 {w : World} {g : Nat} {s : ByteArray} {e : Nat} (h : Rd w g s e) (s' : ByteArray) : Rd (w.setCell ⟨g, 0, none⟩ (.string s')) g s' e := (set_blk h 0 _).trans rfl
theorem Rd.s1 {w : World} {g : Nat} {s : ByteArray} {e : Nat} (h : Rd w g s e) (e' : Nat) : Rd (w.setCell ⟨g, 1, none⟩ (.int .i64 e')) g s e' := (set_blk h 1 _).trans rfl
theorem Rd.drew {w : World} {g : Nat} {s : ByteArray} {e : Nat} (h : Rd w g s e) : Rd w.drew g s e := h
theorem Rd.drewN {w : World} {g : Nat} {s : ByteArray} {e : Nat} (h : Rd w g s e) (n : Nat) : Rd (w.drewN n) g s e := h
theorem Rd.alloc {w : World} {g : Nat} {s : ByteArray} {e : Nat} (h : Rd w g s e) (o : Obj) : Rd (w.alloc o) g s e := (Below.heap_alloc _ _ _ (blk_lt h)).trans h
theorem Rd.fr {w W : World} {g : Nat} {s : ByteArray} {e : Nat} {S : Nat → Prop} (h : Rd w g s e) (k : Fr w W S) (hs : ¬ S g) : Rd W g s e := k.at_ h hs

theorem failed_some (w : World) (g : Nat) (s : ByteArray) (x : Nat) (h : Rd w g s x) :
    Calls Try.prog 67 #[.pointer (some ⟨g, 0, none⟩)] w fun e w' => e = .returned (.int .i64 x) ∧ w = w' := by
  have h1 := h.c1
  clear h
  go_enter Try.func67, Try.ntmps67
  go_wp2
  go_ret
  exact ⟨rfl, rfl⟩

theorem fail_calls (w : World) (g : Nat) (s : ByteArray) (x y : Nat) (h : Rd w g s x) :
    Calls Try.prog 69 #[.pointer (some ⟨g, 0, none⟩), .int .i64 y] w fun e w' => e = .returned (.int .i64 y) ∧ w.setCell ⟨g, 1, none⟩ (.int .i64 y) = w' := by
  have h1 := h.c1
  have f1 := h.f1
  clear h
  go_enter Try.func69, Try.ntmps69
  go_wp2
  go_ret
  exact ⟨rfl, rfl⟩
end Go.Proofs.Ytmnmmmoeeapeiaa.Cw

