/- A writer in memory; a law on append that tells which block it is that now is owned. Own work. -/
import Derived.Test.YtmnmmmoeeapeiaaJaa
import Derived.Test.YtmnmmmoeeapeiaaJab
import Derived.ArgAppend
namespace Go.Proofs.Ytmnmmmoeeapeiaa.Cw
open Go.RowKit
set_option linter.unusedVariables false
set_option linter.unusedSimpArgs false

/-- Behind an append the row lies where it lay, or in a new block. -/
def Wn (w : World) (v v' : Value) : Prop := ∀ b, v'.ownBlock = some b → v.ownBlock = some b ∨ w.heap.size ≤ b

theorem Wn.refl (w : World) (v : Value) : Wn w v v := fun _ h => .inl h
theorem Wn.trans {w w1 : World} {v v1 v2 : Value} (h : Wn w v v1) (hs : w.heap.size ≤ w1.heap.size) (k : Wn w1 v1 v2) : Wn w v v2 := by
  intro b hb
  rcases k b hb with h1 | h1
  · exact h b h1
  · exact .inr (Nat.le_trans hs h1)

theorem run_append_own2 {P : Program} (w : World) (base : Nat) (t ty e : TypeId) (i : TypeInfo) (z : Value) (size bytes : Nat) (ht : P.underlying t = some (.slice e)) (hi : P.info? e = some i) (hz : i.zero = some z)
    (hsize : i.size = size) (hby : i.bytes = bytes) (hzs : z.cells.size = size) (hsz : 0 < size)
    (v : Value) (n : Nat) (xs : List Value) (hown : w.ownsRow base e size v n xs)
    (a : Addr) (m c : Nat) (news : List Value) (hl : news.length = m * size) (hnews : ∀ j u, news[j]? = some u → w.cell? (a.add j) = some u) (h1 : ∀ u ∈ news, u.oneCell' = true)
    (h63 : n + m ≤ maxLen) (hbytes : (n + m) * bytes ≤ 140737488355328) (hbase : base ≤ w.heap.size) :
    ∃ v' w', (Builtin.append_ #[t, t] ty #[v, .slice (some a) m c]).run P w = .ok v' w' ∧ w'.ownsRow base e size v' (n + m) (xs ++ news) ∧ w.grownBy w' v.ownBlock ∧ Wn w v v' := by
  obtain ⟨v', w', hr, h2, h3, _⟩ := run_append_own (P := P) w base t ty e i z size bytes ht hi hz hsize hby hzs hsz v n xs hown a m c news hl hnews h1 h63 hbytes hbase
  refine ⟨v', w', hr, h2, h3, ?_⟩
  intro b hb
  rcases hown.2 with ⟨rfl, rfl⟩ | ⟨g, cap, cur, rfl, hbg, hg, hnc, hcm, hcs, htake⟩
  · have hx : xs = [] := List.eq_nil_of_length_eq_zero (by simpa using hown.1)
    subst hx
    obtain ⟨v2, w2, hr2, k2, _, _⟩ := run_append_own (P := P) w w.heap.size t ty e i z size bytes ht hi hz hsize hby hzs hsz (.slice none 0 0) 0 [] (World.ownsRow_nil w _ e size) a m c news hl hnews h1 h63 hbytes (Nat.le_refl _)
    rw [hr] at hr2
    injection hr2 with e1 e2
    subst e1
    exact .inr (k2.lt b hb).1
  · by_cases hroom : n + m ≤ cap
    · subst hsize
      have hfit : n * i.size + news.length ≤ cur.size := by rw [hl, hcs, ← Nat.add_mul]; exact Nat.mul_le_mul_right _ hroom
      have hr2 := run_append_room (P := P) w t ty e i ht hi g n cap cur hg a m c news hl hnews h1 hroom hfit
      rw [hr] at hr2
      injection hr2 with e1 e2
      subst e1
      exact .inl hb
    · have holds : ∀ j u, xs[j]? = some u → w.cell? ((⟨g, 0, none⟩ : Addr).add j) = some u := hown.cells (g := g) rfl
      obtain ⟨v2, w2, hr2, k2, _⟩ := run_append_arg_grows (P := P) w t ty e i z size bytes ht hi hz hsize hby hzs hsz ⟨g, 0, none⟩ n cap xs hown.1 holds a m c news hl hnews (by omega) h63 hbytes
      rw [hr] at hr2
      injection hr2 with e1 e2
      subst e1
      exact .inr (k2.lt b hb).1

theorem wpList_append_own2 {P : Program} (w : World) {ops : Array Oper} {rest : List Oper} {o : Oper} {a : Act} {Q : Exit → Act → World → Prop} (hgd : o.guard = none) (s x : Operand) (t : TypeId)
    (ho : o.op = .call { callee := .builtin .append, args := #[s, x], argTypes := #[t, t] })
    (base : Nat) (e : TypeId) (i : TypeInfo) (z : Value) (size bytes : Nat) (ht : P.underlying t = some (.slice e)) (hi : P.info? e = some i) (hz : i.zero = some z)
    (hsize : i.size = size) (hby : i.bytes = bytes) (hzs : z.cells.size = size) (hsz : 0 < size)
    (v : Value) (n : Nat) (xs : List Value) (hs : a.eval s = v) (hown : w.ownsRow base e size v n xs)
    (ad : Addr) (m c : Nat) (news : List Value) (hx : a.eval x = .slice (some ad) m c) (hl : news.length = m * size) (hnews : ∀ j u, news[j]? = some u → w.cell? (ad.add j) = some u) (h1 : ∀ u ∈ news, u.oneCell' = true)
    (h63 : n + m ≤ maxLen) (hbytes : (n + m) * bytes ≤ 140737488355328) (hbase : base ≤ w.heap.size)
    (h : ∀ v' w', w'.ownsRow base e size v' (n + m) (xs ++ news) → w.grownBy w' v.ownBlock → Wn w v v' → wpList P ops Q rest (a.put o.dst v') w') : wpList P ops Q (o :: rest) a w := by
  refine wpList_plain hgd fun K hK => ?_
  obtain ⟨v', w', hr, h2, h3, h4⟩ := run_append_own2 (P := P) w base t o.type e i z size bytes ht hi hz hsize hby hzs hsz v n xs hown ad m c news hl hnews h1 h63 hbytes hbase
  unfold Oper.wp execOp
  simp only [ho, resolve, invoke, builtin, Sem.run_bind, Sem.run_pure, Result.andThen_ok, List.map_toArray, List.map_cons, List.map_nil, hs, hx, hr]
  exact hK _ _ (h v' w' h2 h3 h4)

/-- The cells of some bytes. -/
def cellsOf (bs : List UInt8) : List Value := bs.map fun b => Value.int .u8 b.toNat

/-- A writer at block g: the slice v is its own, and bears these bytes. -/
def Wr (w : World) (g : Nat) (v : Value) (bs : List UInt8) : Prop := w.heap[g]? = some (.cells #[v] 85 (0, 0)) ∧ w.ownsRow 0 5 1 v bs.length (cellsOf bs)

/-- What a writer's call may turn. -/
def WS (g : Nat) (v : Value) : Nat → Prop := fun i => i = g ∨ v.ownBlock = some i

theorem Fr.next {a b c : World} {g : Nat} {v v1 : Value} (h : Fr a b (WS g v)) (hn : Wn a v v1) (k : Fr b c (WS g v1)) : Fr a c (WS g v) :=
  ⟨k.os.trans h.os, k.tape.trans h.tape, k.output.trans h.output, Nat.le_trans h.size k.size, fun i hi hs => by
    rw [k.block i (Nat.lt_of_lt_of_le hi h.size) (by
      intro h2
      rcases h2 with h2 | h2
      · exact hs (.inl h2)
      · rcases hn i h2 with h3 | h3
        · exact hs (.inr h3)
        · omega)]
    exact h.block i hi hs⟩

theorem Wr.lt {w : World} {g : Nat} {v : Value} {bs : List UInt8} (h : Wr w g v bs) : g < w.heap.size := blk_lt h.1
theorem Wr.own_lt {w : World} {g : Nat} {v : Value} {bs : List UInt8} (h : Wr w g v bs) {b : Nat} (hb : v.ownBlock = some b) : b < w.heap.size := (h.2.lt b hb).2
theorem Wr.ne {w : World} {g : Nat} {v : Value} {bs : List UInt8} (h : Wr w g v bs) : v.ownBlock ≠ some g := by
  intro hb
  rcases h.2.2 with ⟨rfl, _⟩ | ⟨g', cap, cur, rfl, _, hg, _⟩
  · cases hb
  · injection hb with hb
    have h1 := h.1
    subst hb
    have h2 : some (Obj.cells #[.slice (some ⟨g', 0, none⟩) bs.length cap] 85 (0, 0)) = some (Obj.cells cur 5 (0, 0)) := h1.symm.trans hg
    injection h2 with h2
    injection h2 with _ h3
    exact absurd h3 (by decide)
theorem Wr.c0 {w : World} {g : Nat} {v : Value} {bs : List UInt8} (h : Wr w g v bs) : w.cell? ⟨g, 0, none⟩ = some v := cell_blk h.1 0
theorem Wr.f0 {w : World} {g : Nat} {v : Value} {bs : List UInt8} (h : Wr w g v bs) : w.frozen? ⟨g, 0, none⟩ = false := free_blk h.1 0
theorem Wr.drew {w : World} {g : Nat} {v : Value} {bs : List UInt8} (h : Wr w g v bs) : Wr w.drew g v bs := h
theorem Wr.alloc {w : World} {g : Nat} {v : Value} {bs : List UInt8} (h : Wr w g v bs) (o : Obj) : Wr (w.alloc o) g v bs := ⟨(Below.heap_alloc _ _ _ h.lt).trans h.1, h.2.alloc o⟩
theorem Wr.fr {w W : World} {g : Nat} {v : Value} {bs : List UInt8} {S : Nat → Prop} (h : Wr w g v bs) (k : Fr w W S) (hs : ¬ S g) (hs2 : ∀ b, v.ownBlock = some b → ¬ S b) : Wr W g v bs := by
  refine ⟨k.at_ h.1 hs, h.2.1, ?_⟩
  rcases h.2.2 with hn | ⟨g', cap, cur, rfl, hb, hg, hr⟩
  · exact .inl hn
  · exact .inr ⟨g', cap, cur, rfl, hb, k.at_ hg (hs2 g' rfl), hr⟩

theorem set_val (v u : Value) : (#[v] : Array Value).setIfInBounds 0 u = #[u] := rfl

/-- One append and the store behind it: the writer is one with more bytes. -/
theorem Wr.push {w w1 : World} {g : Nat} {v v' : Value} {bs news : List UInt8} (h : Wr w g v bs) (hown : w1.ownsRow 0 5 1 v' (bs.length + news.length) (cellsOf bs ++ cellsOf news)) (hg : w.grownBy w1 v.ownBlock) (hn : Wn w v v') :
    Wr (w1.setCell ⟨g, 0, none⟩ v') g v' (bs ++ news) ∧ Fr w (w1.setCell ⟨g, 0, none⟩ v') (WS g v) ∧ Wn w v v' := by
  have hb : w1.heap[g]? = some (.cells #[v] 85 (0, 0)) := (hg.block g h.lt (fun e => h.ne e.symm)).trans h.1
  refine ⟨⟨(set_blk hb 0 v').trans (by rw [set_val]), ?_⟩, ?_, hn⟩
  · have h2 := hown.kept (w' := w1.setCell ⟨g, 0, none⟩ v') (row := some g) ⟨rfl, rfl, rfl, by simp [World.setCell], fun k hk hne => Below.heap_setCell _ _ _ _ (fun e => hne (by rw [e]))⟩ (by
      right
      intro hv
      rcases hown.2 with ⟨rfl, _⟩ | ⟨g', cap, cur, rfl, _, hg', _⟩
      · cases hv
      · injection hv with hv
        subst hv
        have h3 : some (Obj.cells #[v] 85 (0, 0)) = some (Obj.cells cur 5 (0, 0)) := hb.symm.trans hg'
        injection h3 with h3
        injection h3 with _ h3
        exact absurd h3 (by decide))
    unfold cellsOf at *
    rw [List.length_append, List.map_append]
    exact h2
  · refine Fr.set ?_ _ (fun _ => .inl rfl) _
    exact (Fr.refl w _).grown hg (fun k hk _ => .inr hk)

theorem Wn.alloc {w : World} {v v' : Value} {o : Obj} (h : Wn (w.alloc o) v v') : Wn w v v' := by
  intro b hb
  rcases h b hb with h | h
  · exact .inl h
  · right
    have : (w.alloc o).heap.size = w.heap.size + 1 := by simp
    omega

/-- The writer's own cell in the world that an append leaves. -/
theorem Wr.grown_c0 {w w1 : World} {g : Nat} {v : Value} {bs : List UInt8} {o : Obj} (h : Wr w g v bs) (hg : (w.alloc o).grownBy w1 v.ownBlock) : w1.cell? ⟨g, 0, none⟩ = some v ∧ w1.frozen? ⟨g, 0, none⟩ = false := by
  have h2 := (h.alloc o)
  have hb : w1.heap[g]? = some (.cells #[v] 85 (0, 0)) := (hg.block g h2.lt (fun e => h.ne e.symm)).trans h2.1
  exact ⟨cell_blk hb 0, free_blk hb 0⟩

theorem Wr.step {w wr w1 : World} {g k : Nat} {v v1 v' : Value} {bs news : List UInt8} {o : Obj} (h : Wr wr g v1 bs) (hf : Fr w wr (WS g v)) (hw : Wn w v v1) (hk : k = bs.length + news.length)
    (hown : w1.ownsRow 0 5 1 v' k (cellsOf bs ++ cellsOf news)) (hg : (wr.alloc o).grownBy w1 v1.ownBlock) (hn : Wn (wr.alloc o) v1 v') :
    Wr (w1.setCell ⟨g, 0, none⟩ v') g v' (bs ++ news) ∧ Fr w (w1.setCell ⟨g, 0, none⟩ v') (WS g v) ∧ Wn w v v' := by
  subst hk
  obtain ⟨h1, h2, h3⟩ := (h.alloc o).push hown hg hn
  refine ⟨h1, ?_, hw.trans hf.size h3.alloc⟩
  exact hf.next hw (((Fr.refl wr _).alloc o).trans ⟨h2.os, h2.tape, h2.output, h2.size, fun i hi hs => h2.block i hi hs⟩)

/-- What is owned and not empty is a slice. -/
theorem own_shape {w : World} {base e size n : Nat} {v : Value} {xs : List Value} (h : w.ownsRow base e size v n xs) (hn : 0 < n) : ∃ g cap, v = .slice (some ⟨g, 0, none⟩) n cap := by
  rcases h.2 with ⟨_, rfl⟩ | ⟨g, cap, _, rfl, _⟩
  · omega
  · exact ⟨g, cap, rfl⟩

/-- The row of a writer that was made behind w0 lies behind w0. -/
def Nw (w0 : World) (v : Value) : Prop := ∀ k, v.ownBlock = some k → w0.heap.size ≤ k
theorem Nw.nil (w0 : World) : Nw w0 (.slice none 0 0) := by intro k hk; cases hk
theorem Nw.next {w0 w : World} {v v' : Value} (h : Nw w0 v) (hs : w0.heap.size ≤ w.heap.size) (k : Wn w v v') : Nw w0 v' := by
  intro b hb
  rcases k b hb with h1 | h1
  · exact h b h1
  · omega
theorem WS_fresh {w0 : World} {g : Nat} {v : Value} (hg : w0.heap.size ≤ g) (hv : Nw w0 v) : ∀ i, WS g v i → w0.heap.size ≤ i := by
  intro i hi
  rcases hi with hi | hi
  · omega
  · exact hv i hi
end Go.Proofs.Ytmnmmmoeeapeiaa.Cw

