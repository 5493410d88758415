/- A map of chunks' texts by their numbers: the laws that a walk needs. A collector in memory. Own work. -/
import Derived.Test.YthnigmbdacjlnaaCkH
import Derived.MapKept
import Derived.ChangeMaps4
import Derived.Maps.OwnSet
import Derived.Maps.OwnOps
namespace Go.Proofs.Ythnigmbdacjlnaa.Cw
open Go.RowKit
open Go.ChangeMaps (setBlock)
set_option linter.unusedVariables false
set_option linter.unusedSimpArgs false

/-- The text of the chunk of a number. -/
def hs (L : List Ck) (n : Int) : Option ByteArray := (L.find? (fun c => c.n == n)).map (·.s)
theorem hs_none {L : List Ck} {n : Int} (h : ∀ c ∈ L, c.n ≠ n) : hs L n = none := by
  unfold hs
  rw [List.find?_eq_none.2 (fun c hc => by simpa using h c hc)]
  rfl
theorem hs_some {L : List Ck} (hn : (L.map (·.n)).Nodup) {j : Nat} {c : Ck} (hj : L[j]? = some c) : hs L c.n = some c.s := by
  unfold hs
  induction L generalizing j with
  | nil => cases hj
  | cons x r ih =>
    rw [List.map_cons, List.nodup_cons] at hn
    cases j with
    | zero =>
      simp only [List.getElem?_cons_zero, Option.some.injEq] at hj
      subst hj
      rw [List.find?_cons_of_pos (by simp)]
      rfl
    | succ j =>
      rw [List.getElem?_cons_succ] at hj
      have hne : ¬ x.n = c.n := fun e => hn.1 (by rw [e]; exact List.mem_map.2 ⟨c, List.mem_of_getElem? hj, rfl⟩)
      rw [List.find?_cons_of_neg (by simpa using hne)]
      exact ih hn.2 hj

def ents (L : List Ck) : List (Value × Value) := L.map (fun c => (Value.int .i64 c.n, Value.string c.s))
/-- A map at block b: the texts of these chunks by their numbers. -/
def Mp (w : World) (b : Nat) (L : List Ck) : Prop := ∃ es clock, w.heap[b]? = some (.map es clock) ∧ es.toList.map (fun e => (e.key, e.val)) = ents L ∧ (L.map (·.n)).Nodup
theorem Mp.fr {w w' : World} {b : Nat} {L : List Ck} {S : Nat → Prop} (h : Mp w b L) (hf : Fr w w' S) (hs : ¬ S b) : Mp w' b L := by
  obtain ⟨es, clock, h1, h2⟩ := h
  exact ⟨es, clock, hf.at_ h1 hs, h2⟩

theorem Mp.find {w : World} {b : Nat} {L : List Ck} {es : Array MapEntry} (hk : es.toList.map (fun e => (e.key, e.val)) = ents L) (hn : (L.map (·.n)).Nodup) (n : Int) (W : World) :
    ((Instr.findKey 3 (.int .i64 n) es.toList).run Try.prog W = .ok none W ∧ hs L n = none ∧ n ∉ L.map (·.n)) ∨ ∃ j s, (Instr.findKey 3 (.int .i64 n) es.toList).run Try.prog W = .ok (some (j, .string s)) W ∧ hs L n = some s := by
  have hget : ∀ (j : Nat) (e : MapEntry), es.toList[j]? = some e → ∃ c, L[j]? = some c ∧ e.key = .int .i64 c.n ∧ e.val = .string c.s := by
    intro j e he
    have h1 : (es.toList.map (fun e => (e.key, e.val)))[j]? = some (e.key, e.val) := by rw [List.getElem?_map, he]; rfl
    rw [hk] at h1
    unfold ents at h1
    rw [List.getElem?_map] at h1
    cases hc : L[j]? with
    | none => rw [hc] at h1; cases h1
    | some c =>
      rw [hc] at h1
      injection h1 with h1
      injection h1 with h1 h2
      exact ⟨c, rfl, h1.symm, h2.symm⟩
  have hks : ∀ x ∈ es.toList, MapKept.IsKey (.int .i64) x.key := by
    intro x hx
    obtain ⟨j, hj⟩ := List.getElem?_of_mem hx
    obtain ⟨c, _, h2, _⟩ := hget j x hj
    rw [h2]
    rfl
  rcases MapKept.findNow_spec (d := .int .i64) (k := .int .i64 n) rfl es.toList 0 hks with ⟨h1, h2⟩ | ⟨j, e, h1, h2, h3⟩
  · refine .inl ⟨MapKept.run_findKey Try.underlying3 h1, ?_, ?_⟩
    · refine hs_none (fun c hc e => ?_)
      obtain ⟨j, hj⟩ := List.getElem?_of_mem hc
      have hlt : j < es.toList.length := by
        have := congrArg List.length hk
        unfold ents at this
        rw [List.length_map, List.length_map] at this
        rw [this]
        exact (List.getElem?_eq_some_iff.1 hj).1
      obtain ⟨c', h4, h5, _⟩ := hget j _ (List.getElem?_eq_getElem hlt)
      rw [hj] at h4
      injection h4 with h4
      subst h4
      exact h2 _ (List.getElem_mem hlt) (by rw [h5, e])
    · intro hm
      obtain ⟨c, hc, e⟩ := List.mem_map.1 hm
      obtain ⟨j, hj⟩ := List.getElem?_of_mem hc
      have hlt : j < es.toList.length := by
        have := congrArg List.length hk
        unfold ents at this
        rw [List.length_map, List.length_map] at this
        rw [this]
        exact (List.getElem?_eq_some_iff.1 hj).1
      obtain ⟨c', h4, h5, _⟩ := hget j _ (List.getElem?_eq_getElem hlt)
      rw [hj] at h4
      injection h4 with h4
      subst h4
      exact h2 _ (List.getElem_mem hlt) (by rw [h5, e])
  · obtain ⟨c, h4, h5, h6⟩ := hget j e h2
    rw [h5] at h3
    injection h3 with _ h3
    subst h3
    refine .inr ⟨j, c.s, ?_, hs_some hn h4⟩
    have := MapKept.run_findKey (w := W) Try.underlying3 h1
    rw [Nat.zero_add, h6] at this
    exact this

theorem Mp.lookup {w : World} {b : Nat} {L : List Ck} (h : Mp w b L) (n : Int) :
    (Instr.lookup 66 (.map (some b)) (.int .i64 n) true).run Try.prog w = .ok (.tuple #[.string ((hs L n).getD ⟨#[]⟩), .bool (hs L n).isSome]) w ∧
    (Instr.lookup 66 (.map (some b)) (.int .i64 n) false).run Try.prog w = .ok (.string ((hs L n).getD ⟨#[]⟩)) w := by
  obtain ⟨es, clock, hb, hk, hn⟩ := h
  have hck := fun (e : Bool) => MapKept.run_checkKey (P := Try.prog) (w := w) (kt := 3) (k := .int .i64 n) Try.underlying3 rfl e 9999
  have hz := Try.zeroValue9 w
  rcases Mp.find (w := w) (b := b) hk hn n w with ⟨h1, h2, _⟩ | ⟨j, s, h1, h2⟩
  · rw [h2]
    constructor <;> simp [Instr.lookup, run_underlying Try.underlying66, MapKept.run_getObj_map hb, hck, h1, hz, Result.andThen]
  · rw [h2]
    constructor <;> simp [Instr.lookup, run_underlying Try.underlying66, MapKept.run_getObj_map hb, hck, h1, Result.andThen]

theorem Mp.update {w : World} {b : Nat} {L : List Ck} (h : Mp w b L) (c : Ck) (hc : hs L c.n = none) :
    ∃ w', (Instr.mapUpdate 66 (.map (some b)) (.int .i64 c.n) (.string c.s)).run Try.prog w = .ok () w' ∧ Mp w' b (L ++ [c]) ∧ Fr w w' (fun i => i = b) := by
  obtain ⟨es, clock, hb, hk, hn⟩ := h
  have hlt : b < w.heap.size := (Array.getElem?_eq_some_iff.1 hb).1
  have hck := MapKept.run_checkKey (P := Try.prog) (w := w) (kt := 3) (k := .int .i64 c.n) Try.underlying3 rfl false 9999
  rcases Mp.find (w := w) (b := b) hk hn c.n w with ⟨h1, h2, h3⟩ | ⟨j, s, h1, h2⟩
  · refine ⟨setBlock w b (.map (es.push ⟨.int .i64 c.n, .string c.s, clock⟩) (clock + 1)), ?_, ⟨es.push ⟨.int .i64 c.n, .string c.s, clock⟩, clock + 1, ?_, ?_, ?_⟩, ?_⟩
    · simp [Instr.mapUpdate, run_underlying Try.underlying66, MapKept.run_getObj_map hb, hck, h1, MapKept.run_setObj_map _ hb, Result.andThen, setBlock]
    · simp only [setBlock]
      rw [Array.getElem?_setIfInBounds_self_of_lt hlt]
    · unfold ents at *
      rw [Array.toList_push, List.map_append, hk, List.map_append]
      rfl
    · rw [List.map_append, List.nodup_append]
      refine ⟨hn, by simp, ?_⟩
      intro a ha b2 hb2
      simp at hb2
      subst hb2
      intro e
      exact h3 (by rw [← e]; exact ha)
    · exact ⟨rfl, rfl, rfl, by simp [setBlock], fun i _ hs => by
        simp only [setBlock]
        rw [Array.getElem?_setIfInBounds_ne (fun e => hs e.symm)]⟩
  · rw [hc] at h2
    cases h2

theorem Mp.len {w : World} {b : Nat} {L : List Ck} (h : Mp w b L) (ty : TypeId) : (Builtin.len_ #[66] ty #[.map (some b)]).run Try.prog w = .ok (.int .i64 (L.length : Nat)) w := by
  obtain ⟨es, clock, hb, hk, _⟩ := h
  have e1 : es.size = L.length := by
    have := congrArg List.length hk
    simpa [ents] using this
  simp [Builtin.len_, run_underlying Try.underlying66, MapKept.run_getObj_map hb, goInt, Result.andThen, e1]

theorem wpList_look25 (w : World) {ops : Array Oper} {rest : List Oper} {o : Oper} {a : Act} {Q : Exit → Act → World → Prop} (hg : o.guard = none) (m x : Operand) (ok : Bool) (hop : o.op = Op.lookup 66 m x ok)
    (b : Nat) (L : List Ck) (hm : a.eval m = .map (some b)) (hown : Mp w b L) (n : Int) (hx : a.eval x = .int .i64 n)
    (hK : wpList Try.prog ops Q rest (a.put o.dst (if ok then .tuple #[.string ((hs L n).getD ⟨#[]⟩), .bool (hs L n).isSome] else .string ((hs L n).getD ⟨#[]⟩))) w) : wpList Try.prog ops Q (o :: rest) a w := by
  refine wpList_plain hg fun K' hK' => ?_
  unfold Oper.wp
  cases ok
  · simp [execOp, hop, hm, hx, (hown.lookup n).2, Result.andThen]
    exact hK' _ _ hK
  · simp [execOp, hop, hm, hx, (hown.lookup n).1, Result.andThen]
    exact hK' _ _ hK
theorem wpList_len25 (w : World) {ops : Array Oper} {rest : List Oper} {o : Oper} {a : Act} {Q : Exit → Act → World → Prop}
    (hg : o.guard = none) (m : Operand) (hop : o.op = Op.call { callee := Callee.builtin Builtin.len, args := #[m], argTypes := #[66] }) (b : Nat) (L : List Ck) (hm : a.eval m = .map (some b)) (hown : Mp w b L)
    (hK : wpList Try.prog ops Q rest (a.put o.dst (.int .i64 (L.length : Nat))) w) : wpList Try.prog ops Q (o :: rest) a w := by
  refine wpList_plain hg fun K' hK' => ?_
  unfold Oper.wp
  simp [execOp, hop, resolve, invoke, builtin, hm, hown.len o.type, Result.andThen]
  exact hK' _ _ hK

/-- A collector at block g; its map at block b; f: its first chunk. -/
structure Col (w : World) (g b : Nat) (f : Ck) (L : List Ck) : Prop where
  blk : w.heap[g]? = some (.cells #[.int .i64 f.d, .int .i64 f.t, .int .i64 f.n, .string f.s, .int .i64 f.c, .map (some b)] 68 (0, 0))
  mp : Mp w b L
  hd : L ≠ [] → L.head? = some f
theorem Col.fr {w w' : World} {g b : Nat} {f : Ck} {L : List Ck} (h : Col w g b f L) (hf : Fr w w' (fun _ => False)) : Col w' g b f L := ⟨hf.at_ h.blk (fun x => x), h.mp.fr hf (fun x => x), h.hd⟩
theorem Col.ne {w : World} {g b : Nat} {f : Ck} {L : List Ck} (h : Col w g b f L) : g ≠ b := by
  intro e
  subst e
  obtain ⟨es, clock, h1, _⟩ := h.mp
  rw [h.blk] at h1
  cases h1
theorem Col.b_lt {w : World} {g b : Nat} {f : Ck} {L : List Ck} (h : Col w g b f L) : b < w.heap.size := by
  obtain ⟨es, clock, h1, _⟩ := h.mp
  exact (Array.getElem?_eq_some_iff.1 h1).1
def zCk : Ck := ⟨0, 0, 0, ⟨#[]⟩, 0⟩

theorem new25_calls (w : World) :
    Calls Try.prog 14 #[] w fun e w' => ∃ g b, e = .returned (.pointer (some ⟨g, 0, none⟩)) ∧ Col w' g b zCk [] ∧ Fr w w' (fun _ => False) ∧ w.heap.size ≤ g ∧ w.heap.size ≤ b := by
  have hmm := @run_makeMap Try.prog
  go_enter Try.func14, Try.ntmps14
  go_wp2
  go_ret
  refine ⟨w.heap.size + 1, w.heap.size, rfl, ⟨?_, ⟨#[], 0, ?_, rfl, by simp⟩, fun h => absurd rfl h⟩, ((Fr.refl w _).alloc _).alloc _, by omega, by omega⟩
  · have e : w.heap.size + 1 = (w.alloc (.map #[] 0)).heap.size := by simp
    rw [e]
    exact alloc_new _ _
  · exact (Below.heap_alloc _ _ _ (by simp)).trans (alloc_new w _)
end Go.Proofs.Ythnigmbdacjlnaa.Cw
