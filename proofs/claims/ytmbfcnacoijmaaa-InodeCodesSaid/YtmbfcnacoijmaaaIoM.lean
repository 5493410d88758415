/- A map whose keys are pairs of numbers, and whose values tell nothing: the laws that a walk needs. Own work. -/
import Derived.Test.YtmbfcnacoijmaaaIoA
import Derived.MapKept
import Derived.ChangeMaps4
import Derived.Maps.OwnSet
namespace Go.Proofs.Ytmbfcnacoijmaaa.Cw
open Go.RowKit
open Go.ChangeMaps (setBlock)
set_option linter.unusedVariables false
set_option linter.unusedSimpArgs false

/-- A key. -/
def kV (p : Int × Int) : Value := .agg #[.int .i64 p.1, .int .i64 p.2]
theorem kV_inj {p q : Int × Int} (h : kV p = kV q) : p = q := by
  unfold kV at h
  injection h with h
  have h1 : [Value.int .i64 p.1, Value.int .i64 p.2] = [Value.int .i64 q.1, Value.int .i64 q.2] := by simpa using h
  simp only [List.cons.injEq, Value.int.injEq, true_and, and_true] at h1
  exact Prod.ext h1.1 h1.2

theorem eqKey (d : Nat) (p q : Int × Int) (w : World) : (Op.equalIn (d + 2) 73 (kV p) (kV q)).run Try.prog w = .ok (decide (p = q)) w := by
  obtain ⟨a, b⟩ := p
  obtain ⟨c, e⟩ := q
  have u3 := Try.underlying3
  have z3 := Try.sizeOf3
  have a33 := Try.isAgg3
  unfold kV
  rw [show d + 2 = (d + 1) + 1 from rfl, Op.equalIn]
  simp only [Sem.run_bind, run_underlying Try.underlying73, Result.andThen_ok]
  simp only [Std.Legacy.Range.forIn_eq_forIn_range', Std.Legacy.Range.size, Nat.sub_zero, Nat.add_sub_cancel, Nat.div_one, List.range'_succ, List.range'_zero, List.forIn_cons, List.forIn_nil]
  go_simp
  by_cases h1 : a = c <;> by_cases h2 : b = e <;> simp [h1, h2]

theorem checkKey2 (em : Bool) (p : Int × Int) (w : World) : (Instr.checkKey em 10000 73 (kV p)).run Try.prog w = .ok () w := by
  have u3 := Try.underlying3
  have z3 := Try.sizeOf3
  have a33 := Try.isAgg3
  unfold kV
  rw [show (10000 : Nat) = 9998 + 1 + 1 from rfl, Instr.checkKey]
  simp only [Sem.run_bind, run_underlying Try.underlying73, Result.andThen_ok]
  simp only [Std.Legacy.Range.forIn_eq_forIn_range', Std.Legacy.Range.size, Nat.sub_zero, Nat.add_sub_cancel, Nat.div_one, List.range'_succ, List.range'_zero, List.forIn_cons, List.forIn_nil]
  have ck : ∀ (a : Int) (w : World), (Instr.checkKey em (9998 + 1) 3 (.int .i64 a)).run Try.prog w = .ok () w := fun a w => MapKept.run_checkKey u3 (by simp [MapKept.IsKey]) em 9998
  generalize (9998 + 1 : Nat) = n at *
  go_simp

theorem sameBits_kV (n : Nat) (p : Int × Int) : Instr.sameBits (n + 2) (kV p) (kV p) = true := by
  unfold kV
  simp [Instr.sameBits]
theorem stays2 (p : Int × Int) (w : World) : (Instr.keyThatStays (kV p) (kV p)).run Try.prog w = .ok (kV p) w := by
  unfold Instr.keyThatStays
  rw [if_pos (sameBits_kV 9998 p)]
  rfl

/-- The entries' keys. -/
def keysAre (es : List MapEntry) (ks : List (Int × Int)) : Prop := es.map (·.key) = ks.map kV

theorem findAsking2 (p : Int × Int) (w : World) : ∀ (es : List MapEntry) (ks : List (Int × Int)) (i : Nat), keysAre es ks →
    ((Instr.findAsking 73 (kV p) es i).run Try.prog w = .ok none w ∧ p ∉ ks) ∨ (∃ j e, (Instr.findAsking 73 (kV p) es i).run Try.prog w = .ok (some (i + j, e.val)) w ∧ es[j]? = some e ∧ e.key = kV p ∧ p ∈ ks)
  | [], ks, i, h => by
    have : ks = [] := by
      unfold keysAre at h
      simpa using h.symm
    subst this
    exact .inl ⟨rfl, by simp⟩
  | e :: es, [], i, h => by
    unfold keysAre at h
    simp at h
  | e :: es, q :: ks, i, h => by
    unfold keysAre at h
    simp only [List.map_cons, List.cons.injEq] at h
    have hq : (Op.equal 73 (kV p) e.key).run Try.prog w = .ok (decide (p = q)) w := by
      rw [h.1]
      exact eqKey 9998 p q w
    by_cases he : p = q
    · refine .inr ⟨0, e, ?_, rfl, by rw [h.1, he], by simp [he]⟩
      rw [Instr.findAsking]
      simp only [Sem.run_bind, hq, Result.andThen_ok, decide_eq_true he, if_true, Sem.run_pure, Nat.add_zero]
    · rcases findAsking2 p w es ks (i + 1) h.2 with ⟨h1, h2⟩ | ⟨j, e', h1, h2, h3, h4⟩
      · refine .inl ⟨?_, by simp [he, h2]⟩
        rw [Instr.findAsking]
        simp only [Sem.run_bind, hq, Result.andThen_ok, decide_eq_false he, Bool.false_eq_true, if_false]
        exact h1
      · refine .inr ⟨j + 1, e', ?_, by simpa using h2, h3, by simp [h4]⟩
        rw [Instr.findAsking]
        simp only [Sem.run_bind, hq, Result.andThen_ok, decide_eq_false he, Bool.false_eq_true, if_false]
        rw [h1, show i + 1 + j = i + (j + 1) by omega]

theorem findKey2 (p : Int × Int) (w : World) (es : List MapEntry) (ks : List (Int × Int)) (h : keysAre es ks) :
    ((Instr.findKey 73 (kV p) es).run Try.prog w = .ok none w ∧ p ∉ ks) ∨ (∃ j e, (Instr.findKey 73 (kV p) es).run Try.prog w = .ok (some (j, e.val)) w ∧ es[j]? = some e ∧ e.key = kV p ∧ p ∈ ks) := by
  cases es with
  | nil =>
    have : ks = [] := by
      unfold keysAre at h
      simpa using h.symm
    subst this
    refine .inl ⟨?_, by simp⟩
    simp [Instr.findKey, run_underlying Try.underlying73, Instr.findNow]
  | cons e es =>
    have hn : Instr.findNow (.array 2 3) (kV p) (e :: es) 0 = none := by
      unfold kV
      simp [Instr.findNow, Instr.sameNow]
    have hf : (Instr.findKey 73 (kV p) (e :: es)).run Try.prog w = (Instr.findAsking 73 (kV p) (e :: es)).run Try.prog w := by
      simp [Instr.findKey, run_underlying Try.underlying73, hn]
    rw [hf]
    rcases findAsking2 p w (e :: es) ks 0 h with h1 | ⟨j, e', h1, h2⟩
    · exact .inl h1
    · exact .inr ⟨j, e', by rw [h1, Nat.zero_add], h2⟩

def addK (ks : List (Int × Int)) (p : Int × Int) : List (Int × Int) := if p ∈ ks then ks else ks ++ [p]
/-- A map at block b with these keys. -/
def Mk (w : World) (b : Nat) (ks : List (Int × Int)) : Prop := ∃ es clock, w.heap[b]? = some (.map es clock) ∧ keysAre es.toList ks

theorem Mk.update {w : World} {b : Nat} {ks : List (Int × Int)} (h : Mk w b ks) (p : Int × Int) (val : Value) :
    ∃ w', (Instr.mapUpdate 72 (.map (some b)) (kV p) val).run Try.prog w = .ok () w' ∧ Mk w' b (addK ks p) ∧ Fr w w' (fun i => i = b) := by
  obtain ⟨es, clock, hb, hk⟩ := h
  have hlt : b < w.heap.size := (Array.getElem?_eq_some_iff.1 hb).1
  have hfr : ∀ o, Fr w (setBlock w b o) (fun i => i = b) := fun o => ⟨rfl, rfl, rfl, by simp [setBlock], fun i _ hs => by
    simp only [setBlock]
    rw [Array.getElem?_setIfInBounds_ne (fun e => hs e.symm)]⟩
  have hat : ∀ o, (setBlock w b o).heap[b]? = some o := fun o => by
    simp only [setBlock]
    rw [Array.getElem?_setIfInBounds_self_of_lt hlt]
  rcases findKey2 p w es.toList ks hk with ⟨h1, h2⟩ | ⟨j, e0, h1, h2, h3, h4⟩
  · refine ⟨setBlock w b (.map (es.push ⟨kV p, val, clock⟩) (clock + 1)), ?_, ⟨_, _, hat _, ?_⟩, hfr _⟩
    · simp [Instr.mapUpdate, run_underlying Try.underlying72, MapKept.run_getObj_map hb, checkKey2, h1, MapKept.run_setObj_map _ hb, Result.andThen, setBlock]
    · unfold keysAre addK at *
      rw [if_neg h2, Array.toList_push, List.map_append, hk]
      simp
  · have hj : es[j]? = some e0 := by simpa using h2
    refine ⟨setBlock w b (.map (es.modify j (fun e' => { e' with key := kV p, val := val })) clock), ?_, ⟨_, _, hat _, ?_⟩, hfr _⟩
    · simp [Instr.mapUpdate, run_underlying Try.underlying72, MapKept.run_getObj_map hb, checkKey2, h1, hj, h3, stays2, MapKept.run_setObj_map _ hb, Result.andThen, setBlock]
    · unfold keysAre addK at *
      rw [if_pos h4, ← hk, Array.toList_modify]
      apply List.ext_getElem?
      intro i
      rw [List.getElem?_map, List.getElem?_map, List.getElem?_modify]
      by_cases e : j = i
      · subst e
        rw [h2]
        simp [h3]
      · simp [e]

theorem Mk.len {w : World} {b : Nat} {ks : List (Int × Int)} (h : Mk w b ks) (ty : TypeId) : (Builtin.len_ #[72] ty #[.map (some b)]).run Try.prog w = .ok (.int .i64 (ks.length : Nat)) w := by
  obtain ⟨es, clock, hb, hk⟩ := h
  have e1 : es.size = ks.length := by
    have := congrArg List.length hk
    simpa using this
  simp [Builtin.len_, run_underlying Try.underlying72, MapKept.run_getObj_map hb, goInt, Result.andThen, e1]

theorem wpList_update2 (w : World) {ops : Array Oper} {rest : List Oper} {o : Oper} {a : Act} {Q : Exit → Act → World → Prop}
    (hg : o.guard = none) (m x v : Operand) (hop : o.op = Op.mapUpdate 72 m x v) (b : Nat) (ks : List (Int × Int)) (hm : a.eval m = .map (some b)) (hown : Mk w b ks) (p : Int × Int) (val : Value) (hx : a.eval x = kV p) (hv : a.eval v = val)
    (hK : ∀ w', Mk w' b (addK ks p) → Fr w w' (fun i => i = b) → wpList Try.prog ops Q rest (a.put o.dst undef) w') : wpList Try.prog ops Q (o :: rest) a w := by
  refine wpList_plain hg fun K' hK' => ?_
  obtain ⟨w', hrun, r1, r2⟩ := hown.update p val
  unfold Oper.wp
  simp [execOp, hop, hm, hx, hv, hrun, Result.andThen]
  exact hK' _ _ (hK w' r1 r2)
theorem wpList_len2 (w : World) {ops : Array Oper} {rest : List Oper} {o : Oper} {a : Act} {Q : Exit → Act → World → Prop}
    (hg : o.guard = none) (m : Operand) (hop : o.op = Op.call { callee := Callee.builtin Builtin.len, args := #[m], argTypes := #[72] }) (b : Nat) (ks : List (Int × Int)) (hm : a.eval m = .map (some b)) (hown : Mk w b ks)
    (hK : wpList Try.prog ops Q rest (a.put o.dst (.int .i64 (ks.length : Nat))) w) : wpList Try.prog ops Q (o :: rest) a w := by
  refine wpList_plain hg fun K' hK' => ?_
  unfold Oper.wp
  simp [execOp, hop, resolve, invoke, builtin, hm, hown.len o.type, Result.andThen]
  exact hK' _ _ hK
end Go.Proofs.Ytmbfcnacoijmaaa.Cw
