/- The closure that Decode defers. Own work. -/
import Derived.Test.YtmnmmmoeeapeiaaJbf
import Derived.Defers
import Derived.Recover
import Derived.Deep.Cut
namespace Go.Proofs.Ytmnmmmoeeapeiaa.Cw
open Go.RowKit
set_option linter.unusedVariables false
set_option linter.unusedSimpArgs false

theorem oth1 {w : World} {b k e : Nat} {v : Value} {o : Option Obj} (hne : ¬ e = b) (h : w.heap[e]? = o) : (w.setCell ⟨b, k, none⟩ v).heap[e]? = o := (Below.heap_setCell _ _ _ _ (fun x => hne x)).trans h
theorem set6 {w : World} {b : Nat} {t : TypeId} {o0 o1 o2 o3 o4 o5 : Value} (v0 v1 v2 v3 v4 v5 : Value) (h : w.heap[b]? = some (.cells #[o0, o1, o2, o3, o4, o5] t (0, 0))) :
    ((((((w.setCell ⟨b, 0, none⟩ v0).setCell ⟨b, 1, none⟩ v1).setCell ⟨b, 2, none⟩ v2).setCell ⟨b, 3, none⟩ v3).setCell ⟨b, 4, none⟩ v4).setCell ⟨b, 5, none⟩ v5).heap[b]? = some (.cells #[v0, v1, v2, v3, v4, v5] t (0, 0)) := by
  have g0 := set_blk h 0 v0
  have g1 := set_blk g0 1 v1
  have g2 := set_blk g1 2 v2
  have g3 := set_blk g2 3 v3
  have g4 := set_blk g3 4 v4
  have g5 := set_blk g4 5 v5
  simp only [List.setIfInBounds_toArray, List.set_cons_zero, List.set_cons_succ] at g5
  exact g5
theorem catch_idle (w : World) (mb eb : Nat) :
    CallsD Try.prog 24 #[.pointer (some ⟨mb, 0, none⟩), .pointer (some ⟨eb, 0, none⟩)] .returning w fun e u' w' => e = .returned (.tuple #[]) ∧ u' = .returning ∧ w' = w := by
  refine callsD_of_wpS Try.func24 rfl fun c₀ cs hu => ?_
  apply wpS_seq
  apply wpS_region
  simp [wpOpsS, go_sem, recoverD, hu, Try.ntmps24, Exit.thenS]
  rw [show (#[.pointer (some ⟨mb, 0, none⟩), .pointer (some ⟨eb, 0, none⟩)] ++ ((Array.replicate 15 undef).setIfInBounds 3 Value.nilIface).setIfInBounds 0 Value.nilIface : Array Value) = #[.pointer (some ⟨mb, 0, none⟩), .pointer (some ⟨eb, 0, none⟩), .nilIface, undef, undef, .nilIface, undef, undef, undef, undef, undef, undef, undef, undef, undef, undef, undef] from rfl]
  refine wpS_of_wp ?_
  go_wp2_with fail
  cases c₀
  simp only at hu
  subst hu
  exact ⟨rfl, _, rfl, _, results_none rfl _ _ _, rfl, rfl, rfl⟩
set_option maxRecDepth 100000 in
set_option maxHeartbeats 1600000 in
theorem catch_brk (w : World) (mb eb : Nat) (k v n a c : Int) (u : Value) (x : Int) (hm : w.heap[mb]? = some (.cells #[.int .i64 k, .int .i64 v, .int .i64 n, .int .i64 a, .int .i64 c, u] 24 (0, 0))) (he : w.heap[eb]? = some (.cells #[.int .i64 x] 25 (0, 0))) (hne : ¬ mb = eb) :
    CallsD Try.prog 24 #[.pointer (some ⟨mb, 0, none⟩), .pointer (some ⟨eb, 0, none⟩)] (.panicking brk) w fun e u' w' => e = .returned (.tuple #[]) ∧ u' = .panicking [{ v := .iface 62 (.agg #[]), recovered := true }] ∧ w'.heap[mb]? = some (.cells #[.int .i64 0, .int .i64 0, .int .i64 0, .int .i64 0, .int .i64 0, .slice none 0 0] 24 (0, 0)) ∧ w'.heap[eb]? = some (.cells #[.int .i64 4] 25 (0, 0)) ∧ Fr w w' (fun i => i = mb ∨ i = eb) := by
  unfold brk
  refine callsD_of_wpS Try.func24 rfl fun c₀ cs hu => ?_
  apply wpS_seq
  apply wpS_region
  simp [wpOpsS, go_sem, recoverD, hu, Try.ntmps24, Exit.thenS]
  rw [show (#[.pointer (some ⟨mb, 0, none⟩), .pointer (some ⟨eb, 0, none⟩)] ++ ((Array.replicate 15 undef).setIfInBounds 3 (Value.iface 62 (Value.agg #[]))).setIfInBounds 0 (Value.iface 62 (Value.agg #[])) : Array Value) = #[.pointer (some ⟨mb, 0, none⟩), .pointer (some ⟨eb, 0, none⟩), (Value.iface 62 (Value.agg #[])), undef, undef, (Value.iface 62 (Value.agg #[])), undef, undef, undef, undef, undef, undef, undef, undef, undef, undef, undef] from rfl]
  refine wpS_of_wp ?_
  have hta : ∀ (w : World) (T : TypeId), (Instr.typeAssert (.iface 62 (.agg #[])) T 62 true).run Try.prog w = .ok (.tuple #[.agg #[], .bool true]) w := fun _ _ => rfl
  have hlm := blk_lt hm
  have hle := blk_lt he
  replace hm := (Below.heap_alloc w (.cells #[] 62) mb hlm).trans hm
  replace he := (Below.heap_alloc w (.cells #[] 62) eb hle).trans he
  go_upto_region 5 with fail
  have hF := (Fr.refl w (fun i => i = mb ∨ i = eb)).alloc (.cells #[] 62)
  generalize w.alloc (.cells #[] 62) = w1 at *
  have c0 := cell_blk hm 0
  have c1 := cell_blk hm 1
  have c2 := cell_blk hm 2
  have c3 := cell_blk hm 3
  have c4 := cell_blk hm 4
  have c5 := cell_blk hm 5
  have f0 := free_blk hm 0
  have f1 := free_blk hm 1
  have f2 := free_blk hm 2
  have f3 := free_blk hm 3
  have f4 := free_blk hm 4
  have f5 := free_blk hm 5
  have e0 := cell_blk he 0
  have g0 := free_blk he 0
  simp only [List.getElem?_toArray, List.getElem?_cons_zero, List.getElem?_cons_succ] at c0 c1 c2 c3 c4 c5 e0
  go_wp2_with fail
  cases c₀
  refine ⟨rfl, _, rfl, _, results_none rfl _ _ _, rfl, rfl, ?_, ?_, ?_⟩
  · exact oth1 hne (set6 _ _ _ _ _ _ hm)
  · have hne2 : ¬ eb = mb := fun e => hne e.symm
    have he2 := oth1 (b := mb) (k := 5) (v := .slice none 0 0) hne2 (oth1 (b := mb) (k := 4) (v := .int .i64 0) hne2 (oth1 (b := mb) (k := 3) (v := .int .i64 0) hne2 (oth1 (b := mb) (k := 2) (v := .int .i64 0) hne2 (oth1 (b := mb) (k := 1) (v := .int .i64 0) hne2 (oth1 (b := mb) (k := 0) (v := .int .i64 0) hne2 he)))))
    exact (set_blk he2 0 _).trans rfl
  · exact ((((((hF.set _ (fun _ => .inl rfl) _).set _ (fun _ => .inl rfl) _).set _ (fun _ => .inl rfl) _).set _ (fun _ => .inl rfl) _).set _ (fun _ => .inl rfl) _).set _ (fun _ => .inl rfl) _).set _ (fun _ => .inr rfl) _
end Go.Proofs.Ytmnmmmoeeapeiaa.Cw

