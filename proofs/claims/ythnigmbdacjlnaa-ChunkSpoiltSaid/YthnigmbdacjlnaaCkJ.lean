/- A collector's Add. Own work. -/
import Derived.Test.YthnigmbdacjlnaaCkI
import Derived.Deep.Cut
import Derived.Deep.RegionLaw
import Derived.Deep.RegionHeld3
namespace Go.Proofs.Ythnigmbdacjlnaa.Cw
open Go.RowKit
set_option linter.unusedVariables false
set_option linter.unusedSimpArgs false

/-- What Add answers, and what is gathered then. -/
def adE (L : List Ck) (c : Ck) : Int := if ckB c = false then 4 else match L.head? with | some f => if f.d ≠ c.d ∨ f.t ≠ c.t then 7 else 0 | none => 0
def adB (L : List Ck) (c : Ck) : Bool := decide (adE L c = 0) && (hs L c.n).isNone
def adL (L : List Ck) (c : Ck) : List Ck := if adB L c = true then L ++ [c] else L

/-- What Add leaves. -/
def AdP (w : World) (g b : Nat) (r : Bool) (x : Int) (M : List Ck) (e : Ending) (w' : World) : Prop := e = .returned (.tuple #[.bool r, .int .i64 x]) ∧ ∃ f', Col w' g b f' M ∧ Fr w w' (fun i => i = g ∨ i = b)
theorem AdP.stay {w w' : World} {g b : Nat} {f : Ck} {L : List Ck} {x : Int} (h : Col w g b f L) (hf : Fr w w' (fun _ => False)) : AdP w g b false x L (.returned (.tuple #[.bool false, .int .i64 x])) w' :=
  ⟨rfl, f, h.fr hf, hf.mono (fun _ _ x => x.elim)⟩

theorem add_no (w : World) (g b : Nat) (f c : Ck) (L : List Ck) (h : Col w g b f L) (hc : ckB c = false) :
    Calls Try.prog 15 #[.pointer (some ⟨g, 0, none⟩), c.V] w (AdP w g b false 4 L) := by
  have CC := hid (fun (W : World) => check_calls W c)
  have he : ckE c = 4 := by unfold ckE; rw [hc]; rfl
  rw [he] at CC
  obtain ⟨d, t, n, s, q⟩ := c
  unfold Ck.V at *
  simp only at CC ⊢
  clear hc he
  go_enter Try.func15, Try.ntmps15
  go_wp2_with fail
  refine (CC.out _).mono ?_
  rintro e w1 ⟨rfl, hf1⟩
  go_wp2_with fail
  go_ret2
  exact AdP.stay h (((Fr.refl w _).alloc _).trans hf1)

theorem set5 {w : World} {b : Nat} {t : TypeId} {o0 o1 o2 o3 o4 o5 : Value} (v0 v1 v2 v3 v4 : Value) (h : w.heap[b]? = some (.cells #[o0, o1, o2, o3, o4, o5] t (0, 0))) :
    (((((w.setCell ⟨b, 0, none⟩ v0).setCell ⟨b, 1, none⟩ v1).setCell ⟨b, 2, none⟩ v2).setCell ⟨b, 3, none⟩ v3).setCell ⟨b, 4, none⟩ v4).heap[b]? = some (.cells #[v0, v1, v2, v3, v4, o5] t (0, 0)) := by
  have g0 := set_blk h 0 v0
  have g1 := set_blk g0 1 v1
  have g2 := set_blk g1 2 v2
  have g3 := set_blk g2 3 v3
  have g4 := set_blk g3 4 v4
  simp only [List.setIfInBounds_toArray, List.set_cons_zero, List.set_cons_succ] at g4
  exact g4
theorem fr5 {w : World} {b : Nat} (v0 v1 v2 v3 v4 : Value) : Fr w (((((w.setCell ⟨b, 0, none⟩ v0).setCell ⟨b, 1, none⟩ v1).setCell ⟨b, 2, none⟩ v2).setCell ⟨b, 3, none⟩ v3).setCell ⟨b, 4, none⟩ v4) (fun i => i = b) := by
  have n : ∀ k : Nat, (⟨b, k, none⟩ : Addr).block < w.heap.size → (fun i => i = b) (⟨b, k, none⟩ : Addr).block := fun k _ => rfl
  exact (((((Fr.refl w (fun i => i = b)).set _ (n 0) v0).set _ (n 1) v1).set _ (n 2) v2).set _ (n 3) v3).set _ (n 4) v4

theorem Fr.drew0 {a b : World} {S : Nat → Prop} (h : Fr a.drew b S) : Fr a b S := ⟨h.os, h.tape, h.output, h.size, h.block⟩
/-- Behind the head of Add: the chunk in block p, the collector, its first chunk. -/
def Mid (w W : World) (g b p : Nat) (f c : Ck) (L : List Ck) : Prop := Fr w W (fun i => i = g) ∧ W.heap[p]? = some (.cells c.cells.toArray 24 (0, 0)) ∧ W.heap[g]? = some (.cells #[.int .i64 f.d, .int .i64 f.t, .int .i64 f.n, .string f.s, .int .i64 f.c, .map (some b)] 68 (0, 0)) ∧ Mp W b L
set_option maxRecDepth 100000 in
set_option maxHeartbeats 3200000 in
theorem add_first (w : World) (g b : Nat) (f c : Ck) (h : Col w g b f []) (hc : ckB c = true) :
    Calls Try.prog 15 #[.pointer (some ⟨g, 0, none⟩), c.V] w (AdP w g b true 0 [c]) := by
  obtain ⟨d, t, n, s, q⟩ := c
  have CC := hid (fun (W : World) => check_calls W ⟨d, t, n, s, q⟩)
  have he : ckE ⟨d, t, n, s, q⟩ = 0 := by unfold ckE; rw [hc]; rfl
  rw [he] at CC
  unfold Ck.V at *
  simp only at CC ⊢
  clear hc he
  go_enter Try.func15, Try.ntmps15
  go_wp2_with fail
  refine (CC.out _).mono ?_
  rintro e w1 ⟨rfl, hf1⟩
  have hA := ((Fr.refl w (fun _ => False)).alloc (.cells #[.int .i64 d, .int .i64 t, .int .i64 n, .string s, .int .i64 q] 24)).trans hf1
  have hx1 := hf1.at_ (alloc_new w (.cells #[.int .i64 d, .int .i64 t, .int .i64 n, .string s, .int .i64 q] 24)) (fun x => x)
  have hC1 := h.fr hA
  have hpg : w.heap.size ≠ g := by
    have := (Array.getElem?_eq_some_iff.1 h.blk).1
    omega
  have HW := hid h
  clear hf1 h
  have x0 := cell_blk hx1 0
  have x1 := cell_blk hx1 1
  have x2 := cell_blk hx1 2
  have x3 := cell_blk hx1 3
  have x4 := cell_blk hx1 4
  simp only [List.getElem?_toArray, List.getElem?_cons_zero, List.getElem?_cons_succ] at x0 x1 x2 x3 x4
  have y0 := cell_blk hC1.blk 0
  have y1 := cell_blk hC1.blk 1
  have y2 := cell_blk hC1.blk 2
  have y3 := cell_blk hC1.blk 3
  have y4 := cell_blk hC1.blk 4
  have y5 := cell_blk hC1.blk 5
  have z0 := free_blk hC1.blk 0
  have z1 := free_blk hC1.blk 1
  have z2 := free_blk hC1.blk 2
  have z3 := free_blk hC1.blk 3
  have z4 := free_blk hC1.blk 4
  simp only [List.getElem?_toArray, List.getElem?_cons_zero, List.getElem?_cons_succ] at y0 y1 y2 y3 y4 y5
  go_upto_region 8 with (at_len; refine wpList_len25 _ rfl (.tmp 19) rfl b [] (by rfl) hC1.mp ?_)
  have hb := set5 (.int .i64 d) (.int .i64 t) (.int .i64 n) (.string s) (.int .i64 q) hC1.blk
  have hF := fr5 (w := w1) (b := g) (.int .i64 d) (.int .i64 t) (.int .i64 n) (.string s) (.int .i64 q)
  have hx2 := hF.at_ hx1 hpg
  have hM2 := hC1.mp.fr hF (fun e => hC1.ne e.symm)
  clear x0 x1 x2 x3 x4 y0 y1 y2 y3 y4 y5 z0 z1 z2 z3 z4
  generalize ((((w1.setCell ⟨g, 0, none⟩ (.int .i64 d)).setCell ⟨g, 1, none⟩ (.int .i64 t)).setCell ⟨g, 2, none⟩ (.int .i64 n)).setCell ⟨g, 3, none⟩ (.string s)).setCell ⟨g, 4, none⟩ (.int .i64 q) = w2 at *
  generalize w.heap.size = p at *
  have x0 := cell_blk hx2 0
  have x1 := cell_blk hx2 1
  have x2 := cell_blk hx2 2
  have x3 := cell_blk hx2 3
  have y0 := cell_blk hb 0
  have y1 := cell_blk hb 1
  have y5 := cell_blk hb 5
  simp only [List.getElem?_toArray, List.getElem?_cons_zero, List.getElem?_cons_succ] at x0 x1 x2 x3 y0 y1 y5
  have e1 : (d != d) = false := by simp
  have e2 : (t != t) = false := by simp
  have HNE := hid hC1.ne
  have hno : hs [] n = none := rfl
  have HA := hid hA
  have HPG := hid hpg
  clear hA hpg hC1 hx1
  go_quiet (fail)
  have hx3 : (w2.drewN nq).heap[p]? = some (.cells #[.int .i64 d, .int .i64 t, .int .i64 n, .string s, .int .i64 q] 24 (0, 0)) := hx2
  have hb3 : (w2.drewN nq).heap[g]? = some (.cells #[.int .i64 d, .int .i64 t, .int .i64 n, .string s, .int .i64 q, .map (some b)] 68 (0, 0)) := hb
  have hM3 : Mp (w2.drewN nq) b [] := hM2
  have hF3 := hF.drewN nq
  clear hx2 hb hM2 hF x0 x1 x2 x3 y0 y1 y5
  generalize w2.drewN nq = w3 at *
  have x0 := cell_blk hx3 0
  have x1 := cell_blk hx3 1
  have x2 := cell_blk hx3 2
  have x3 := cell_blk hx3 3
  have y5 := cell_blk hb3 5
  simp only [List.getElem?_toArray, List.getElem?_cons_zero, List.getElem?_cons_succ] at x0 x1 x2 x3 y5
  have hlk : ∀ k, (Instr.lookup 66 (.map (some b)) (.int .i64 n) true).run Try.prog (w3.drewN k) = .ok (.tuple #[.string ⟨#[]⟩, .bool false]) (w3.drewN k) := fun k => by
    have := (Mp.lookup (w := w3.drewN k) hM3 n).1
    rw [hno] at this
    exact this
  have hlk0 : (Instr.lookup 66 (.map (some b)) (.int .i64 n) true).run Try.prog w3 = .ok (.tuple #[.string ⟨#[]⟩, .bool false]) w3 := hlk 0
  go_wp2_with fail
  go_quiet (fail)
  have hx4 : (w3.drewN nq).heap[p]? = some (.cells #[.int .i64 d, .int .i64 t, .int .i64 n, .string s, .int .i64 q] 24 (0, 0)) := hx3
  have hb4 : (w3.drewN nq).heap[g]? = some (.cells #[.int .i64 d, .int .i64 t, .int .i64 n, .string s, .int .i64 q, .map (some b)] 68 (0, 0)) := hb3
  have hM4 : Mp (w3.drewN nq) b [] := hM3
  have hF4 := hF3.drewN nq
  clear hx3 hb3 hM3 hF3 x0 x1 x2 x3 y5 hlk hlk0
  generalize w3.drewN nq = w4 at *
  have x0 := cell_blk hx4 0
  have x1 := cell_blk hx4 1
  have x2 := cell_blk hx4 2
  have x3 := cell_blk hx4 3
  have y5 := cell_blk hb4 5
  simp only [List.getElem?_toArray, List.getElem?_cons_zero, List.getElem?_cons_succ] at x0 x1 x2 x3 y5
  obtain ⟨w5, hup, hM5, hF5⟩ := Mp.update (w := w4.drew) hM4 ⟨d, t, n, s, q⟩ hno
  have hup : (Instr.mapUpdate 66 (.map (some b)) (.int .i64 n) (.string s)).run Try.prog w4.drew = .ok () w5 := hup
  have hb5 := hF5.at_ (a := w4.drew) hb4 HNE.out
  go_wp2_with fail
  go_region
  all_goals go_wp2_with fail
  all_goals go_ret2
  all_goals exact ⟨rfl, ⟨d, t, n, s, q⟩, ⟨hb5, hM5, fun _ => rfl⟩, ((HA.out.mono (fun _ _ x => x.elim)).trans (hF4.mono (fun _ _ x => .inl x))).trans (hF5.drew0.mono (fun _ _ x => .inr x))⟩
end Go.Proofs.Ythnigmbdacjlnaa.Cw
