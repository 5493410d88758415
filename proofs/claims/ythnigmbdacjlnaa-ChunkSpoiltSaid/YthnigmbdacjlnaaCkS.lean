/- The reference's collector: Add. Written by mkradd.py. Own work. -/
import Derived.Test.YthnigmbdacjlnaaCkR
import Derived.Deep.AppendLies
import Derived.Deep.RegionLaw
namespace Go.Proofs.Ythnigmbdacjlnaa.Cw
open Go.RowKit
set_option linter.unusedVariables false
set_option linter.unusedSimpArgs false

/-- What the reference's Add leaves. -/
def RdP (w : World) (N g : Nat) (r : Bool) (x : Int) (M : List Ck) (e : Ending) (w' : World) : Prop := e = .returned (.tuple #[.bool r, .int .i64 x]) ∧ ∃ v', Rc w' N g v' M ∧ Fr w w' (fun i => N ≤ i)
theorem RdP.stay {w w' : World} {N g : Nat} {v : Value} {L : List Ck} {x : Int} (h : Rc w N g v L) (hf : Fr w w' (fun _ => False)) : RdP w N g false x L (.returned (.tuple #[.bool false, .int .i64 x])) w' :=
  ⟨rfl, v, h.fr hf (fun _ _ x => x), hf.mono (fun _ _ x => x.elim)⟩
theorem Rc.ne {w : World} {N g : Nat} {v : Value} {L : List Ck} (h : Rc w N g v L) : v.ownBlock ≠ some g := by
  intro hb
  rcases h.2.2.2 with ⟨rfl, _⟩ | ⟨g', cap, cur, rfl, _, hg, _⟩
  · cases hb
  · injection hb with hb
    have hb : g' = g := hb
    subst hb
    have h2 := h.2.1.symm.trans hg
    injection h2 with h2
    injection h2 with _ h3
    exact absurd h3 (by decide)
theorem Rc.grown_c0 {W w4 : World} {N g : Nat} {v : Value} {L : List Ck} (h : Rc W N g v L) (hg : W.grownBy w4 v.ownBlock) : w4.heap[g]? = some (.cells #[v] 42 (0, 0)) ∧ w4.cell? ⟨g, 0, none⟩ = some v ∧ w4.frozen? ⟨g, 0, none⟩ = false := by
  have hb := (hg.block g h.lt (fun e => h.ne e.symm)).trans h.2.1
  exact ⟨hb, cell_blk hb 0, free_blk hb 0⟩
theorem Rc.push {W w4 : World} {N g : Nat} {v v' : Value} {L : List Ck} {x : Ck} (h : Rc W N g v L) (hown : w4.ownsRow N 35 5 v' (L.length + 1) (L.flatMap Ck.cells ++ x.cells)) (hg : W.grownBy w4 v.ownBlock) :
    Rc (w4.setCell ⟨g, 0, none⟩ v') N g v' (L ++ [x]) ∧ Fr W (w4.setCell ⟨g, 0, none⟩ v') (fun i => N ≤ i) := by
  have hb := (Rc.grown_c0 h hg).1
  refine ⟨⟨h.1, (set_blk hb 0 v').trans (by simp), ?_⟩, ?_⟩
  · rw [List.length_append, List.length_singleton, List.flatMap_append, List.flatMap_cons, List.flatMap_nil, List.append_nil]
    refine ⟨hown.1, ?_⟩
    rcases hown.2 with hn | ⟨g', cap, cur, rfl, h1, h2, h3⟩
    · exact .inl hn
    · refine .inr ⟨g', cap, cur, rfl, h1, ?_, h3⟩
      refine (Below.heap_setCell _ _ _ _ (fun e => ?_)).trans h2
      have e : g' = g := e
      subst e
      have h4 := hb.symm.trans h2
      injection h4 with h4
      injection h4 with _ h5
      exact absurd h5 (by decide)
  · refine Fr.set ((Fr.refl W _).grown hg (fun k hk _ => ?_)) _ (fun _ => h.1) _
    rcases h.2.2.2 with ⟨rfl, _⟩ | ⟨g', cap, cur, rfl, h1, _⟩
    · cases hk
    · injection hk with hk
      subst hk
      exact h1

set_option maxRecDepth 100000 in
set_option maxHeartbeats 3200000 in
theorem radd_no (w : World) (N g : Nat) (v : Value) (c : Ck) (L : List Ck) (h : Rc w N g v L) (hc : ckB c = false) :
    Calls Try.prog 16 #[.pointer (some ⟨g, 0, none⟩), c.V] w (RdP w N g false 4 L) := by
  have CC := hid (fun (W : World) => refRight25_calls W c)
  rw [hc] at CC
  obtain ⟨d, t, n, s, q⟩ := c
  unfold Ck.V at *
  simp only at CC ⊢
  clear hc
  go_enter Try.func16, Try.ntmps16
  go_wp2_with (go_at_call 12; refine (CC.out _).mono ?_; rintro e w1 ⟨rfl, hf1⟩)
  go_ret2
  exact RdP.stay h (Fr.trans (Fr.alloc (Fr.refl w (fun _ => False)) _) hf1)

set_option maxRecDepth 100000 in
set_option maxHeartbeats 3200000 in
theorem radd_first (w : World) (N g : Nat) (v : Value) (c : Ck) (h : Rc w N g v []) (hc : ckB c = true) :
    Calls Try.prog 16 #[.pointer (some ⟨g, 0, none⟩), c.V] w (RdP w N g true 0 ([] ++ [c])) := by
  have CC := hid (fun (W : World) => refRight25_calls W c)
  rw [hc] at CC
  obtain ⟨d, t, n, s, q⟩ := c
  obtain ⟨A, cap, rfl, h1, h2, hx⟩ := h.shape
  rw [List.length_nil] at *
  have HR := hid h
  have HL : Hid (([] : List Ck).length ≤ 2000) := hid (by simp)
  have HH : Hid (∀ W : World, Rc W N g (.slice A 0 cap) [] → Calls Try.prog 28 #[.pointer (some ⟨g, 0, none⟩), .int .i64 n] W fun e w' => e = .returned (.tuple #[.agg #[.int .i64 0, .int .i64 0, .int .i64 0, .string ⟨#[]⟩, .int .i64 0], .bool false]) ∧ Fr W w' (fun _ => False)) := hid (fun W hr => has_calls W N g _ [] n hr (Nat.zero_le _))
  clear h hx h1 h2
  unfold Ck.V at *
  simp only at CC ⊢
  clear hc
  go_enter Try.func16, Try.ntmps16
  go_upto_region 3 with (go_at_call 12; refine (CC.out _).mono ?_; rintro e w1 ⟨rfl, hf1⟩)
  have hA := Fr.trans (Fr.alloc (Fr.refl w (fun _ => False)) (.cells #[.int .i64 d, .int .i64 t, .int .i64 n, .string s, .int .i64 q] 35)) hf1
  have hx1 := hf1.at_ (alloc_new w (.cells #[.int .i64 d, .int .i64 t, .int .i64 n, .string s, .int .i64 q] 35)) (fun x => x)
  clear hf1
  have hR1 := HR.out.fr hA (fun _ _ x => x)
  have y0 := cell_blk hR1.2.1 0
  have x0 := cell_blk hx1 0
  have x1 := cell_blk hx1 1
  have x2 := cell_blk hx1 2
  simp only [List.getElem?_toArray, List.getElem?_cons_zero, List.getElem?_cons_succ] at y0 x0 x1 x2
  go_quiet (fail)
  have hA2 := hid (hA.drewN nq)
  have hR2 : Rc (w1.drewN nq) N g _ _ := hR1.fr ((Fr.refl w1 (fun _ => False)).drewN nq) (fun _ _ x => x)
  have hx2 : (w1.drewN nq).heap[w.heap.size]? = some (.cells #[.int .i64 d, .int .i64 t, .int .i64 n, .string s, .int .i64 q] 35 (0, 0)) := hx1
  generalize w1.drewN nq = w2 at *
  clear hx1 hA hR1 y0 x0 x1 x2
  have x2 := cell_blk hx2 2
  simp only [List.getElem?_toArray, List.getElem?_cons_zero, List.getElem?_cons_succ] at x2
  have HX2 := hid hx2
  have HR2 := hid hR2
  have HS := hid HH
  clear hx2 hR2
  go_upto_region 8 with (go_at_call 28; refine (HH.out _ HR2.out).mono ?_; rintro e w3 ⟨rfl, hf3⟩)
  have hA4 := (hA2.out.trans hf3).alloc (.cells #[.int .i64 0, .int .i64 0, .int .i64 0, .string ⟨#[]⟩, .int .i64 0] 35)
  have hf4 := hf3.alloc (.cells #[.int .i64 0, .int .i64 0, .int .i64 0, .string ⟨#[]⟩, .int .i64 0] 35)
  clear hf3
  generalize w3.alloc (.cells #[.int .i64 0, .int .i64 0, .int .i64 0, .string ⟨#[]⟩, .int .i64 0] 35) = w4 at *
  have h2 := HR2.out.fr hf4 (fun _ _ x => x)
  have hx2 := hf4.at_ HX2.out (fun x => x)
  clear hf4 x2
  have hb2 := h2.2.1
  have d0 := cell_blk hb2 0
  have f0 := free_blk hb2 0
  have c0 := cell_blk hx2 0
  have c1 := cell_blk hx2 1
  have c2 := cell_blk hx2 2
  have c3 := cell_blk hx2 3
  have c4 := cell_blk hx2 4
  simp only [List.getElem?_toArray, List.getElem?_cons_zero, List.getElem?_cons_succ] at d0 c0 c1 c2 c3 c4
  have hlt1 : w4.heap.size ≠ g := World.new_ne w4 _ d0
  have hlt2 : w4.heap.size ≠ w.heap.size := World.new_ne w4 _ c0
  have da : ∀ ob : Obj, (w4.alloc ob).cell? ⟨g, 0, none⟩ = some (.slice A 0 cap) := fun ob => cell_keep d0 ((Fr.refl w4 _).alloc ob)
  obtain ⟨i0, hi, hz0, hz1, hz2⟩ := info_parts info_rck
  have HO := hid (fun (o : Obj) => (h2.2.2.alloc o))
  have hNw : N ≤ w4.heap.size := Nat.le_trans h2.1 (Nat.le_of_lt h2.lt)
  go_region_law ((refine step_append_lies _ (by rfl) _ _ _ (by rfl) N 35 i0 _ 5 48 Try.underlying30 hi hz0 hz1 hz2 rfl (by omega) (.slice A 0 cap) _ _ (by rfl) (HO.out _) ⟨w4.heap.size, 0, none⟩ 1 1 (Ck.cells ⟨d, t, n, s, q⟩) (by rfl) (by rfl) (World.news_of_block (cs := #[.int .i64 d, .int .i64 t, .int .i64 n, .string s, .int .i64 q]) (t := 35) (fr := (0, 0)) (alloc_new w4 _)) (ck_one _) (by omega) (by have := HL.out; unfold maxLen; omega) (by have := HL.out; omega) (by simp; omega) (w4.heap.size + 1) (by simp) ?_; intro gg cap5 w5 hown5 hgrow hat hlt5; obtain ⟨b5, c5, f5⟩ : w5.heap[g]? = some (.cells #[(.slice A 0 cap)] 42 (0, 0)) ∧ w5.cell? ⟨g, 0, none⟩ = some (.slice A 0 cap) ∧ w5.frozen? ⟨g, 0, none⟩ = false := (by first | exact Rc.grown_c0 (h2.fr ((Fr.refl w4 (fun _ => False)).alloc _) (fun _ _ x => x)) hgrow | exact Rc.grown_c0 (h2.fr ((Fr.refl w4 (fun _ => False)).alloc _).drew (fun _ _ x => x)) hgrow)))
  all_goals
    have hP := Rc.push (x := ⟨d, t, n, s, q⟩) (h2.fr ((Fr.refl w4 (fun _ => False)).alloc _).drew (fun _ _ x => x)) hown5 hgrow
    go_wp2_with fail
    go_ret2
    refine ⟨rfl, _, hP.1, ?_⟩
    exact (((hA4.mono (fun _ _ x => x.elim)).alloc _).drew).trans hP.2
end Go.Proofs.Ythnigmbdacjlnaa.Cw
