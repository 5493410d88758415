/- A log's Append. Own work. -/
import Derived.Test.YtbphkbbidbjpmaaRpF
import Derived.Deep.AppendLies
import Derived.Deep.RegionHeld3
namespace Go.Proofs.Ytbphkbbidbjpmaa.Cw
open Go.RowKit
set_option linter.unusedVariables false
set_option linter.unusedSimpArgs false

theorem info_en : (Try.prog.info? 25).map (fun i => (i.zero, i.size, i.bytes)) = some (some (enV 0 0 0 0 0 0 ByteArray.empty ByteArray.empty ByteArray.empty), 9, 96) := by kernel_rfl
theorem Lg.heap {w W : World} {g : Nat} {v : Value} {es : List En} (h : Lg w g v es) (k : Fr w W (fun _ => False)) : Lg W g v es := h.fr k (fun x => x) (fun _ _ x => x)

theorem Lg.grown_c0 {W w4 : World} {g : Nat} {v : Value} {es : List En} (h : Lg W g v es) (hg : W.grownBy w4 v.ownBlock) : w4.heap[g]? = some (.cells #[v] 89 (0, 0)) ∧ w4.cell? ⟨g, 0, none⟩ = some v ∧ w4.frozen? ⟨g, 0, none⟩ = false := by
  have hb := (hg.block g h.lt (fun e => h.ne e.symm)).trans h.1
  exact ⟨hb, cell_blk hb 0, free_blk hb 0⟩

theorem Lg.push {W w4 : World} {g : Nat} {v v' : Value} {es : List En} {x : En} (h : Lg W g v es) (hown : w4.ownsRow 0 25 9 v' (es.length + 1) (es.flatMap En.cells ++ x.cells)) (hg : W.grownBy w4 v.ownBlock) :
    Lg (w4.setCell ⟨g, 0, none⟩ v') g v' (es ++ [x]) ∧ Fr W (w4.setCell ⟨g, 0, none⟩ v') (WS g v) := by
  have hb : w4.heap[g]? = some (.cells #[v] 89 (0, 0)) := (hg.block g h.lt (fun e => h.ne e.symm)).trans h.1
  refine ⟨⟨(set_blk hb 0 v').trans (by rw [set_val]), ?_⟩, ?_⟩
  · have h2 := hown.kept (w' := w4.setCell ⟨g, 0, none⟩ v') (row := some g) ⟨rfl, rfl, rfl, by simp [World.setCell], fun k hk hne => Below.heap_setCell _ _ _ _ (fun e => hne (by rw [e]))⟩ (by
      right
      intro hv
      rcases hown.2 with ⟨rfl, _⟩ | ⟨g', cap, cur, rfl, _, hg', _⟩
      · cases hv
      · injection hv with hv
        subst hv
        have h3 : some (Obj.cells #[v] 89 (0, 0)) = some (Obj.cells cur 25 (0, 0)) := hb.symm.trans hg'
        injection h3 with h3
        injection h3 with _ h3
        exact absurd h3 (by decide))
    rw [List.length_append, List.flatMap_append, List.flatMap_cons, List.flatMap_nil, List.append_nil]
    exact h2
  · refine Fr.set ?_ _ (fun _ => .inl rfl) _
    exact (Fr.refl W _).grown hg (fun k hk _ => .inr hk)

set_option maxRecDepth 100000 in
set_option maxHeartbeats 3200000 in
theorem append_ok (w : World) (g : Nat) (v : Value) (es : List En) (x : En) (h : Lg w g v es) (hR : x.R) (hv : ¬ x.a < lastV es) (hlen : es.length < 4096) :
    Calls Try.prog 22 #[.pointer (some ⟨g, 0, none⟩), x.V] w fun e w' => e = .returned (.tuple #[.int .i64 (es.length + 1 : Nat), .int .i64 0]) ∧ ∃ v', Lg w' g v' (es ++ [x]) ∧ Fr w w' (WS g v) ∧ Wn w v v' := by
  obtain ⟨a, b, c, k, t, n, p, q, r⟩ := x
  have RC := hid (fun w => right_calls w a b c k t n p q r)
  rw [decide_eq_true (show Rt a b c p q r from hR)] at RC
  unfold En.V at *
  unfold enV at *
  simp only at hv ⊢
  have HL := hid hlen
  have HV := hid hv
  have hvd : decide (a < lastV es) = false := decide_eq_false hv
  generalize hlv : lastV es = lv at hvd
  have HLV := hid hlv
  clear hlen hv hR hlv
  go_enter Try.func22, Try.ntmps22
  go_wp2_with fail
  refine (RC.out _).mono ?_
  rintro e w1 ⟨rfl, hf1⟩
  have hx1 := hf1.at_ (alloc_new w _) (fun x => x)
  have h1 := (h.alloc _).heap hf1
  have hA := ((Fr.refl w (fun _ => False)).alloc _).trans hf1
  have c0 := cell_blk hx1 0
  simp only [List.getElem?_toArray, List.getElem?_cons_zero, List.getElem?_cons_succ] at c0
  go_wp2_with fail
  have VC := hid (fun n => Calls.quiet_of (view_calls (w1.drewN n) g v es (h1.fr ((Fr.refl w1 (fun _ => False)).drewN n) (fun x => x) (fun _ _ x => x)) (by have := HL.out; omega)))
  rw [HLV.out] at VC
  go_quiet (first | (go_at_call 27; exact VC.out _))
  have hb : ((es.length : Int) == 4096) = false := by
    rw [beq_eq_false_iff_ne]
    have := HL.out
    omega
  go_wp2_with fail
  have h2 := h1.heap ((Fr.refl w1 (fun _ => False)).drewN nq)
  have hA2 := hA.drewN nq
  have hx2 : (w1.drewN nq).heap[w.heap.size]? = _ := hx1
  generalize w1.drewN nq = w2 at *
  refine (len_calls w2 g v es h2).mono ?_
  rintro e w3 ⟨rfl, rfl⟩
  clear c0 hx1 h1 hA VC hf1
  have d0 := h2.c0
  have f0 := h2.f0
  have c0 := cell_blk hx2 0
  have c1 := cell_blk hx2 1
  have c2 := cell_blk hx2 2
  have c3 := cell_blk hx2 3
  have c4 := cell_blk hx2 4
  have c5 := cell_blk hx2 5
  have c6 := cell_blk hx2 6
  have c7 := cell_blk hx2 7
  have c8 := cell_blk hx2 8
  simp only [List.getElem?_toArray, List.getElem?_cons_zero, List.getElem?_cons_succ] at c0 c1 c2 c3 c4 c5 c6 c7 c8
  obtain ⟨i0, hi, hz0, hz1, hz2⟩ := info_parts info_en
  have hlt1 : w2.heap.size ≠ g := World.new_ne w2 _ d0
  have hlt2 : w2.heap.size ≠ w.heap.size := World.new_ne w2 _ c0
  have HO := hid (fun (o : Obj) => (h2.2.alloc o))
  have da : ∀ o : Obj, (w2.alloc o).cell? ⟨g, 0, none⟩ = some v := fun o => (h2.alloc o).c0
  go_wp2_with fail
  go_region_law ((refine step_append_lies _ (by rfl) _ _ _ (by rfl) 0 25 i0 _ 9 96 Try.underlying37 hi hz0 hz1 hz2 rfl (by omega) v es.length (es.flatMap En.cells) (by rfl) (HO.out _) ⟨w2.heap.size, 0, none⟩ 1 1 (En.cells ⟨a, b, c, k, t, n, p, q, r⟩) (by rfl) (by rfl) (World.news_of_block (cs := #[.int .i64 a, .int .i64 b, .int .i64 c, .int .i64 k, .int .i64 t, .int .i64 n, .string p, .string q, .string r]) (t := 25) (fr := (0, 0)) (alloc_new w2 _)) (by simp [Value.oneCell', En.cells]) (by omega) (by have := HL.out; unfold maxLen; omega) (by have := HL.out; omega) (by omega) (w2.heap.size + 1) (by simp) ?_; intro gg cap w4 hown4 hgrow hat hlt4; obtain ⟨b4, c4, f4⟩ : w4.heap[g]? = some (.cells #[v] 89 (0, 0)) ∧ w4.cell? ⟨g, 0, none⟩ = some v ∧ w4.frozen? ⟨g, 0, none⟩ = false := (by first | exact Lg.grown_c0 (h2.alloc _) hgrow | exact Lg.grown_c0 (h2.alloc _).drew hgrow)))
  all_goals
    have hP := Lg.push (x := ⟨a, b, c, k, t, n, p, q, r⟩) (h2.alloc _).drew hown4 hgrow
    go_wp2_with fail
    refine (len_calls _ g _ _ hP.1).mono ?_
    rintro e w6 ⟨rfl, rfl⟩
    go_wp2_with fail
    go_ret2
    refine ⟨by simp, _, hP.1, ?_, ?_⟩
    · exact (((hA2.mono (fun _ _ x => x.elim)).alloc _).drew).trans hP.2
    · intro b0 hb0
      injection hb0 with hb0
      subst hb0
      rcases hat with hat | hat
      · exact .inl hat
      · right
        have h9 := hA2.size
        show w.heap.size ≤ gg
        omega
end Go.Proofs.Ytbphkbbidbjpmaa.Cw
