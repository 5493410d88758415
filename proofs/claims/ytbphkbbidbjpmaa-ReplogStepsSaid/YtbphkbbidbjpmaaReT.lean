/- The reference's log: Append, whatever it answers. Own work. -/
import Derived.Test.YtbphkbbidbjpmaaReS
namespace Go.Proofs.Ytbphkbbidbjpmaa.Cw
open Go.RowKit
set_option linter.unusedVariables false
set_option linter.unusedSimpArgs false

set_option maxRecDepth 100000 in
set_option maxHeartbeats 1600000 in
theorem rappend_no (w : World) (P : Value) (x : En) (h : ¬ x.R) :
    Calls Try.prog 23 #[P, x.V] w fun e w' => e = .returned (.tuple #[.int .i64 0, .int .i64 4]) ∧ Fr w w' (fun _ => False) := by
  obtain ⟨a, b, c, k, t, n, p, q, r⟩ := x
  have RC := hid (fun w => refRight_calls w a b c k t n p q r)
  rw [decide_eq_false (show ¬ Rt a b c p q r from h)] at RC
  unfold En.V at *
  unfold enV at *
  clear h
  go_enter Try.func23, Try.ntmps23
  go_wp2_with fail
  refine (RC.out _).mono ?_
  rintro e w1 ⟨rfl, hf1⟩
  go_wp2_with fail
  go_ret2
  exact ⟨rfl, ((Fr.refl w _).alloc _).trans hf1⟩

set_option maxRecDepth 100000 in
set_option maxHeartbeats 3200000 in
theorem rappend_low (w : World) (g : Nat) (v : Value) (es : List En) (x : En) (h : Lr w g v es) (hR : x.R) (hv : x.a < lastV es) (hlen : es.length ≤ 4096) :
    Calls Try.prog 23 #[.pointer (some ⟨g, 0, none⟩), x.V] w fun e w' => e = .returned (.tuple #[.int .i64 0, .int .i64 7]) ∧ Fr w w' (fun _ => False) := by
  obtain ⟨a, b, c, k, t, n, p, q, r⟩ := x
  have RC := hid (fun w => refRight_calls w a b c k t n p q r)
  rw [decide_eq_true (show Rt a b c p q r from hR)] at RC
  unfold En.V at *
  unfold enV at *
  simp only at hv ⊢
  have HL := hid hlen
  have hvd : decide (a < lastV es) = true := decide_eq_true hv
  generalize hlv : lastV es = lv at hvd
  have HLV := hid hlv
  clear hlen hv hR hlv
  obtain ⟨A, cap, rfl, _, _⟩ := h.shape
  go_enter Try.func23, Try.ntmps23
  go_wp2_with fail
  refine (RC.out _).mono ?_
  rintro e w1 ⟨rfl, hf1⟩
  have hx1 := hf1.at_ (alloc_new w _) (fun x => x)
  have h1 := (h.alloc _).heap hf1
  have hA := ((Fr.refl w (fun _ => False)).alloc _).trans hf1
  have c0 := cell_blk hx1 0
  simp only [List.getElem?_toArray, List.getElem?_cons_zero, List.getElem?_cons_succ] at c0
  go_wp2_with fail
  have VC := hid (fun n => Calls.quiet_of (rview_calls (w1.drewN n) g _ es (h1.fr ((Fr.refl w1 (fun _ => False)).drewN n) (fun x => x) (fun _ _ x => x)) (by have := HL.out; omega)))
  rw [HLV.out] at VC
  go_quiet (first | (go_at_call 28; exact VC.out _))
  have h2 := h1.heap ((Fr.refl w1 (fun _ => False)).drewN nq)
  have hA2 := hA.drewN nq
  have hx2 : (w1.drewN nq).heap[w.heap.size]? = _ := hx1
  generalize w1.drewN nq = w2 at *
  clear c0 hx1 h1 hA VC hf1
  go_wp2_with fail
  go_ret2
  exact ⟨rfl, hA2⟩

set_option maxRecDepth 100000 in
set_option maxHeartbeats 3200000 in
theorem rappend_full (w : World) (g : Nat) (v : Value) (es : List En) (x : En) (h : Lr w g v es) (hR : x.R) (hv : ¬ x.a < lastV es) (hlen : es.length = 4096) :
    Calls Try.prog 23 #[.pointer (some ⟨g, 0, none⟩), x.V] w fun e w' => e = .returned (.tuple #[.int .i64 0, .int .i64 5]) ∧ Fr w w' (fun _ => False) := by
  obtain ⟨a, b, c, k, t, n, p, q, r⟩ := x
  have RC := hid (fun w => refRight_calls w a b c k t n p q r)
  rw [decide_eq_true (show Rt a b c p q r from hR)] at RC
  unfold En.V at *
  unfold enV at *
  simp only at hv ⊢
  have HL := hid hlen
  have hvd : decide (a < lastV es) = false := decide_eq_false hv
  generalize hlv : lastV es = lv at hvd
  have HLV := hid hlv
  clear hlen hv hR hlv
  obtain ⟨A, cap, rfl, _, _⟩ := h.shape
  go_enter Try.func23, Try.ntmps23
  go_wp2_with fail
  refine (RC.out _).mono ?_
  rintro e w1 ⟨rfl, hf1⟩
  have hx1 := hf1.at_ (alloc_new w _) (fun x => x)
  have h1 := (h.alloc _).heap hf1
  have hA := ((Fr.refl w (fun _ => False)).alloc _).trans hf1
  have c0 := cell_blk hx1 0
  simp only [List.getElem?_toArray, List.getElem?_cons_zero, List.getElem?_cons_succ] at c0
  go_wp2_with fail
  have VC := hid (fun n => Calls.quiet_of (rview_calls (w1.drewN n) g _ es (h1.fr ((Fr.refl w1 (fun _ => False)).drewN n) (fun x => x) (fun _ _ x => x)) (by have := HL.out; omega)))
  rw [HLV.out] at VC
  go_quiet (first | (go_at_call 28; exact VC.out _))
  have h2 := h1.heap ((Fr.refl w1 (fun _ => False)).drewN nq)
  have hA2 := hA.drewN nq
  have hx2 : (w1.drewN nq).heap[w.heap.size]? = _ := hx1
  generalize w1.drewN nq = w2 at *
  clear c0 hx1 h1 hA VC hf1
  have d0 := h2.c0
  rw [HL.out] at d0
  go_wp2_with fail
  go_ret2
  exact ⟨rfl, hA2⟩

set_option maxRecDepth 100000 in
set_option maxHeartbeats 3200000 in
theorem rappend_ok (w : World) (g : Nat) (v : Value) (es : List En) (x : En) (h : Lr w g v es) (hR : x.R) (hv : ¬ x.a < lastV es) (hlen : es.length < 4096) :
    Calls Try.prog 23 #[.pointer (some ⟨g, 0, none⟩), x.V] w fun e w' => e = .returned (.tuple #[.int .i64 (es.length + 1 : Nat), .int .i64 0]) ∧ ∃ v', Lr w' g v' (es ++ [x]) ∧ Fr w w' (WS g v) ∧ Wn w v v' := by
  obtain ⟨a, b, c, k, t, n, p, q, r⟩ := x
  have RC := hid (fun w => refRight_calls w a b c k t n p q r)
  rw [decide_eq_true (show Rt a b c p q r from hR)] at RC
  unfold En.V at *
  unfold enV at *
  simp only at hv ⊢
  have HL := hid hlen
  have hvd : decide (a < lastV es) = false := decide_eq_false hv
  generalize hlv : lastV es = lv at hvd
  have HLV := hid hlv
  clear hlen hv hR hlv
  obtain ⟨A, cap, rfl, _, _⟩ := h.shape
  go_enter Try.func23, Try.ntmps23
  go_wp2_with fail
  refine (RC.out _).mono ?_
  rintro e w1 ⟨rfl, hf1⟩
  have hx1 := hf1.at_ (alloc_new w _) (fun x => x)
  have h1 := (h.alloc _).heap hf1
  have hA := ((Fr.refl w (fun _ => False)).alloc _).trans hf1
  have c0 := cell_blk hx1 0
  simp only [List.getElem?_toArray, List.getElem?_cons_zero, List.getElem?_cons_succ] at c0
  go_wp2_with fail
  have VC := hid (fun n => Calls.quiet_of (rview_calls (w1.drewN n) g _ es (h1.fr ((Fr.refl w1 (fun _ => False)).drewN n) (fun x => x) (fun _ _ x => x)) (by have := HL.out; omega)))
  rw [HLV.out] at VC
  go_quiet (first | (go_at_call 28; exact VC.out _))
  have h2 := h1.heap ((Fr.refl w1 (fun _ => False)).drewN nq)
  have hA2 := hA.drewN nq
  have hx2 : (w1.drewN nq).heap[w.heap.size]? = _ := hx1
  generalize w1.drewN nq = w2 at *
  clear c0 hx1 h1 hA VC hf1
  have hlt9 : (es.length : Int) < 4096 := by have := HL.out; omega
  have hb : decide ((4096 : Int) ≤ (es.length : Int)) = false := decide_eq_false (by omega)
  have hb2 : decide (4096 ≤ es.length) = false := decide_eq_false (by omega)
  have d0 := h2.c0
  have f0 := h2.f0
  have c0 := cell_blk hx2 0
  have c1 := cell_blk hx2 1
  have c2 := cell_blk hx2 2
  have c3 := cell_blk hx2 3
  have c4 := cell_blk hx2 4
  have c5 := cell_blk hx2 5
  have c6 := cell_blk hx2 6
  have c7 := cell_blk hx2 7
  have c8 := cell_blk hx2 8
  simp only [List.getElem?_toArray, List.getElem?_cons_zero, List.getElem?_cons_succ] at c0 c1 c2 c3 c4 c5 c6 c7 c8
  have hlt1 : w2.heap.size ≠ g := World.new_ne w2 _ d0
  have hlt2 : w2.heap.size ≠ w.heap.size := World.new_ne w2 _ c0
  have HO := hid (fun (o : Obj) => (h2.2.alloc o))
  have da : ∀ o : Obj, (w2.alloc o).cell? ⟨g, 0, none⟩ = some (.slice A es.length cap) := fun o => (h2.alloc o).c0
  go_wp2_with fail
  go_region_law ((refine step_append_w (by rfl) _ _ (by rfl) _ es [⟨a, b, c, k, t, n, p, q, r⟩] (by rfl) (HO.out _) ⟨w2.heap.size, 0, none⟩ 1 1 (by rfl) (by rfl) (World.news_of_block (cs := #[.int .i64 a, .int .i64 b, .int .i64 c, .int .i64 k, .int .i64 t, .int .i64 n, .string p, .string q, .string r]) (t := 25) (fr := (0, 0)) (alloc_new w2 _)) (by omega) (by have := HL.out; omega) ?_; intro gg cap4 w4 hown4 hgrow hat hlt4 hgg; clear hgg; obtain ⟨b4, c4, f4⟩ : w4.heap[g]? = some (.cells #[.slice A es.length cap] 50 (0, 0)) ∧ w4.cell? ⟨g, 0, none⟩ = some (.slice A es.length cap) ∧ w4.frozen? ⟨g, 0, none⟩ = false := (by first | exact Lr.grown_c0 (h2.alloc _) hgrow | exact Lr.grown_c0 (h2.alloc _).drew hgrow)))
  all_goals
    have hP := Lr.push (x := ⟨a, b, c, k, t, n, p, q, r⟩) (h2.alloc _).drew hown4 hgrow
    have c9 := hP.1.c0
    go_wp2_with fail
    go_ret2
    refine ⟨by simp, _, hP.1, ?_, ?_⟩
    · exact (((hA2.mono (fun _ _ x => x.elim)).alloc _).drew).trans hP.2
    · intro b0 hb0
      injection hb0 with hb0
      subst hb0
      rcases hat with hat | hat
      · exact .inl hat
      · right
        have h9 := hA2.size
        have h8 : w2.heap.size ≤ gg := by rw [hat]; simp
        show w.heap.size ≤ gg
        omega

theorem rappend_any (w : World) (g : Nat) (v : Value) (es : List En) (x : En) (h : Lr w g v es) (hlen : es.length ≤ 4096) :
    Calls Try.prog 23 #[.pointer (some ⟨g, 0, none⟩), x.V] w fun e w' => e = .returned (.tuple #[.int .i64 (apN es x), .int .i64 (apE es x)]) ∧ ∃ v', Lr w' g v' (app es x) ∧ Fr w w' (WS g v) ∧ Wn w v v' := by
  have stay : ∀ w', Fr w w' (fun _ => False) → ¬ (x.R ∧ ¬ x.a < lastV es ∧ es.length < 4096) → ∃ v', Lr w' g v' (app es x) ∧ Fr w w' (WS g v) ∧ Wn w v v' := by
    intro w' hf hc
    refine ⟨v, ?_, hf.mono (fun _ _ x => x.elim), fun b hb => .inl hb⟩
    unfold app
    rw [if_neg hc]
    exact h.heap hf
  by_cases hR : x.R
  · by_cases hv : x.a < lastV es
    · have hc : ¬ (x.R ∧ ¬ x.a < lastV es ∧ es.length < 4096) := fun e => e.2.1 hv
      refine (rappend_low w g v es x h hR hv hlen).mono ?_
      rintro e w' ⟨rfl, hf⟩
      refine ⟨?_, stay w' hf hc⟩
      unfold apN apE
      rw [if_neg hc, if_neg (not_not_intro hR), if_pos hv]
    · by_cases hl : es.length < 4096
      · have hc : x.R ∧ ¬ x.a < lastV es ∧ es.length < 4096 := ⟨hR, hv, hl⟩
        refine (rappend_ok w g v es x h hR hv hl).mono ?_
        rintro e w' ⟨rfl, v', h1, h2, h3⟩
        refine ⟨?_, v', ?_, h2, h3⟩
        · unfold apN apE
          rw [if_pos hc, if_neg (not_not_intro hR), if_neg hv, if_pos hl]
        · unfold app
          rw [if_pos hc]
          exact h1
      · have hc : ¬ (x.R ∧ ¬ x.a < lastV es ∧ es.length < 4096) := fun e => hl e.2.2
        refine (rappend_full w g v es x h hR hv (by omega)).mono ?_
        rintro e w' ⟨rfl, hf⟩
        refine ⟨?_, stay w' hf hc⟩
        unfold apN apE
        rw [if_neg hc, if_neg (not_not_intro hR), if_neg hv, if_neg hl]
  · have hc : ¬ (x.R ∧ ¬ x.a < lastV es ∧ es.length < 4096) := fun e => hR e.1
    refine (rappend_no w _ x hR).mono ?_
    rintro e w' ⟨rfl, hf⟩
    refine ⟨?_, stay w' hf hc⟩
    unfold apN apE
    rw [if_neg hc, if_pos hR]

end Go.Proofs.Ytbphkbbidbjpmaa.Cw
