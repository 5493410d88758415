/- View and Append of a log whose row may be longer than its capacity. Own work. -/
import Derived.Test.YtbphkbbidbjpmaaReI
namespace Go.Proofs.Ytbphkbbidbjpmaa.Cw
open Go.RowKit
set_option linter.unusedVariables false
set_option linter.unusedSimpArgs false

theorem lenw_calls (w : World) (g : Nat) (v : Value) (es : List En) (h : Lw w g v es) :
    Calls Try.prog 18 #[.pointer (some ⟨g, 0, none⟩)] w fun e w' => e = .returned (.int .i64 es.length) ∧ w = w' := by
  obtain ⟨A, cap, rfl, _, _⟩ := h.shape
  exact (len_cell w g _ _ _ h.c0).mono fun _ _ q => ⟨q.1, q.2.symm⟩

theorem Lw.push {W w4 : World} {g : Nat} {v v' : Value} {es : List En} {x : En} (h : Lw W g v es) (hown : WR w4 v' (es ++ [x])) (hg : W.grownBy w4 v.ownBlock) :
    Lw (w4.setCell ⟨g, 0, none⟩ v') g v' (es ++ [x]) ∧ Fr W (w4.setCell ⟨g, 0, none⟩ v') (WS g v) :=
  ⟨Lw.put (h.grown_c0 hg).1 hown, Fr.set ((Fr.refl W _).grown hg (fun k hk _ => .inr hk)) _ (fun _ => .inl rfl) _⟩

set_option maxRecDepth 100000 in
set_option maxHeartbeats 1600000 in
theorem vieww_calls (w : World) (g : Nat) (v : Value) (es : List En) (h : Lw w g v es) (hl : es.length ≤ 4611686018427387904) :
    Calls Try.prog 27 #[.pointer (some ⟨g, 0, none⟩)] w fun e w' => e = .returned (.int .i64 (lastV es)) ∧ ∃ m, w' = w.drewN m := by
  have LC := hid (lenw_calls w g v es h)
  by_cases h0 : es.length = 0
  · have he : es = [] := List.eq_nil_of_length_eq_zero h0
    subst he
    go_enter Try.func27, Try.ntmps27
    go_wp2_with (go_at_call 18; refine (LC.out).mono ?_; rintro e w' ⟨rfl, rfl⟩)
    go_ret
    exact ⟨rfl, 0, rfl⟩
  · obtain ⟨A, cap, rfl, _, hsh⟩ := h.shape
    obtain ⟨x, hx⟩ : ∃ x, es[es.length - 1]? = some x := ⟨_, List.getElem?_eq_getElem (by omega)⟩
    obtain ⟨o, rfl, _, hc⟩ := hsh _ x hx
    have hv := hc 0 _ rfl
    have c0 := h.c0
    have HV := hid (lastV_some es x hx)
    generalize hm : es.length = m at *
    have LQ := hid (fun n => (lenw_calls (w.drewN n) g _ es h).mono fun _ _ (q : _ ∧ _) => And.intro q.1 q.2.symm)
    rw [hm] at LQ
    obtain ⟨k, rfl⟩ : ∃ k, m = k + 1 := ⟨m - 1, by omega⟩
    have hv2 : w.cell? ⟨o, k * 9, none⟩ = some (.int .i64 x.a) := by simpa using hv
    have hb : (((k + 1 : Nat) : Int) == 0) = false := by rw [beq_eq_false_iff_ne]; omega
    clear hv hc hsh hx h0
    go_enter Try.func27, Try.ntmps27
    go_wp2_with (go_at_call 18; refine (LC.out).mono ?_; rintro e w' ⟨rfl, rfl⟩)
    go_quiet (first | (go_at_call 18; exact Calls.quiet_of_same (LQ.out _)))
    go_wp2
    go_ret
    exact ⟨ret1 HV.out.symm, _, rfl⟩

set_option maxRecDepth 100000 in
set_option maxHeartbeats 3200000 in
theorem appendw_ok (w : World) (g : Nat) (v : Value) (es : List En) (x : En) (h : Lw w g v es) (hR : x.R) (hv : ¬ x.a < lastV es) (hlen : es.length < 4096) :
    Calls Try.prog 22 #[.pointer (some ⟨g, 0, none⟩), x.V] w fun e w' => e = .returned (.tuple #[.int .i64 (es.length + 1 : Nat), .int .i64 0]) ∧ ∃ v', Lw w' g v' (es ++ [x]) ∧ Fr w w' (WS g v) ∧ Wn w v v' := by
  obtain ⟨a, b, c, k, t, n, p, q, r⟩ := x
  have RC := hid (fun w => right_calls w a b c k t n p q r)
  rw [decide_eq_true (show Rt a b c p q r from hR)] at RC
  unfold En.V at *
  unfold enV at *
  simp only at hv ⊢
  have HL := hid hlen
  have HV := hid hv
  have hvd : decide (a < lastV es) = false := decide_eq_false hv
  generalize hlv : lastV es = lv at hvd
  have HLV := hid hlv
  clear hlen hv hR hlv
  go_enter Try.func22, Try.ntmps22
  go_wp2_with fail
  refine (RC.out _).mono ?_
  rintro e w1 ⟨rfl, hf1⟩
  have hx1 := hf1.at_ (alloc_new w _) (fun x => x)
  have h1 := (h.alloc _).heap hf1
  have hA := ((Fr.refl w (fun _ => False)).alloc _).trans hf1
  have c0 := cell_blk hx1 0
  simp only [List.getElem?_toArray, List.getElem?_cons_zero, List.getElem?_cons_succ] at c0
  go_wp2_with fail
  have VC := hid (fun n => Calls.quiet_of (vieww_calls (w1.drewN n) g v es (h1.fr ((Fr.refl w1 (fun _ => False)).drewN n) (fun x => x) (fun _ _ x => x)) (by have := HL.out; omega)))
  rw [HLV.out] at VC
  go_quiet (first | (go_at_call 27; exact VC.out _))
  have hb : ((es.length : Int) == 4096) = false := by
    rw [beq_eq_false_iff_ne]
    have := HL.out
    omega
  go_wp2_with fail
  have h2 := h1.heap ((Fr.refl w1 (fun _ => False)).drewN nq)
  have hA2 := hA.drewN nq
  have hx2 : (w1.drewN nq).heap[w.heap.size]? = _ := hx1
  generalize w1.drewN nq = w2 at *
  refine (lenw_calls w2 g v es h2).mono ?_
  rintro e w3 ⟨rfl, rfl⟩
  clear c0 hx1 h1 hA VC hf1
  have d0 := h2.c0
  have f0 := h2.f0
  have c0 := cell_blk hx2 0
  have c1 := cell_blk hx2 1
  have c2 := cell_blk hx2 2
  have c3 := cell_blk hx2 3
  have c4 := cell_blk hx2 4
  have c5 := cell_blk hx2 5
  have c6 := cell_blk hx2 6
  have c7 := cell_blk hx2 7
  have c8 := cell_blk hx2 8
  simp only [List.getElem?_toArray, List.getElem?_cons_zero, List.getElem?_cons_succ] at c0 c1 c2 c3 c4 c5 c6 c7 c8
  obtain ⟨i0, hi, hz0, hz1, hz2⟩ := info_parts info_en
  have hlt1 : w2.heap.size ≠ g := World.new_ne w2 _ d0
  have hlt2 : w2.heap.size ≠ w.heap.size := World.new_ne w2 _ c0
  have HO := hid (fun (o : Obj) => (h2.2.alloc o))
  have da : ∀ o : Obj, (w2.alloc o).cell? ⟨g, 0, none⟩ = some v := fun o => (h2.alloc o).c0
  go_wp2_with fail
  go_region_law ((refine step_append_w (by rfl) _ _ (by rfl) v es [⟨a, b, c, k, t, n, p, q, r⟩] (by rfl) (HO.out _) ⟨w2.heap.size, 0, none⟩ 1 1 (by rfl) (by rfl) (World.news_of_block (cs := #[.int .i64 a, .int .i64 b, .int .i64 c, .int .i64 k, .int .i64 t, .int .i64 n, .string p, .string q, .string r]) (t := 25) (fr := (0, 0)) (alloc_new w2 _)) (by omega) (by have := HL.out; omega) ?_; intro gg cap w4 hown4 hgrow hat hlt4 hgg; clear hgg; obtain ⟨b4, c4, f4⟩ : w4.heap[g]? = some (.cells #[v] 89 (0, 0)) ∧ w4.cell? ⟨g, 0, none⟩ = some v ∧ w4.frozen? ⟨g, 0, none⟩ = false := (by first | exact Lw.grown_c0 (h2.alloc _) hgrow | exact Lw.grown_c0 (h2.alloc _).drew hgrow)))
  all_goals
    have hP := Lw.push (x := ⟨a, b, c, k, t, n, p, q, r⟩) (h2.alloc _).drew hown4 hgrow
    go_wp2_with fail
    refine (lenw_calls _ g _ _ hP.1).mono ?_
    rintro e w6 ⟨rfl, rfl⟩
    go_wp2_with fail
    go_ret2
    refine ⟨by simp, _, hP.1, ?_, ?_⟩
    · exact (((hA2.mono (fun _ _ x => x.elim)).alloc _).drew).trans hP.2
    · intro b0 hb0
      injection hb0 with hb0
      subst hb0
      rcases hat with hat | hat
      · exact .inl hat
      · right
        have h9 := hA2.size
        have h8 : w2.heap.size ≤ gg := by rw [hat]; simp
        show w.heap.size ≤ gg
        omega

set_option maxRecDepth 100000 in
set_option maxHeartbeats 3200000 in
theorem appendw_low (w : World) (g : Nat) (v : Value) (es : List En) (x : En) (h : Lw w g v es) (hR : x.R) (hv : x.a < lastV es) (hlen : es.length ≤ 4096) :
    Calls Try.prog 22 #[.pointer (some ⟨g, 0, none⟩), x.V] w fun e w' => e = .returned (.tuple #[.int .i64 0, .int .i64 7]) ∧ Fr w w' (fun _ => False) := by
  obtain ⟨a, b, c, k, t, n, p, q, r⟩ := x
  have RC := hid (fun w => right_calls w a b c k t n p q r)
  rw [decide_eq_true (show Rt a b c p q r from hR)] at RC
  unfold En.V at *
  unfold enV at *
  simp only at hv ⊢
  have HL := hid hlen
  have hvd : decide (a < lastV es) = true := decide_eq_true hv
  generalize hlv : lastV es = lv at hvd
  have HLV := hid hlv
  clear hlen hv hR hlv
  go_enter Try.func22, Try.ntmps22
  go_wp2_with fail
  refine (RC.out _).mono ?_
  rintro e w1 ⟨rfl, hf1⟩
  have hx1 := hf1.at_ (alloc_new w _) (fun x => x)
  have h1 := (h.alloc _).heap hf1
  have hA := ((Fr.refl w (fun _ => False)).alloc _).trans hf1
  have c0 := cell_blk hx1 0
  simp only [List.getElem?_toArray, List.getElem?_cons_zero, List.getElem?_cons_succ] at c0
  go_wp2_with fail
  have VC := hid (fun n => Calls.quiet_of (vieww_calls (w1.drewN n) g v es (h1.fr ((Fr.refl w1 (fun _ => False)).drewN n) (fun x => x) (fun _ _ x => x)) (by have := HL.out; omega)))
  rw [HLV.out] at VC
  go_quiet (first | (go_at_call 27; exact VC.out _))
  go_wp2_with fail
  go_ret2
  exact ⟨rfl, hA.drewN _⟩

set_option maxRecDepth 100000 in
set_option maxHeartbeats 3200000 in
theorem appendw_full (w : World) (g : Nat) (v : Value) (es : List En) (x : En) (h : Lw w g v es) (hR : x.R) (hv : ¬ x.a < lastV es) (hlen : es.length = 4096) :
    Calls Try.prog 22 #[.pointer (some ⟨g, 0, none⟩), x.V] w fun e w' => e = .returned (.tuple #[.int .i64 0, .int .i64 5]) ∧ Fr w w' (fun _ => False) := by
  obtain ⟨a, b, c, k, t, n, p, q, r⟩ := x
  have RC := hid (fun w => right_calls w a b c k t n p q r)
  rw [decide_eq_true (show Rt a b c p q r from hR)] at RC
  unfold En.V at *
  unfold enV at *
  simp only at hv ⊢
  have HL := hid hlen
  have hvd : decide (a < lastV es) = false := decide_eq_false hv
  generalize hlv : lastV es = lv at hvd
  have HLV := hid hlv
  clear hlen hv hR hlv
  go_enter Try.func22, Try.ntmps22
  go_wp2_with fail
  refine (RC.out _).mono ?_
  rintro e w1 ⟨rfl, hf1⟩
  have hx1 := hf1.at_ (alloc_new w _) (fun x => x)
  have h1 := (h.alloc _).heap hf1
  have hA := ((Fr.refl w (fun _ => False)).alloc _).trans hf1
  have c0 := cell_blk hx1 0
  simp only [List.getElem?_toArray, List.getElem?_cons_zero, List.getElem?_cons_succ] at c0
  go_wp2_with fail
  have VC := hid (fun n => Calls.quiet_of (vieww_calls (w1.drewN n) g v es (h1.fr ((Fr.refl w1 (fun _ => False)).drewN n) (fun x => x) (fun _ _ x => x)) (by have := HL.out; omega)))
  rw [HLV.out] at VC
  go_quiet (first | (go_at_call 27; exact VC.out _))
  go_wp2_with fail
  have h2 := h1.heap ((Fr.refl w1 (fun _ => False)).drewN nq)
  have hA2 := hA.drewN nq
  generalize w1.drewN nq = w2 at *
  have LC := lenw_calls w2 g v es h2
  rw [HL.out] at LC
  refine LC.mono ?_
  rintro e w3 ⟨rfl, rfl⟩
  go_wp2_with fail
  go_ret2
  exact ⟨rfl, hA2⟩

theorem appendw_any (w : World) (g : Nat) (v : Value) (es : List En) (x : En) (h : Lw w g v es) (hlen : es.length ≤ 4096) :
    Calls Try.prog 22 #[.pointer (some ⟨g, 0, none⟩), x.V] w fun e w' => e = .returned (.tuple #[.int .i64 (apN es x), .int .i64 (apE es x)]) ∧ ∃ v', Lw w' g v' (app es x) ∧ Fr w w' (WS g v) ∧ Wn w v v' := by
  have stay : ∀ w', Fr w w' (fun _ => False) → ¬ (x.R ∧ ¬ x.a < lastV es ∧ es.length < 4096) → ∃ v', Lw w' g v' (app es x) ∧ Fr w w' (WS g v) ∧ Wn w v v' := by
    intro w' hf hc
    refine ⟨v, ?_, hf.mono (fun _ _ x => x.elim), fun b hb => .inl hb⟩
    unfold app
    rw [if_neg hc]
    exact h.heap hf
  by_cases hR : x.R
  · by_cases hv : x.a < lastV es
    · have hc : ¬ (x.R ∧ ¬ x.a < lastV es ∧ es.length < 4096) := fun e => e.2.1 hv
      refine (appendw_low w g v es x h hR hv hlen).mono ?_
      rintro e w' ⟨rfl, hf⟩
      refine ⟨?_, stay w' hf hc⟩
      unfold apN apE
      rw [if_neg hc, if_neg (not_not_intro hR), if_pos hv]
    · by_cases hl : es.length < 4096
      · have hc : x.R ∧ ¬ x.a < lastV es ∧ es.length < 4096 := ⟨hR, hv, hl⟩
        refine (appendw_ok w g v es x h hR hv hl).mono ?_
        rintro e w' ⟨rfl, v', h1, h2, h3⟩
        refine ⟨?_, v', ?_, h2, h3⟩
        · unfold apN apE
          rw [if_pos hc, if_neg (not_not_intro hR), if_neg hv, if_pos hl]
        · unfold app
          rw [if_pos hc]
          exact h1
      · have hc : ¬ (x.R ∧ ¬ x.a < lastV es ∧ es.length < 4096) := fun e => hl e.2.2
        refine (appendw_full w g v es x h hR hv (by omega)).mono ?_
        rintro e w' ⟨rfl, hf⟩
        refine ⟨?_, stay w' hf hc⟩
        unfold apN apE
        rw [if_neg hc, if_neg (not_not_intro hR), if_neg hv, if_neg hl]
  · have hc : ¬ (x.R ∧ ¬ x.a < lastV es ∧ es.length < 4096) := fun e => hR e.1
    refine (append_no w _ x hR).mono ?_
    rintro e w' ⟨rfl, hf⟩
    refine ⟨?_, stay w' hf hc⟩
    unfold apN apE
    rw [if_neg hc, if_pos hR]

end Go.Proofs.Ytbphkbbidbjpmaa.Cw
