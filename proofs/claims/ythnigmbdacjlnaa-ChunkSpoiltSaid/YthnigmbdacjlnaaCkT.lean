/- The reference's collector: Add, the other answers. Written by mkradd.py. Own work. -/
import Derived.Test.YthnigmbdacjlnaaCkS
namespace Go.Proofs.Ythnigmbdacjlnaa.Cw
open Go.RowKit
set_option linter.unusedVariables false
set_option linter.unusedSimpArgs false

set_option maxRecDepth 100000 in
set_option maxHeartbeats 3200000 in
theorem radd_apart1 (w : World) (N g : Nat) (v : Value) (c f : Ck) (L : List Ck) (h : Rc w N g v L) (h0 : L[0]? = some f) (hc : ckB c = true) (hl : L.length ≤ 2000) (hd : ¬ f.d = c.d) :
    Calls Try.prog 16 #[.pointer (some ⟨g, 0, none⟩), c.V] w (RdP w N g false 7 L) := by
  have CC := hid (fun (W : World) => refRight25_calls W c)
  rw [hc] at CC
  obtain ⟨d, t, n, s, q⟩ := c
  have HD : Hid (¬ f.d = d) := hid hd
  clear hd
  obtain ⟨A, cap, rfl, h1, h2, hx⟩ := h.shape
  have HR := hid h
  have HL : Hid (L.length ≤ 2000) := hid hl
  obtain ⟨o, rfl, hc0⟩ := hx 0 f h0
  have HD0 := hid (hc0 0 _ rfl)
  have HD1 := hid (hc0 1 _ rfl)
  have hln0 : 0 < L.length := (List.getElem?_eq_some_iff.1 h0).1
  clear h hx h2 hc0 h0
  obtain ⟨fd, ft, fn, fs, fc⟩ := f
  simp only at HD0 HD1
  unfold Ck.V at *
  simp only at CC ⊢
  clear hc
  go_enter Try.func16, Try.ntmps16
  go_upto_region 3 with (go_at_call 12; refine (CC.out _).mono ?_; rintro e w1 ⟨rfl, hf1⟩)
  have hA := Fr.trans (Fr.alloc (Fr.refl w (fun _ => False)) (.cells #[.int .i64 d, .int .i64 t, .int .i64 n, .string s, .int .i64 q] 35)) hf1
  have hx1 := hf1.at_ (alloc_new w (.cells #[.int .i64 d, .int .i64 t, .int .i64 n, .string s, .int .i64 q] 35)) (fun x => x)
  clear hf1
  have hR1 := HR.out.fr hA (fun _ _ x => x)
  have y0 := cell_blk hR1.2.1 0
  have x0 := cell_blk hx1 0
  have x1 := cell_blk hx1 1
  have x2 := cell_blk hx1 2
  simp only [List.getElem?_toArray, List.getElem?_cons_zero, List.getElem?_cons_succ] at y0 x0 x1 x2
  have q0 := cell_keep HD0.out hA
  have q1 := cell_keep HD1.out hA
  rw [Nat.zero_mul, Nat.zero_add] at q0 q1
  have e1 : (fd != d) = true := bne_iff_ne.2 HD.out
  go_quiet (fail)
  go_wp2_with fail
  go_ret2
  exact RdP.stay HR.out (Fr.drewN hA nq)

set_option maxRecDepth 100000 in
set_option maxHeartbeats 3200000 in
theorem radd_apart2 (w : World) (N g : Nat) (v : Value) (c f : Ck) (L : List Ck) (h : Rc w N g v L) (h0 : L[0]? = some f) (hc : ckB c = true) (hl : L.length ≤ 2000) (hd : f.d = c.d) (ht : ¬ f.t = c.t) :
    Calls Try.prog 16 #[.pointer (some ⟨g, 0, none⟩), c.V] w (RdP w N g false 7 L) := by
  have CC := hid (fun (W : World) => refRight25_calls W c)
  rw [hc] at CC
  obtain ⟨d, t, n, s, q⟩ := c
  have HD : Hid (f.d = d) := hid hd
  clear hd
  have HT : Hid (¬ f.t = t) := hid ht
  clear ht
  obtain ⟨A, cap, rfl, h1, h2, hx⟩ := h.shape
  have HR := hid h
  have HL : Hid (L.length ≤ 2000) := hid hl
  obtain ⟨o, rfl, hc0⟩ := hx 0 f h0
  have HD0 := hid (hc0 0 _ rfl)
  have HD1 := hid (hc0 1 _ rfl)
  have hln0 : 0 < L.length := (List.getElem?_eq_some_iff.1 h0).1
  clear h hx h2 hc0 h0
  obtain ⟨fd, ft, fn, fs, fc⟩ := f
  simp only at HD0 HD1
  unfold Ck.V at *
  simp only at CC ⊢
  clear hc
  go_enter Try.func16, Try.ntmps16
  go_upto_region 3 with (go_at_call 12; refine (CC.out _).mono ?_; rintro e w1 ⟨rfl, hf1⟩)
  have hA := Fr.trans (Fr.alloc (Fr.refl w (fun _ => False)) (.cells #[.int .i64 d, .int .i64 t, .int .i64 n, .string s, .int .i64 q] 35)) hf1
  have hx1 := hf1.at_ (alloc_new w (.cells #[.int .i64 d, .int .i64 t, .int .i64 n, .string s, .int .i64 q] 35)) (fun x => x)
  clear hf1
  have hR1 := HR.out.fr hA (fun _ _ x => x)
  have y0 := cell_blk hR1.2.1 0
  have x0 := cell_blk hx1 0
  have x1 := cell_blk hx1 1
  have x2 := cell_blk hx1 2
  simp only [List.getElem?_toArray, List.getElem?_cons_zero, List.getElem?_cons_succ] at y0 x0 x1 x2
  have q0 := cell_keep HD0.out hA
  have q1 := cell_keep HD1.out hA
  rw [Nat.zero_mul, Nat.zero_add] at q0 q1
  have e1 : (fd != d) = false := by rw [show fd = d from HD.out]; simp
  have e2 : (ft != t) = true := bne_iff_ne.2 HT.out
  go_quiet (fail)
  go_wp2_with fail
  go_ret2
  exact RdP.stay HR.out (Fr.drewN hA nq)

set_option maxRecDepth 100000 in
set_option maxHeartbeats 3200000 in
theorem radd_there (w : World) (N g : Nat) (v : Value) (c f : Ck) (L : List Ck) (h : Rc w N g v L) (h0 : L[0]? = some f) (hc : ckB c = true) (hl : L.length ≤ 2000) (hd : f.d = c.d) (ht : f.t = c.t) (y : Ck) (hff : ff L c.n = some y) :
    Calls Try.prog 16 #[.pointer (some ⟨g, 0, none⟩), c.V] w (RdP w N g false 0 L) := by
  have CC := hid (fun (W : World) => refRight25_calls W c)
  rw [hc] at CC
  obtain ⟨d, t, n, s, q⟩ := c
  have HD : Hid (f.d = d) := hid hd
  clear hd
  have HT : Hid (f.t = t) := hid ht
  clear ht
  obtain ⟨A, cap, rfl, h1, h2, hx⟩ := h.shape
  have HR := hid h
  have HL : Hid (L.length ≤ 2000) := hid hl
  obtain ⟨o, rfl, hc0⟩ := hx 0 f h0
  have HD0 := hid (hc0 0 _ rfl)
  have HD1 := hid (hc0 1 _ rfl)
  have hln0 : 0 < L.length := (List.getElem?_eq_some_iff.1 h0).1
  have HH : Hid (∀ W : World, Rc W N g (.slice (some ⟨o, 0, none⟩) L.length cap) L → Calls Try.prog 28 #[.pointer (some ⟨g, 0, none⟩), .int .i64 n] W fun e w' => e = .returned (.tuple #[(.agg #[.int .i64 y.d, .int .i64 y.t, .int .i64 y.n, .string y.s, .int .i64 y.c]), .bool true]) ∧ Fr W w' (fun _ => False)) := hid (fun W hr => by
    have := has_calls W N g _ L n hr (by omega)
    rw [show ff L n = some y from hff] at this
    exact this)
  clear hff
  clear h hx h2 hc0 h0
  obtain ⟨fd, ft, fn, fs, fc⟩ := f
  simp only at HD0 HD1
  unfold Ck.V at *
  simp only at CC ⊢
  clear hc
  go_enter Try.func16, Try.ntmps16
  go_upto_region 3 with (go_at_call 12; refine (CC.out _).mono ?_; rintro e w1 ⟨rfl, hf1⟩)
  have hA := Fr.trans (Fr.alloc (Fr.refl w (fun _ => False)) (.cells #[.int .i64 d, .int .i64 t, .int .i64 n, .string s, .int .i64 q] 35)) hf1
  have hx1 := hf1.at_ (alloc_new w (.cells #[.int .i64 d, .int .i64 t, .int .i64 n, .string s, .int .i64 q] 35)) (fun x => x)
  clear hf1
  have hR1 := HR.out.fr hA (fun _ _ x => x)
  have y0 := cell_blk hR1.2.1 0
  have x0 := cell_blk hx1 0
  have x1 := cell_blk hx1 1
  have x2 := cell_blk hx1 2
  simp only [List.getElem?_toArray, List.getElem?_cons_zero, List.getElem?_cons_succ] at y0 x0 x1 x2
  have q0 := cell_keep HD0.out hA
  have q1 := cell_keep HD1.out hA
  rw [Nat.zero_mul, Nat.zero_add] at q0 q1
  have e1 : (fd != d) = false := by rw [show fd = d from HD.out]; simp
  have e2 : (ft != t) = false := by rw [show ft = t from HT.out]; simp
  go_quiet (fail)
  have hA2 := hid (hA.drewN nq)
  have hR2 : Rc (w1.drewN nq) N g _ _ := hR1.fr ((Fr.refl w1 (fun _ => False)).drewN nq) (fun _ _ x => x)
  have hx2 : (w1.drewN nq).heap[w.heap.size]? = some (.cells #[.int .i64 d, .int .i64 t, .int .i64 n, .string s, .int .i64 q] 35 (0, 0)) := hx1
  generalize w1.drewN nq = w2 at *
  clear hx1 hA hR1 y0 x0 x1 x2
  have x2 := cell_blk hx2 2
  simp only [List.getElem?_toArray, List.getElem?_cons_zero, List.getElem?_cons_succ] at x2
  have HX2 := hid hx2
  have HR2 := hid hR2
  have HS := hid HH
  clear hx2 hR2
  go_wp2_with (go_at_call 28; refine (HH.out _ HR2.out).mono ?_; rintro e w3 ⟨rfl, hf3⟩)
  go_ret2
  exact RdP.stay HR.out (Fr.alloc (Fr.trans hA2.out hf3) _)

set_option maxRecDepth 100000 in
set_option maxHeartbeats 3200000 in
theorem radd_new (w : World) (N g : Nat) (v : Value) (c f : Ck) (L : List Ck) (h : Rc w N g v L) (h0 : L[0]? = some f) (hc : ckB c = true) (hl : L.length ≤ 2000) (hd : f.d = c.d) (ht : f.t = c.t) (hff : ff L c.n = none) :
    Calls Try.prog 16 #[.pointer (some ⟨g, 0, none⟩), c.V] w (RdP w N g true 0 (L ++ [c])) := by
  have CC := hid (fun (W : World) => refRight25_calls W c)
  rw [hc] at CC
  obtain ⟨d, t, n, s, q⟩ := c
  have HD : Hid (f.d = d) := hid hd
  clear hd
  have HT : Hid (f.t = t) := hid ht
  clear ht
  obtain ⟨A, cap, rfl, h1, h2, hx⟩ := h.shape
  have HR := hid h
  have HL : Hid (L.length ≤ 2000) := hid hl
  obtain ⟨o, rfl, hc0⟩ := hx 0 f h0
  have HD0 := hid (hc0 0 _ rfl)
  have HD1 := hid (hc0 1 _ rfl)
  have hln0 : 0 < L.length := (List.getElem?_eq_some_iff.1 h0).1
  have HH : Hid (∀ W : World, Rc W N g (.slice (some ⟨o, 0, none⟩) L.length cap) L → Calls Try.prog 28 #[.pointer (some ⟨g, 0, none⟩), .int .i64 n] W fun e w' => e = .returned (.tuple #[(.agg #[.int .i64 0, .int .i64 0, .int .i64 0, .string ⟨#[]⟩, .int .i64 0]), .bool false]) ∧ Fr W w' (fun _ => False)) := hid (fun W hr => by
    have := has_calls W N g _ L n hr (by omega)
    rw [show ff L n = none from hff] at this
    exact this)
  clear hff
  clear h hx h2 hc0 h0
  obtain ⟨fd, ft, fn, fs, fc⟩ := f
  simp only at HD0 HD1
  unfold Ck.V at *
  simp only at CC ⊢
  clear hc
  go_enter Try.func16, Try.ntmps16
  go_upto_region 3 with (go_at_call 12; refine (CC.out _).mono ?_; rintro e w1 ⟨rfl, hf1⟩)
  have hA := Fr.trans (Fr.alloc (Fr.refl w (fun _ => False)) (.cells #[.int .i64 d, .int .i64 t, .int .i64 n, .string s, .int .i64 q] 35)) hf1
  have hx1 := hf1.at_ (alloc_new w (.cells #[.int .i64 d, .int .i64 t, .int .i64 n, .string s, .int .i64 q] 35)) (fun x => x)
  clear hf1
  have hR1 := HR.out.fr hA (fun _ _ x => x)
  have y0 := cell_blk hR1.2.1 0
  have x0 := cell_blk hx1 0
  have x1 := cell_blk hx1 1
  have x2 := cell_blk hx1 2
  simp only [List.getElem?_toArray, List.getElem?_cons_zero, List.getElem?_cons_succ] at y0 x0 x1 x2
  have q0 := cell_keep HD0.out hA
  have q1 := cell_keep HD1.out hA
  rw [Nat.zero_mul, Nat.zero_add] at q0 q1
  have e1 : (fd != d) = false := by rw [show fd = d from HD.out]; simp
  have e2 : (ft != t) = false := by rw [show ft = t from HT.out]; simp
  go_quiet (fail)
  have hA2 := hid (hA.drewN nq)
  have hR2 : Rc (w1.drewN nq) N g _ _ := hR1.fr ((Fr.refl w1 (fun _ => False)).drewN nq) (fun _ _ x => x)
  have hx2 : (w1.drewN nq).heap[w.heap.size]? = some (.cells #[.int .i64 d, .int .i64 t, .int .i64 n, .string s, .int .i64 q] 35 (0, 0)) := hx1
  generalize w1.drewN nq = w2 at *
  clear hx1 hA hR1 y0 x0 x1 x2
  have x2 := cell_blk hx2 2
  simp only [List.getElem?_toArray, List.getElem?_cons_zero, List.getElem?_cons_succ] at x2
  have HX2 := hid hx2
  have HR2 := hid hR2
  have HS := hid HH
  clear hx2 hR2
  go_upto_region 8 with (go_at_call 28; refine (HH.out _ HR2.out).mono ?_; rintro e w3 ⟨rfl, hf3⟩)
  have hA4 := (hA2.out.trans hf3).alloc (.cells #[.int .i64 0, .int .i64 0, .int .i64 0, .string ⟨#[]⟩, .int .i64 0] 35)
  have hf4 := hf3.alloc (.cells #[.int .i64 0, .int .i64 0, .int .i64 0, .string ⟨#[]⟩, .int .i64 0] 35)
  clear hf3
  generalize w3.alloc (.cells #[.int .i64 0, .int .i64 0, .int .i64 0, .string ⟨#[]⟩, .int .i64 0] 35) = w4 at *
  have h2 := HR2.out.fr hf4 (fun _ _ x => x)
  have hx2 := hf4.at_ HX2.out (fun x => x)
  clear hf4 x2
  have hb2 := h2.2.1
  have d0 := cell_blk hb2 0
  have f0 := free_blk hb2 0
  have c0 := cell_blk hx2 0
  have c1 := cell_blk hx2 1
  have c2 := cell_blk hx2 2
  have c3 := cell_blk hx2 3
  have c4 := cell_blk hx2 4
  simp only [List.getElem?_toArray, List.getElem?_cons_zero, List.getElem?_cons_succ] at d0 c0 c1 c2 c3 c4
  have hlt1 : w4.heap.size ≠ g := World.new_ne w4 _ d0
  have hlt2 : w4.heap.size ≠ w.heap.size := World.new_ne w4 _ c0
  have da : ∀ ob : Obj, (w4.alloc ob).cell? ⟨g, 0, none⟩ = some (.slice (some ⟨o, 0, none⟩) L.length cap) := fun ob => cell_keep d0 ((Fr.refl w4 _).alloc ob)
  obtain ⟨i0, hi, hz0, hz1, hz2⟩ := info_parts info_rck
  have HO := hid (fun (o : Obj) => (h2.2.2.alloc o))
  have hNw : N ≤ w4.heap.size := Nat.le_trans h2.1 (Nat.le_of_lt h2.lt)
  go_region_law ((refine step_append_lies _ (by rfl) _ _ _ (by rfl) N 35 i0 _ 5 48 Try.underlying30 hi hz0 hz1 hz2 rfl (by omega) (.slice (some ⟨o, 0, none⟩) L.length cap) _ _ (by rfl) (HO.out _) ⟨w4.heap.size, 0, none⟩ 1 1 (Ck.cells ⟨d, t, n, s, q⟩) (by rfl) (by rfl) (World.news_of_block (cs := #[.int .i64 d, .int .i64 t, .int .i64 n, .string s, .int .i64 q]) (t := 35) (fr := (0, 0)) (alloc_new w4 _)) (ck_one _) (by omega) (by have := HL.out; unfold maxLen; omega) (by have := HL.out; omega) (by simp; omega) (w4.heap.size + 1) (by simp) ?_; intro gg cap5 w5 hown5 hgrow hat hlt5; obtain ⟨b5, c5, f5⟩ : w5.heap[g]? = some (.cells #[(.slice (some ⟨o, 0, none⟩) L.length cap)] 42 (0, 0)) ∧ w5.cell? ⟨g, 0, none⟩ = some (.slice (some ⟨o, 0, none⟩) L.length cap) ∧ w5.frozen? ⟨g, 0, none⟩ = false := (by first | exact Rc.grown_c0 (h2.fr ((Fr.refl w4 (fun _ => False)).alloc _) (fun _ _ x => x)) hgrow | exact Rc.grown_c0 (h2.fr ((Fr.refl w4 (fun _ => False)).alloc _).drew (fun _ _ x => x)) hgrow)))
  all_goals
    have hP := Rc.push (x := ⟨d, t, n, s, q⟩) (h2.fr ((Fr.refl w4 (fun _ => False)).alloc _).drew (fun _ _ x => x)) hown5 hgrow
    go_wp2_with fail
    go_ret2
    refine ⟨rfl, _, hP.1, ?_⟩
    exact (((hA4.mono (fun _ _ x => x.elim)).alloc _).drew).trans hP.2

theorem radd_calls (w : World) (N g : Nat) (v : Value) (c : Ck) (L : List Ck) (h : Rc w N g v L) (hl : L.length ≤ 2000) :
    Calls Try.prog 16 #[.pointer (some ⟨g, 0, none⟩), c.V] w (RdP w N g (adB L c) (adE L c) (adL L c)) := by
  by_cases hc : ckB c = true
  · cases hL : L with
    | nil =>
      subst hL
      have e1 : adE [] c = 0 := by unfold adE; rw [if_neg (by rw [hc]; decide)]; rfl
      have e2 : adB [] c = true := by unfold adB; rw [e1]; rfl
      unfold adL
      rw [e1, e2, if_pos rfl]
      exact radd_first w N g v c h hc
    | cons f r =>
      rw [← hL]
      have h0 : L[0]? = some f := by rw [hL]; rfl
      have hh : L.head? = some f := by rw [hL]; rfl
      have hE : adE L c = if f.d ≠ c.d ∨ f.t ≠ c.t then 7 else 0 := by unfold adE; rw [if_neg (by rw [hc]; decide), hh]
      by_cases hd : f.d = c.d
      · by_cases ht : f.t = c.t
        · have e1 : adE L c = 0 := by rw [hE, if_neg (by rintro (e | e); exact e hd; exact e ht)]
          cases hn : ff L c.n with
          | none =>
            have e2 : adB L c = true := by unfold adB; rw [e1, hs_ff, hn]; rfl
            unfold adL
            rw [e1, e2, if_pos rfl]
            exact radd_new w N g v c f L h h0 hc hl hd ht hn
          | some y =>
            have e2 : adB L c = false := by unfold adB; rw [e1, hs_ff, hn]; rfl
            unfold adL
            rw [e1, e2, if_neg (by decide)]
            exact radd_there w N g v c f L h h0 hc hl hd ht y hn
        · have e1 : adE L c = 7 := by rw [hE, if_pos (.inr ht)]
          have e2 : adB L c = false := by unfold adB; rw [e1]; rfl
          unfold adL
          rw [e1, e2, if_neg (by decide)]
          exact radd_apart2 w N g v c f L h h0 hc hl hd ht
      · have e1 : adE L c = 7 := by rw [hE, if_pos (.inl hd)]
        have e2 : adB L c = false := by unfold adB; rw [e1]; rfl
        unfold adL
        rw [e1, e2, if_neg (by decide)]
        exact radd_apart1 w N g v c f L h h0 hc hl hd
  · rw [Bool.not_eq_true] at hc
    have e1 : adE L c = 4 := if_pos hc
    have e2 : adB L c = false := by unfold adB; rw [e1]; rfl
    unfold adL
    rw [e1, e2, if_neg (by decide)]
    exact radd_no w N g v c L h hc
end Go.Proofs.Ythnigmbdacjlnaa.Cw
