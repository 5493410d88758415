/- The reference's log in memory: its View, and Get of both. Own work. -/
import Derived.Test.YtbphkbbidbjpmaaReQ
import Derived.Test.YtbphkbbidbjpmaaRpN
namespace Go.Proofs.Ytbphkbbidbjpmaa.Cw
open Go.RowKit
set_option linter.unusedVariables false
set_option linter.unusedSimpArgs false

/-- A log of the reference at block g. -/
def Lr (w : World) (g : Nat) (v : Value) (es : List En) : Prop := w.heap[g]? = some (.cells #[v] 50 (0, 0)) ∧ WR w v es
theorem Lr.c0 {w : World} {g : Nat} {v : Value} {es : List En} (h : Lr w g v es) : w.cell? ⟨g, 0, none⟩ = some v := cell_blk h.1 0
theorem Lr.f0 {w : World} {g : Nat} {v : Value} {es : List En} (h : Lr w g v es) : w.frozen? ⟨g, 0, none⟩ = false := free_blk h.1 0
theorem Lr.lt {w : World} {g : Nat} {v : Value} {es : List En} (h : Lr w g v es) : g < w.heap.size := blk_lt h.1
theorem Lr.sv {w : World} {g : Nat} {v : Value} {es : List En} (h : Lr w g v es) : Sv w v es := h.2.sv
theorem Lr.fr {w w' : World} {g : Nat} {v : Value} {es : List En} {S : Nat → Prop} (h : Lr w g v es) (k : Fr w w' S) (hs : ¬ S g) (hs2 : ∀ b, v.ownBlock = some b → ¬ S b) : Lr w' g v es := ⟨k.at_ h.1 hs, h.2.fr k hs2⟩
theorem Lr.heap {w w' : World} {g : Nat} {v : Value} {es : List En} (h : Lr w g v es) (k : Fr w w' (fun _ => False)) : Lr w' g v es := h.fr k (fun x => x) (fun _ _ x => x)
theorem Lr.alloc {w : World} {g : Nat} {v : Value} {es : List En} (h : Lr w g v es) (o : Obj) : Lr (w.alloc o) g v es := h.heap ((Fr.refl w _).alloc o)
theorem Lr.drew {w : World} {g : Nat} {v : Value} {es : List En} (h : Lr w g v es) : Lr w.drew g v es := h
theorem Lr.ne {w : World} {g : Nat} {v : Value} {es : List En} (h : Lr w g v es) : v.ownBlock ≠ some g := by
  intro hb
  rcases h.2 with ⟨rfl, _⟩ | ⟨g', cap, cur, rfl, hg, _⟩
  · cases hb
  · injection hb with hb
    have h1 := h.1
    subst hb
    have h2 : some (Obj.cells #[.slice (some ⟨g', 0, none⟩) es.length cap] 50 (0, 0)) = some (Obj.cells cur 25 (0, 0)) := h1.symm.trans hg
    injection h2 with h2
    injection h2 with _ h3
    exact absurd h3 (by decide)
theorem Lr.grown_c0 {W w4 : World} {g : Nat} {v : Value} {es : List En} (h : Lr W g v es) (hg : W.grownBy w4 v.ownBlock) : w4.heap[g]? = some (.cells #[v] 50 (0, 0)) ∧ w4.cell? ⟨g, 0, none⟩ = some v ∧ w4.frozen? ⟨g, 0, none⟩ = false := by
  have hb := (hg.block g h.lt (fun e => h.ne e.symm)).trans h.1
  exact ⟨hb, cell_blk hb 0, free_blk hb 0⟩
/-- The log's cell set to another row. -/
theorem Lr.put {w4 : World} {g : Nat} {v v' : Value} {fs : List En} (hb : w4.heap[g]? = some (.cells #[v] 50 (0, 0))) (h : WR w4 v' fs) : Lr (w4.setCell ⟨g, 0, none⟩ v') g v' fs := by
  refine ⟨(set_blk hb 0 v').trans (by rw [set_val]), ?_⟩
  refine h.kept (row := some g) ⟨rfl, rfl, rfl, by simp [World.setCell], fun k hk hne => Below.heap_setCell _ _ _ _ (fun e => hne (by rw [e]))⟩ ?_
  right
  intro hv
  rcases h with ⟨rfl, _⟩ | ⟨g', cap, cur, rfl, hg', _⟩
  · cases hv
  · injection hv with hv
    have hv : g' = g := hv
    subst hv
    have h3 : some (Obj.cells #[v] 50 (0, 0)) = some (Obj.cells cur 25 (0, 0)) := hb.symm.trans hg'
    injection h3 with h3
    injection h3 with _ h3
    exact absurd h3 (by decide)
theorem Lr.shape {w : World} {g : Nat} {v : Value} {es : List En} (h : Lr w g v es) : ∃ A cap, v = .slice A es.length cap ∧ es.length ≤ cap ∧
    ∀ (i : Nat) (x : En), es[i]? = some x → ∃ o, A = some ⟨o, 0, none⟩ ∧ v.ownBlock = some o ∧ ∀ j u, x.cells[j]? = some u → w.cell? ⟨o, i * 9 + j, none⟩ = some u := by
  have hcell := fun (b : Nat) (hb : v.ownBlock = some b) => h.2.cells hb
  rcases h.2 with ⟨rfl, rfl⟩ | ⟨g', cap, cur, rfl, hg, h1, h2, h3, h4⟩
  · exact ⟨none, 0, rfl, Nat.le_refl _, fun i x hx => by simp at hx⟩
  · refine ⟨some ⟨g', 0, none⟩, cap, rfl, h1, fun i x hx => ⟨g', rfl, rfl, fun j u hu => ?_⟩⟩
    have hj : j < 9 := (List.getElem?_eq_some_iff.1 hu).1
    have := hcell g' rfl (i * 9 + j) u ((en_flat es i x j hx hj).trans hu)
    rwa [Addr.add_mid, Nat.zero_add] at this
theorem Lr.push {W w4 : World} {g : Nat} {v v' : Value} {es : List En} {x : En} (h : Lr W g v es) (hown : WR w4 v' (es ++ [x])) (hg : W.grownBy w4 v.ownBlock) :
    Lr (w4.setCell ⟨g, 0, none⟩ v') g v' (es ++ [x]) ∧ Fr W (w4.setCell ⟨g, 0, none⟩ v') (WS g v) :=
  ⟨Lr.put (h.grown_c0 hg).1 hown, Fr.set ((Fr.refl W _).grown hg (fun k hk _ => .inr hk)) _ (fun _ => .inl rfl) _⟩

set_option maxRecDepth 100000 in
set_option maxHeartbeats 1600000 in
theorem rview_calls (w : World) (g : Nat) (v : Value) (es : List En) (h : Lr w g v es) (hl : es.length ≤ 4611686018427387904) :
    Calls Try.prog 28 #[.pointer (some ⟨g, 0, none⟩)] w fun e w' => e = .returned (.int .i64 (lastV es)) ∧ ∃ m, w' = w.drewN m := by
  by_cases h0 : es.length = 0
  · have he : es = [] := List.eq_nil_of_length_eq_zero h0
    subst he
    obtain ⟨A, cap, rfl, _, _⟩ := h.shape
    have c0 := h.c0
    rw [List.length_nil] at c0
    go_enter Try.func28, Try.ntmps28
    go_wp2
    go_ret
    exact ⟨rfl, 0, rfl⟩
  · obtain ⟨A, cap, rfl, _, hsh⟩ := h.shape
    obtain ⟨x, hx⟩ : ∃ x, es[es.length - 1]? = some x := ⟨_, List.getElem?_eq_getElem (by omega)⟩
    obtain ⟨o, rfl, _, hc⟩ := hsh _ x hx
    have hv := hc 0 _ rfl
    have c0 := h.c0
    have HV := hid (lastV_some es x hx)
    generalize hm : es.length = m at *
    obtain ⟨k, rfl⟩ : ∃ k, m = k + 1 := ⟨m - 1, by omega⟩
    have hv2 : w.cell? ⟨o, k * 9, none⟩ = some (.int .i64 x.a) := by simpa using hv
    have hb : (((k + 1 : Nat) : Int) == 0) = false := by rw [beq_eq_false_iff_ne]; omega
    clear hv hc hsh hx h0
    go_enter Try.func28, Try.ntmps28
    go_wp2_with fail
    go_quiet (fail)
    go_wp2
    go_ret
    exact ⟨ret1 HV.out.symm, _, rfl⟩

def zEn : En := ⟨0, 0, 0, 0, 0, 0, ⟨#[]⟩, ⟨#[]⟩, ⟨#[]⟩⟩
/-- What Get tells. -/
def gt (es : List En) (n : Int) : En := if n < 1 then zEn else (es[(n - 1).toNat]?).getD zEn
def gtE (es : List En) (n : Int) : Int := if n < 1 ∨ (es.length : Int) < n then 6 else 0
theorem gt_low {es : List En} {n : Int} (h : n < 1) : gt es n = zEn ∧ gtE es n = 6 := ⟨if_pos h, if_pos (.inl h)⟩
theorem gt_far {es : List En} {n : Int} (h : ¬ n < 1) (h2 : (es.length : Int) < n) : gt es n = zEn ∧ gtE es n = 6 := by
  refine ⟨?_, if_pos (.inr h2)⟩
  unfold gt
  rw [if_neg h, List.getElem?_eq_none (by omega)]
  rfl
theorem gt_in {es : List En} {m : Nat} {x : En} (h : es[m]? = some x) : gt es ((m : Int) + 1) = x ∧ gtE es ((m : Int) + 1) = 0 := by
  have hm := (List.getElem?_eq_some_iff.1 h).1
  refine ⟨?_, if_neg (by omega)⟩
  unfold gt
  rw [if_neg (by omega), show ((m : Int) + 1 - 1).toNat = m by omega, h]
  rfl
theorem zV : zEn.V = enV 0 0 0 0 0 0 ⟨#[]⟩ ⟨#[]⟩ ⟨#[]⟩ := rfl

set_option maxRecDepth 100000 in
set_option maxHeartbeats 3200000 in
theorem getw_any (w : World) (g : Nat) (v : Value) (es : List En) (n : Int) (h : Lw w g v es) (hl : es.length ≤ 4096) :
    Calls Try.prog 25 #[.pointer (some ⟨g, 0, none⟩), .int .i64 n] w fun e w' => e = .returned (.tuple #[(gt es n).V, .int .i64 (gtE es n)]) ∧ Fr w w' (fun _ => False) := by
  have c0 := h.c0
  obtain ⟨A, cap, rfl, h2, hsh⟩ := h.shape
  have c1 : ∀ o : Obj, (w.alloc o).cell? ⟨g, 0, none⟩ = some (.slice A es.length cap) := fun o => (h.alloc o).c0
  have hw := h.lt
  have hne : w.heap.size ≠ g := by omega
  by_cases hn1 : n < 1
  · rw [(gt_low hn1).1, (gt_low hn1).2]
    generalize es.length = N at *
    clear hsh
    rw [zV]
    unfold enV
    go_enter Try.func25, Try.ntmps25
    go_wp2_with (go_at_call 18; refine (len_cell _ _ _ _ _ (by first | exact c0 | exact c1)).mono ?_; rintro e w9 ⟨rfl, rfl⟩)
    refine bodyPost_ret (results_entry2 rfl _ _ _ rfl (load9 (v0 := (.int .i64 0)) (v1 := (.int .i64 0)) (v2 := (.int .i64 0)) (v3 := (.int .i64 0)) (v4 := (.int .i64 0)) (v5 := (.int .i64 0)) (v6 := (.string ⟨#[]⟩)) (v7 := (.string ⟨#[]⟩)) (v8 := (.string ⟨#[]⟩)) (t := 25) (alloc_new w _))) rfl ?_
    exact ⟨rfl, (Fr.refl w _).alloc _⟩
  · by_cases hn2 : (es.length : Int) < n
    · rw [(gt_far hn1 hn2).1, (gt_far hn1 hn2).2]
      generalize es.length = N at *
      clear hsh
      rw [zV]
      unfold enV
      have hd0 : decide (n < 1) = false := decide_eq_false hn1
      have hd : decide ((N : Int) < n) = true := decide_eq_true hn2
      have c1 := c1 (.cells #[.int .i64 0, .int .i64 0, .int .i64 0, .int .i64 0, .int .i64 0, .int .i64 0, .string ⟨#[]⟩, .string ⟨#[]⟩, .string ⟨#[]⟩] 25)
      go_enter Try.func25, Try.ntmps25
      go_wp2_with (go_at_call 18; refine (len_cell _ _ _ _ _ (by first | exact c0 | exact c1)).mono ?_; rintro e w9 ⟨rfl, rfl⟩)
      refine bodyPost_ret (results_entry2 rfl _ _ _ rfl (load9 (v0 := (.int .i64 0)) (v1 := (.int .i64 0)) (v2 := (.int .i64 0)) (v3 := (.int .i64 0)) (v4 := (.int .i64 0)) (v5 := (.int .i64 0)) (v6 := (.string ⟨#[]⟩)) (v7 := (.string ⟨#[]⟩)) (v8 := (.string ⟨#[]⟩)) (t := 25) (alloc_new w _))) rfl ?_
      exact ⟨rfl, (Fr.refl w _).alloc _⟩
    · obtain ⟨m, rfl⟩ : ∃ m : Nat, n = (m : Int) + 1 := ⟨(n - 1).toNat, by omega⟩
      obtain ⟨x, hx⟩ : ∃ x, es[m]? = some x := ⟨_, List.getElem?_eq_getElem (by omega)⟩
      rw [(gt_in hx).1, (gt_in hx).2]
      obtain ⟨o, rfl, _, hc⟩ := hsh m x hx
      have hom : ∀ j u, x.cells[j]? = some u → o < w.heap.size := fun j u hu => by
        have := hc j u hu
        rcases Nat.lt_or_ge o w.heap.size with h9 | h9
        · exact h9
        · unfold World.cell? at this
          simp [Array.getElem?_eq_none h9] at this
      have ho := hom 0 _ rfl
      have hne2 : w.heap.size ≠ o := by omega
      have hcell : ∀ j u, x.cells[j]? = some u → (w.alloc (.cells #[.int .i64 0, .int .i64 0, .int .i64 0, .int .i64 0, .int .i64 0, .int .i64 0, .string ⟨#[]⟩, .string ⟨#[]⟩, .string ⟨#[]⟩] 25)).cell? ⟨o, m * 9 + j, none⟩ = some u := fun j u hu => cell_fr (hc j u hu) ((Fr.refl w _).alloc _)
      obtain ⟨a, b, c, k, t, nn, p, q, r⟩ := x
      have d0 := hcell 0 _ rfl
      have d1 := hcell 1 _ rfl
      have d2 := hcell 2 _ rfl
      have d3 := hcell 3 _ rfl
      have d4 := hcell 4 _ rfl
      have d5 := hcell 5 _ rfl
      have d6 := hcell 6 _ rfl
      have d7 := hcell 7 _ rfl
      have d8 := hcell 8 _ rfl
      rw [Nat.add_zero] at d0
      have c1 := c1 (.cells #[.int .i64 0, .int .i64 0, .int .i64 0, .int .i64 0, .int .i64 0, .int .i64 0, .string ⟨#[]⟩, .string ⟨#[]⟩, .string ⟨#[]⟩] 25)
      clear hom hc hcell hsh hx h
      generalize es.length = N at *
      have hd0 : decide ((m : Int) + 1 < 1) = false := decide_eq_false hn1
      have hd : decide ((N : Int) < (m : Int) + 1) = false := decide_eq_false hn2
      have hw1 : IntKind.i64.wrap (m : Int) = (m : Int) := IntWalk.i64_in _ (by omega)
      have hb1 : (m : Int) < (N : Int) := by omega
      have hb2 : (0 : Int) ≤ (m : Int) := by omega
      unfold En.V enV
      simp only
      go_enter Try.func25, Try.ntmps25
      go_wp2_with (go_at_call 18; refine (len_cell _ _ _ _ _ (by first | exact c0 | exact c1)).mono ?_; rintro e w9 ⟨rfl, rfl⟩)
      refine bodyPost_ret (results_entry2 rfl _ _ _ rfl (load9 (v0 := (.int .i64 a)) (v1 := (.int .i64 b)) (v2 := (.int .i64 c)) (v3 := (.int .i64 k)) (v4 := (.int .i64 t)) (v5 := (.int .i64 nn)) (v6 := (.string p)) (v7 := (.string q)) (v8 := (.string r)) (t := 25) (alloc_new w _))) rfl ?_
      exact ⟨rfl, (Fr.refl w _).alloc _⟩

set_option maxRecDepth 100000 in
set_option maxHeartbeats 3200000 in
theorem rget_any (w : World) (g : Nat) (v : Value) (es : List En) (n : Int) (h : Lr w g v es) (hl : es.length ≤ 4096) :
    Calls Try.prog 26 #[.pointer (some ⟨g, 0, none⟩), .int .i64 n] w fun e w' => e = .returned (.tuple #[(gt es n).V, .int .i64 (gtE es n)]) ∧ Fr w w' (fun _ => False) := by
  have c0 := h.c0
  obtain ⟨A, cap, rfl, h2, hsh⟩ := h.shape
  have c1 : ∀ o : Obj, (w.alloc o).cell? ⟨g, 0, none⟩ = some (.slice A es.length cap) := fun o => (h.alloc o).c0
  have hw := h.lt
  have hne : w.heap.size ≠ g := by omega
  by_cases hn1 : n < 1
  · rw [(gt_low hn1).1, (gt_low hn1).2]
    generalize es.length = N at *
    clear hsh
    rw [zV]
    unfold enV
    go_enter Try.func26, Try.ntmps26
    go_wp2_with fail
    refine bodyPost_ret (results_entry2 rfl _ _ _ rfl (load9 (v0 := (.int .i64 0)) (v1 := (.int .i64 0)) (v2 := (.int .i64 0)) (v3 := (.int .i64 0)) (v4 := (.int .i64 0)) (v5 := (.int .i64 0)) (v6 := (.string ⟨#[]⟩)) (v7 := (.string ⟨#[]⟩)) (v8 := (.string ⟨#[]⟩)) (t := 25) (alloc_new w _))) rfl ?_
    exact ⟨rfl, (Fr.refl w _).alloc _⟩
  · by_cases hn2 : (es.length : Int) < n
    · rw [(gt_far hn1 hn2).1, (gt_far hn1 hn2).2]
      generalize es.length = N at *
      clear hsh
      rw [zV]
      unfold enV
      have hd0 : decide (n < 1) = false := decide_eq_false hn1
      have hd : decide ((N : Int) < n) = true := decide_eq_true hn2
      have c1 := c1 (.cells #[.int .i64 0, .int .i64 0, .int .i64 0, .int .i64 0, .int .i64 0, .int .i64 0, .string ⟨#[]⟩, .string ⟨#[]⟩, .string ⟨#[]⟩] 25)
      go_enter Try.func26, Try.ntmps26
      go_wp2_with fail
      refine bodyPost_ret (results_entry2 rfl _ _ _ rfl (load9 (v0 := (.int .i64 0)) (v1 := (.int .i64 0)) (v2 := (.int .i64 0)) (v3 := (.int .i64 0)) (v4 := (.int .i64 0)) (v5 := (.int .i64 0)) (v6 := (.string ⟨#[]⟩)) (v7 := (.string ⟨#[]⟩)) (v8 := (.string ⟨#[]⟩)) (t := 25) (alloc_new w _))) rfl ?_
      exact ⟨rfl, (Fr.refl w _).alloc _⟩
    · obtain ⟨m, rfl⟩ : ∃ m : Nat, n = (m : Int) + 1 := ⟨(n - 1).toNat, by omega⟩
      obtain ⟨x, hx⟩ : ∃ x, es[m]? = some x := ⟨_, List.getElem?_eq_getElem (by omega)⟩
      rw [(gt_in hx).1, (gt_in hx).2]
      obtain ⟨o, rfl, _, hc⟩ := hsh m x hx
      have hom : ∀ j u, x.cells[j]? = some u → o < w.heap.size := fun j u hu => by
        have := hc j u hu
        rcases Nat.lt_or_ge o w.heap.size with h9 | h9
        · exact h9
        · unfold World.cell? at this
          simp [Array.getElem?_eq_none h9] at this
      have ho := hom 0 _ rfl
      have hne2 : w.heap.size ≠ o := by omega
      have hcell : ∀ j u, x.cells[j]? = some u → (w.alloc (.cells #[.int .i64 0, .int .i64 0, .int .i64 0, .int .i64 0, .int .i64 0, .int .i64 0, .string ⟨#[]⟩, .string ⟨#[]⟩, .string ⟨#[]⟩] 25)).cell? ⟨o, m * 9 + j, none⟩ = some u := fun j u hu => cell_fr (hc j u hu) ((Fr.refl w _).alloc _)
      obtain ⟨a, b, c, k, t, nn, p, q, r⟩ := x
      have d0 := hcell 0 _ rfl
      have d1 := hcell 1 _ rfl
      have d2 := hcell 2 _ rfl
      have d3 := hcell 3 _ rfl
      have d4 := hcell 4 _ rfl
      have d5 := hcell 5 _ rfl
      have d6 := hcell 6 _ rfl
      have d7 := hcell 7 _ rfl
      have d8 := hcell 8 _ rfl
      rw [Nat.add_zero] at d0
      have c1 := c1 (.cells #[.int .i64 0, .int .i64 0, .int .i64 0, .int .i64 0, .int .i64 0, .int .i64 0, .string ⟨#[]⟩, .string ⟨#[]⟩, .string ⟨#[]⟩] 25)
      clear hom hc hcell hsh hx h
      generalize es.length = N at *
      have hd0 : decide ((m : Int) + 1 < 1) = false := decide_eq_false hn1
      have hd : decide ((N : Int) < (m : Int) + 1) = false := decide_eq_false hn2
      have hw1 : IntKind.i64.wrap (m : Int) = (m : Int) := IntWalk.i64_in _ (by omega)
      have hb1 : (m : Int) < (N : Int) := by omega
      have hb2 : (0 : Int) ≤ (m : Int) := by omega
      unfold En.V enV
      simp only
      go_enter Try.func26, Try.ntmps26
      go_wp2_with fail
      refine bodyPost_ret (results_entry2 rfl _ _ _ rfl (load9 (v0 := (.int .i64 a)) (v1 := (.int .i64 b)) (v2 := (.int .i64 c)) (v3 := (.int .i64 k)) (v4 := (.int .i64 t)) (v5 := (.int .i64 nn)) (v6 := (.string p)) (v7 := (.string q)) (v8 := (.string r)) (t := 25) (alloc_new w _))) rfl ?_
      exact ⟨rfl, (Fr.refl w _).alloc _⟩

end Go.Proofs.Ytbphkbbidbjpmaa.Cw
