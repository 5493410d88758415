/- The reference's collector: has. Own work. -/
import Derived.Test.YthnigmbdacjlnaaCkQ
namespace Go.Proofs.Ythnigmbdacjlnaa.Cw
open Go.RowKit
set_option linter.unusedVariables false
set_option linter.unusedSimpArgs false

/-- A collector of the reference at block g; its blocks are from N on. -/
def Rc (w : World) (N g : Nat) (v : Value) (L : List Ck) : Prop := N ≤ g ∧ w.heap[g]? = some (.cells #[v] 42 (0, 0)) ∧ w.ownsRow N 35 5 v L.length (L.flatMap Ck.cells)
theorem Rc.lt {w : World} {N g : Nat} {v : Value} {L : List Ck} (h : Rc w N g v L) : g < w.heap.size := blk_lt h.2.1
theorem Rc.shape {w : World} {N g : Nat} {v : Value} {L : List Ck} (h : Rc w N g v L) : ∃ A cap, v = .slice A L.length cap ∧ L.length ≤ cap ∧ cap ≤ maxLen ∧
    (∀ i x, L[i]? = some x → ∃ o, A = some ⟨o, 0, none⟩ ∧ ∀ j u, x.cells[j]? = some u → w.cell? ⟨o, i * 5 + j, none⟩ = some u) := by
  have hc := fun (g : Nat) (hg : v.ownBlock = some g) => h.2.2.cells (g := g) hg
  rcases h.2.2.2 with ⟨rfl, h0⟩ | ⟨g', cap, cur, rfl, _, hg, h1, h2, h3, h4⟩
  · rw [h0]
    refine ⟨none, 0, rfl, Nat.le_refl _, by unfold maxLen; omega, fun i x hx => ?_⟩
    rw [List.eq_nil_of_length_eq_zero h0] at hx
    cases hx
  · refine ⟨_, cap, rfl, h1, h2, fun i x hx => ⟨g', rfl, fun j u hu => ?_⟩⟩
    have hj : j < 5 := (List.getElem?_eq_some_iff.1 hu).1
    have := hc g' rfl (i * 5 + j) u ((ck_flat L i x j hx hj).trans hu)
    rwa [Addr.add_mid, Nat.zero_add] at this
theorem Rc.fr {w w' : World} {N g : Nat} {v : Value} {L : List Ck} {S : Nat → Prop} (h : Rc w N g v L) (hf : Fr w w' S) (hs : ∀ i, N ≤ i → ¬ S i) : Rc w' N g v L := by
  refine ⟨h.1, hf.at_ h.2.1 (hs _ h.1), h.2.2.1, ?_⟩
  rcases h.2.2.2 with hn | ⟨g', cap, cur, rfl, hb, hg, hr⟩
  · exact .inl hn
  · exact .inr ⟨g', cap, cur, rfl, hb, hf.at_ hg (hs _ hb), hr⟩

/-- The first chunk of a number. -/
def ff (L : List Ck) (n : Int) : Option Ck := L.find? (fun c => c.n == n)
theorem hs_ff (L : List Ck) (n : Int) : hs L n = (ff L n).map (·.s) := rfl

theorem set5b {w : World} {b : Nat} {t : TypeId} {o0 o1 o2 o3 o4 : Value} (v0 v1 v2 v3 v4 : Value) (h : w.heap[b]? = some (.cells #[o0, o1, o2, o3, o4] t (0, 0))) :
    (((((w.setCell ⟨b, 0, none⟩ v0).setCell ⟨b, 1, none⟩ v1).setCell ⟨b, 2, none⟩ v2).setCell ⟨b, 3, none⟩ v3).setCell ⟨b, 4, none⟩ v4).heap[b]? = some (.cells #[v0, v1, v2, v3, v4] t (0, 0)) := by
  have g0 := set_blk h 0 v0
  have g1 := set_blk g0 1 v1
  have g2 := set_blk g1 2 v2
  have g3 := set_blk g2 3 v3
  have g4 := set_blk g3 4 v4
  simp only [List.setIfInBounds_toArray, List.set_cons_zero, List.set_cons_succ] at g4
  exact g4
theorem load5 {w : World} {b : Nat} {t : TypeId} {v0 v1 v2 v3 v4 : Value} (h : w.heap[b]? = some (.cells #[v0, v1, v2, v3, v4] t (0, 0))) :
    (loadVar 35 ⟨b, 0, none⟩).run Try.prog w = .ok (.agg #[v0, v1, v2, v3, v4]) w := by
  obtain ⟨i0, hi, _, hz1, _⟩ := info_parts info_rck
  refine run_loadVar_mid w b 0 35 [v0, v1, v2, v3, v4] _ ?_ Try.underlying35 rfl (by rw [hi]; exact congrArg some hz1)
  intro j v hj
  rw [cell_blk h, Nat.zero_add]
  simpa using hj
theorem results_ck {fn : Func} {u x : Tmp} (h : fn.results = #[.cell u 35, .tmp x]) (tmps : Array Value) (w : World) (b : Nat) (hb : tmps.getD u undef = .pointer (some ⟨b, 0, none⟩)) {cs : Value}
    (hl : (loadVar 35 ⟨b, 0, none⟩).run Try.prog w = .ok cs w) :
    (results fn tmps).run Try.prog w = .ok (.tuple #[cs, tmps.getD x undef]) w := by
  have hb' : tmps[u]?.getD undef = .pointer (some ⟨b, 0, none⟩) := by simpa using hb
  simp [results, h, hb', hl, Sem.run_bind, asAddr]
theorem results_ck1 {fn : Func} {u : Tmp} (h : fn.results = #[.cell u 35]) (tmps : Array Value) (w : World) (b : Nat) (hb : tmps.getD u undef = .pointer (some ⟨b, 0, none⟩)) {cs : Value}
    (hl : (loadVar 35 ⟨b, 0, none⟩).run Try.prog w = .ok cs w) :
    (results fn tmps).run Try.prog w = .ok cs w := by
  have hb' : tmps[u]?.getD undef = .pointer (some ⟨b, 0, none⟩) := by simpa using hb
  simp [results, h, hb', hl, Sem.run_bind, asAddr]
theorem ff_at {L : List Ck} {i : Nat} {x : Ck} {n : Int} (hx : L[i]? = some x) (hn : x.n = n) (hb : ∀ j y, j < i → L[j]? = some y → ¬ y.n = n) : ff L n = some x := by
  unfold ff
  induction L generalizing i with
  | nil => cases hx
  | cons y r ih =>
    cases i with
    | zero =>
      simp only [List.getElem?_cons_zero, Option.some.injEq] at hx
      subst hx
      rw [List.find?_cons_of_pos (by simpa using hn)]
    | succ i =>
      rw [List.getElem?_cons_succ] at hx
      rw [List.find?_cons_of_neg (by have := hb 0 y (by omega) rfl; simpa using this)]
      exact ih hx (fun j z hj hz => hb (j + 1) z (by omega) (by rw [List.getElem?_cons_succ]; exact hz))
theorem ff_none {L : List Ck} {n : Int} (hb : ∀ j y, j < L.length → L[j]? = some y → ¬ y.n = n) : ff L n = none := by
  unfold ff
  rw [List.find?_eq_none]
  intro c hc
  obtain ⟨j, hj⟩ := List.getElem?_of_mem hc
  have := hb j c (List.getElem?_eq_some_iff.1 hj).1 hj
  simpa using this

set_option maxRecDepth 100000 in
set_option maxHeartbeats 3200000 in
theorem has_calls (w : World) (N g : Nat) (v : Value) (L : List Ck) (n : Int) (h : Rc w N g v L) (hl : L.length ≤ 1000000) :
    Calls Try.prog 28 #[.pointer (some ⟨g, 0, none⟩), .int .i64 n] w fun e w' => e = .returned (.tuple #[((ff L n).getD zCk).V, .bool (ff L n).isSome]) ∧ Fr w w' (fun _ => False) := by
  have y0 := cell_blk h.2.1 0
  simp only [List.getElem?_toArray, List.getElem?_cons_zero, List.getElem?_cons_succ] at y0
  obtain ⟨A, cap, rfl, h1, h2, hx⟩ := h.shape
  have hgl := h.lt
  have HX := hid hx
  have HLX := hid (fun (i : Nat) (hi : i < L.length) => (⟨_, List.getElem?_eq_getElem hi⟩ : ∃ x, L[i]? = some x))
  have HF0 := hid (fun (hb : ∀ j y, j < L.length → L[j]? = some y → ¬ y.n = n) => ff_none hb)
  clear h hx h2
  generalize hln : L.length = ln at *
  have HLN := hid hln
  clear hln
  go_enter Try.func28, Try.ntmps28
  go_wp2_with fail
  have HW := hid ((Fr.refl w (fun _ => False)).alloc (.cells #[.int .i64 0, .int .i64 0, .int .i64 0, .string ⟨#[]⟩, .int .i64 0] 35))
  have HP := hid (alloc_new w (.cells #[.int .i64 0, .int .i64 0, .int .i64 0, .string ⟨#[]⟩, .int .i64 0] 35))
  generalize hw2 : w.alloc (.cells #[.int .i64 0, .int .i64 0, .int .i64 0, .string ⟨#[]⟩, .int .i64 0] 35) = w2 at *
  clear hw2
  obtain ⟨B, hB⟩ : ∃ B, w.heap.size = B := ⟨_, rfl⟩
  rw [hB] at HP hgl
  rw [hB]
  have HB : Hid (w.heap.size = B) := hid hB
  clear hB
  go_loopw [13] (fun t wr => ∃ i : Nat, i ≤ ln ∧ t = .int .i64 i ∧ Fr w wr (fun _ => False) ∧ wr.heap[B]? = some (.cells #[.int .i64 0, .int .i64 0, .int .i64 0, .string ⟨#[]⟩, .int .i64 0] 35 (0, 0)) ∧ (∀ j y, j < i → L[j]? = some y → ¬ y.n = n)) (fun t _ => ln - (intOf t).toNat)
  case atStart => exact ⟨0, by omega, rfl, HW.out, HP.out, fun j y hj => by omega⟩
  case round =>
    obtain ⟨i, hi, rfl, hf, hp, hno⟩ := hrel
    by_cases hil : i < ln
    · obtain ⟨x, hx⟩ := HLX.out i hil
      obtain ⟨o, rfl, hc⟩ := HX.out i x hx
      have d0 := cell_keep (hc 0 _ rfl) hf
      have d1 := cell_keep (hc 1 _ rfl) hf
      have d2 := cell_keep (hc 2 _ rfl) hf
      have d3 := cell_keep (hc 3 _ rfl) hf
      have d4 := cell_keep (hc 4 _ rfl) hf
      rw [Nat.add_zero] at d0
      have HNO := hid hno
      have HPP := hid hp
      have HF := hid hf
      have HXX := hid hx
      have hpl := blk_lt hp
      have hpn : ¬ wr.heap.size = B := by omega
      have z0 := free_blk hp 0
      have z1 := free_blk hp 1
      have z2 := free_blk hp 2
      have z3 := free_blk hp 3
      have z4 := free_blk hp 4
      have c0 := cell_blk hp 0
      have c1 := cell_blk hp 1
      have c2 := cell_blk hp 2
      have c3 := cell_blk hp 3
      have c4 := cell_blk hp 4
      simp only [List.getElem?_toArray, List.getElem?_cons_zero, List.getElem?_cons_succ] at c0 c1 c2 c3 c4
      clear hc hno hp hf hx
      by_cases hxn : x.n = n
      · have HR := hid (ff_at HXX.out hxn HNO.out)
        obtain ⟨xd, xt, xn, xs, xc⟩ := x
        simp only at d0 d1 d2 d3 d4 hxn
        subst hxn
        go_wp2_with fail
        have n9 : ∀ k : Nat, (⟨B, k, none⟩ : Addr).block < w.heap.size → (fun _ => False) (⟨B, k, none⟩ : Addr).block := fun k hk => by
          have hk : B < w.heap.size := hk
          have := HB.out
          omega
        have h5 := set5b (.int .i64 xd) (.int .i64 xt) (.int .i64 xn) (.string xs) (.int .i64 xc) HPP.out
        have f5 := ((((HF.out.set _ (n9 0) (.int .i64 xd)).set _ (n9 1) (.int .i64 xt)).set _ (n9 2) (.int .i64 xn)).set _ (n9 3) (.string xs)).set _ (n9 4) (.int .i64 xc)
        generalize ((((wr.setCell ⟨B, 0, none⟩ (.int .i64 xd)).setCell ⟨B, 1, none⟩ (.int .i64 xt)).setCell ⟨B, 2, none⟩ (.int .i64 xn)).setCell ⟨B, 3, none⟩ (.string xs)).setCell ⟨B, 4, none⟩ (.int .i64 xc) = w5 at *
        refine bodyPost_ret (results_ck rfl _ _ _ rfl (load5 ((Below.heap_alloc _ _ _ (blk_lt h5)).trans h5))) rfl ?_
        refine ⟨?_, f5.alloc _⟩
        rw [HR.out]
        rfl
      · have HNO2 : Hid (∀ j y, j < i + 1 → L[j]? = some y → ¬ y.n = n) := hid (fun j y hj hy => by
          rcases Nat.lt_or_ge j i with h9 | h9
          · exact HNO.out j y h9 hy
          · have : j = i := by omega
            subst this
            rw [HXX.out] at hy
            injection hy with hy
            subst hy
            exact hxn)
        obtain ⟨xd, xt, xn, xs, xc⟩ := x
        simp only at d0 d1 d2 d3 d4 hxn
        have e1 : (xn == n) = false := beq_eq_false_iff_ne.2 hxn
        clear hxn
        go_wp2_with fail
        go_roundw
        case rel => exact ⟨i + 1, by omega, by go_num, HF.out.alloc _, (Below.heap_alloc _ _ _ hpl).trans HPP.out, HNO2.out⟩
        case measure => simp [intOf]; omega
    · have he : i = ln := by omega
      subst he
      have HR := hid (HF0.out hno)
      have HPP := hid hp
      have HF := hid hf
      have z0 := free_blk hp 0
      have z1 := free_blk hp 1
      have z2 := free_blk hp 2
      have z3 := free_blk hp 3
      have z4 := free_blk hp 4
      have c0 := cell_blk hp 0
      have c1 := cell_blk hp 1
      have c2 := cell_blk hp 2
      have c3 := cell_blk hp 3
      have c4 := cell_blk hp 4
      simp only [List.getElem?_toArray, List.getElem?_cons_zero, List.getElem?_cons_succ] at c0 c1 c2 c3 c4
      clear hno hp hf
      go_wp2_with fail
      refine bodyPost_ret (results_ck rfl _ _ _ rfl (load5 (set5b _ _ _ _ _ HPP.out))) rfl ?_
      refine ⟨?_, ?_⟩
      · rw [HR.out]
        rfl
      · have n9 : ∀ k : Nat, (⟨B, k, none⟩ : Addr).block < w.heap.size → (fun _ => False) (⟨B, k, none⟩ : Addr).block := fun k hk => by
          have hk : B < w.heap.size := hk
          have := HB.out
          omega
        exact ((((HF.out.set _ (n9 0) _).set _ (n9 1) _).set _ (n9 2) _).set _ (n9 3) _).set _ (n9 4) _
end Go.Proofs.Ythnigmbdacjlnaa.Cw
