/- ChunkSteps: the walk. Own work. -/
import Derived.Test.YthnigmbdacjlnaaCkY
import Derived.Test.YthnigmbdacjlnaaCkV
namespace Go.Proofs.Ythnigmbdacjlnaa.Cw
open Go.RowKit
set_option linter.unusedVariables false
set_option linter.unusedSimpArgs false

theorem Col.frS {w w' : World} {g b : Nat} {f : Ck} {L : List Ck} {S : Nat → Prop} (h : Col w g b f L) (hf : Fr w w' S) (h1 : ¬ S g) (h2 : ¬ S b) : Col w' g b f L := ⟨hf.at_ h.blk h1, h.mp.fr hf h2, h.hd⟩
theorem adL_len (L : List Ck) (c : Ck) : (adL L c).length ≤ L.length + 1 := by
  unfold adL
  split
  · simp
  · omega
theorem fresh_two {a b c : World} {g m : Nat} (h : Fr a b (fun _ => False)) (k : Fr b c (fun i => i = g ∨ i = m)) (h1 : a.heap.size ≤ g) (h2 : a.heap.size ≤ m) : Fr a c (fun _ => False) :=
  Fr.fresh h k (fun i hi => by rcases hi with rfl | rfl; exact h1; exact h2)
/-- A chunk in a block of its own. -/
theorem ck_cells {w : World} {p : Nat} {t : TypeId} {d tt n q : Int} {s : ByteArray} (h : w.heap[p]? = some (.cells #[.int .i64 d, .int .i64 tt, .int .i64 n, .string s, .int .i64 q] t (0, 0))) :
    w.cell? ⟨p, 0, none⟩ = some (.int .i64 d) ∧ w.cell? ⟨p, 1, none⟩ = some (.int .i64 tt) ∧ w.cell? ⟨p, 2, none⟩ = some (.int .i64 n) ∧ w.cell? ⟨p, 3, none⟩ = some (.string s) ∧ w.cell? ⟨p, 4, none⟩ = some (.int .i64 q) :=
  ⟨cell_blk h 0, cell_blk h 1, cell_blk h 2, cell_blk h 3, cell_blk h 4⟩
theorem cv_at {w : World} {v : Value} {l : List Ck} (h : Cv w v l) : ∃ A cap, v = .slice A l.length cap ∧ l.length ≤ cap ∧ ∀ i x, l[i]? = some x → ∃ b off, A = some ⟨b, off, none⟩ ∧ ∀ j u, x.cells[j]? = some u → w.cell? ⟨b, off + i * 5 + j, none⟩ = some u := by
  obtain ⟨A, cap, rfl, h1, h2, h3⟩ := h
  refine ⟨A, cap, rfl, h1, fun i x hx => ?_⟩
  obtain ⟨b, off, h4, h5, h6⟩ := h3 (fun e => by rw [e] at hx; cases hx)
  exact ⟨b, off, h4, fun j u hu => h6 i x hx j u hu⟩

set_option maxRecDepth 100000 in
set_option maxHeartbeats 3200000 in
theorem chunkSteps_big (w : World) (v : Value) (l : List Ck) (h : Cv w v l) (hb : 200 < l.length) :
    Calls Try.prog 4 #[v] w fun e w' => e = .returned (.bool true) ∧ Fr w w' (fun _ => False) := by
  obtain ⟨A, cap, rfl, h1, _⟩ := cv_at h
  clear h
  generalize l.length = N at *
  have d1 : decide ((200 : Int) < (N : Int)) = true := decide_eq_true (by omega)
  go_enter Try.func4, Try.ntmps4
  go_wp2_with (first
    | (go_at_call 14; refine (new25_calls _).mono ?_; rintro e w2 ⟨g, b, rfl, hcol, hf2, hg, hb⟩)
    | (go_at_call 8; refine (speaks25_calls _).mono ?_; rintro e w6 ⟨rfl, hf6⟩))
  go_ret
  exact ⟨rfl, hf2.trans hf6⟩

set_option maxRecDepth 100000 in
set_option maxHeartbeats 6400000 in
theorem chunkSteps_calls (w : World) (v : Value) (l : List Ck) (h : Cv w v l) :
    Calls Try.prog 4 #[v] w fun e w' => e = .returned (.bool true) ∧ Fr w w' (fun _ => False) := by
  by_cases hb : 200 < l.length
  · exact chunkSteps_big w v l h hb
  obtain ⟨A, cap, rfl, h1, hx⟩ := cv_at h
  have HX := hid hx
  have HE := hid (fun i (hi : i < l.length) => (⟨_, List.getElem?_eq_getElem hi⟩ : ∃ x, l[i]? = some x))
  clear h hx
  generalize l.length = N at *
  have d1 : decide ((200 : Int) < (N : Int)) = false := decide_eq_false (by omega)
  go_enter Try.func4, Try.ntmps4
  go_wp2_with (first
    | (go_at_call 14; refine (new25_calls _).mono ?_; rintro e w2 ⟨g, b, rfl, hcol, hf2, hg, hb⟩))
  have HC0 := hid (hcol.fr ((Fr.refl w2 (fun _ => False)).alloc (.cells #[.slice none 0 0] 42)))
  have HF0 := hid (hf2.alloc (.cells #[.slice none 0 0] 42))
  have HR0 : Hid (Rc (w2.alloc (.cells #[.slice none 0 0] 42)) w2.heap.size w2.heap.size (.slice none 0 0) []) := hid ⟨Nat.le_refl _, alloc_new w2 _, World.ownsRow_nil _ _ _ _⟩
  have hgN := blk_lt hcol.blk
  have hbN := hcol.b_lt
  have HN := hid (And.intro hgN hbN)
  have HG := hid (And.intro hg hb)
  clear hcol hf2 hgN hbN hg hb
  generalize w2.alloc (.cells #[.slice none 0 0] 42) = w3 at *
  generalize hNB : w2.heap.size = NB at *
  clear hNB
  go_loopw [32] (fun t wr => ∃ i : Nat, i ≤ N ∧ t = .int .i64 i ∧ Fr w wr (fun _ => False) ∧ ∃ L f v2, Col wr g b f L ∧ Rc wr NB NB v2 L ∧ Gd25 L ∧ L.length ≤ i) (fun t _ => N - (intOf t).toNat)
  case atStart => exact ⟨0, by omega, rfl, HF0.out, [], zCk, _, HC0.out, HR0.out, fun c hc => (by cases hc), Nat.le_refl _⟩
  case round =>
    obtain ⟨i, hi, rfl, hf, L, f, v2, hC, hR, hG, hL⟩ := hrel
    by_cases hlt : i < N
    · obtain ⟨⟨d, t, n, s, q⟩, hxi⟩ := HE.out i hlt
      obtain ⟨b1, o1, rfl, hc1⟩ := HX.out i _ hxi
      have a0 := cell_keep (hc1 0 _ rfl) hf
      have a1 := cell_keep (hc1 1 _ rfl) hf
      have a2 := cell_keep (hc1 2 _ rfl) hf
      have a3 := cell_keep (hc1 3 _ rfl) hf
      have a4 := cell_keep (hc1 4 _ rfl) hf
      rw [Nat.add_zero] at a0
      simp only at a0 a1 a2 a3 a4
      have HF := hid hf
      have HC := hid hC
      have HR := hid hR
      have HGD := hid hG
      have HGD2 := hid (gd_add hG ⟨d, t, n, s, q⟩)
      have HL := hid hL
      have HAL := hid (adL_len L ⟨d, t, n, s, q⟩)
      have AC := hid (fun (W : World) (h : Col W g b f L) => add_calls W g b f ⟨d, t, n, s, q⟩ L h)
      have RA := hid (fun (W : World) (v : Value) (h : Rc W NB NB v L) => radd_calls W NB NB v ⟨d, t, n, s, q⟩ L h (by omega))
      have RXC := hid (fun (W : World) => ref25_calls W ⟨d, t, n, s, q⟩)
      clear hc1 hxi hf hC hR hG hL
      generalize adE L ⟨d, t, n, s, q⟩ = AE at *
      generalize adB L ⟨d, t, n, s, q⟩ = AB at *
      generalize adL L ⟨d, t, n, s, q⟩ = L2 at *
      unfold Ck.V at AC RA RXC
      simp only at AC RA RXC
      go_wp2_with (first
        | (go_at_call 15
           have hfa := (Fr.refl wr (fun _ => False)).alloc (.cells #[.int .i64 d, .int .i64 t, .int .i64 n, .string s, .int .i64 q] 24)
           have hpx := alloc_new wr (.cells #[.int .i64 d, .int .i64 t, .int .i64 n, .string s, .int .i64 q] 24)
           refine (AC.out _ (HC.out.fr hfa)).mono ?_
           rintro e w4 ⟨rfl, f4, hcol4, hf4⟩
           have hgl := blk_lt HC.out.blk
           have hbl := HC.out.b_lt
           have hp4 := hf4.at_ hpx (by rintro (e | e) <;> omega)
           obtain ⟨x0, x1, x2, x3, x4⟩ := ck_cells hp4
           have hR4 := (HR.out.fr hfa (fun _ _ x => x)).fr hf4 (fun j hj => by have := HN.out; rintro (e | e) <;> omega)
           have hF4 := fresh_two (HF.out.trans hfa) hf4 HG.out.1 HG.out.2
           clear hfa hpx hf4)
        | (go_at_call 13; refine (RXC.out _).mono ?_; rintro e w5 ⟨rfl, hf5⟩)
        | (go_at_call 16
           have hR5 := hR4.fr hf5 (fun _ _ x => x)
           refine (RA.out _ _ hR5).mono ?_
           rintro e w6 ⟨rfl, v6, hR6, hf6⟩
           have hcol6 := (hcol4.fr hf5).frS hf6 (by have := HN.out; omega) (by have := HN.out; omega)
           have hF6 := (hF4.trans hf5).fresh hf6 (fun i hi => by have := HN.out; have := HG.out; omega)
           clear hR5 hR4 hcol4 hf5 hf6 hF4 x0 x1 x2 x3 x4)
        | (go_at_call 17
           refine (blocks_calls _ g b f4 L2 hcol6 HGD2.out).mono ?_
           rintro e w7 ⟨u7, rfl, htv7, hf7⟩
           have hcol7 := hcol6.fr hf7
           have hR7 := hR6.fr hf7 (fun _ _ x => x)
           have hF7 := hF6.trans hf7
           clear hcol6 hR6 hF6 hf7)
        | (go_at_call 18
           refine (rblocks_calls _ NB NB v6 L2 hR7 HGD2.out (by have := HL.out; have := HAL.out; omega)).mono ?_
           rintro e w8 ⟨u8, rfl, htv8, hf8⟩
           have hcol8 := hcol7.fr hf8
           have hR8 := hR7.fr hf8 (fun _ _ x => x)
           have hF8 := hF7.trans hf8
           have htv7 := htv7.fr hf8
           clear hcol7 hR7 hF7 hf8))
      generalize blE L2 = BE at *
      go_wp2_with (first
        | (go_at_call 20
           refine (missing_calls _ g b f4 L2 hcol8 HGD2.out).mono ?_
           rintro e w9 ⟨u9, rfl, hnv9, hf9⟩
           have hcol9 := hcol8.fr hf9
           have hR9 := hR8.fr hf9 (fun _ _ x => x)
           have hF9 := hF8.trans hf9
           have htv7 := htv7.fr hf9
           have htv8 := htv8.fr hf9
           clear hcol8 hR8 hF8 hf9)
        | (go_at_call 21
           refine (rmissing_calls _ NB NB v6 L2 hR9 HGD2.out (by have := HL.out; have := HAL.out; omega)).mono ?_
           rintro e wa ⟨ua, rfl, hnva, hfa⟩
           have hcola := hcol9.fr hfa
           have hRa := hR9.fr hfa (fun _ _ x => x)
           have hFa := hF9.trans hfa
           have htv7 := htv7.fr hfa
           have htv8 := htv8.fr hfa
           have hnv9 := hnv9.fr hfa
           clear hcol9 hR9 hF9 hfa)
        | (go_at_call 19
           refine (ints_calls _ u9 ua _ _ hnv9 hnva).mono ?_
           rw [decide_eq_true (rfl : msL L2 = msL L2)]
           rintro e wb ⟨rfl, hfb⟩
           have hcolb := hcola.fr hfb
           have hRb := hRa.fr hfb (fun _ _ x => x)
           have hFb := hFa.trans hfb
           have htv7 := htv7.fr hfb
           have htv8 := htv8.fr hfb
           clear hcola hRa hFa hfb)
        | (go_at_call 22
           refine (texts_calls _ u7 u8 _ _ htv7 htv8).mono ?_
           rw [decide_eq_true (rfl : blL L2 = blL L2)]
           rintro e wc ⟨rfl, hfc⟩
           have HCc := hid (hcolb.fr hfc)
           have HRc := hid (hRb.fr hfc (fun _ _ x => x))
           have HFc := hid (hFb.trans hfc)
           clear hcolb hRb hFb hfc htv7 htv8))
      go_roundw
      case rel => exact ⟨i + 1, by omega, by go_num, HFc.out, L2, f4, v6, HCc.out, HRc.out, HGD2.out, by have := HL.out; have := HAL.out; omega⟩
      case measure => simp [intOf]; omega
    · have he : i = N := by omega
      subst he
      have HF := hid hf
      clear hf hC hR hG hL
      go_wp2_with (first | (go_at_call 8; refine (speaks25_calls _).mono ?_; rintro e w6 ⟨rfl, hf6⟩))
      go_ret
      exact ⟨rfl, HF.out.trans hf6⟩
end Go.Proofs.Ythnigmbdacjlnaa.Cw
