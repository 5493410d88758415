/- A collector's Blocks. Own work. -/
import Derived.Test.YthnigmbdacjlnaaCkP
namespace Go.Proofs.Ythnigmbdacjlnaa.Cw
open Go.RowKit
set_option linter.unusedVariables false
set_option linter.unusedSimpArgs false

theorem Fr.belowed {w a b : World} (h : Fr w a (fun _ => False)) (hb : Below w.heap.size a b) : Fr w b (fun _ => False) :=
  ⟨hb.os.trans h.os, hb.tape.trans h.tape, hb.output.trans h.output, Nat.le_trans h.size hb.size, fun i hi _ => (hb.block i hi).trans (h.block i hi (fun x => x))⟩
theorem up_cells (k : Nat) (L : List Ck) (x : ByteArray) (h : hs L ((k : Nat) : Int) = some x) : Lib.byteCells (up (k + 1) L).data.toList = Lib.byteCells (up k L).data.toList ++ Lib.strCells x := by
  rw [up_succ, h, Option.getD_some, ByteArray.data_append, Array.toList_append]
  exact List.map_append
theorem back_of (s : ByteArray) : (⟨s.data.toList.toArray⟩ : ByteArray) = s := by
  apply ByteArray.ext
  simp

theorem blocks_none (w : World) (g b : Nat) (f : Ck) (h : Col w g b f []) :
    Calls Try.prog 17 #[.pointer (some ⟨g, 0, none⟩)] w fun e w' => e = .returned (.tuple #[.slice none 0 0, .int .i64 7]) ∧ Fr w w' (fun _ => False) := by
  have y5 := cell_blk h.blk 5
  simp only [List.getElem?_toArray, List.getElem?_cons_zero, List.getElem?_cons_succ] at y5
  have hlen := h.mp.len 3
  have hb := (Array.getElem?_eq_some_iff.1 h.blk).1
  clear h
  go_enter Try.func17, Try.ntmps17
  go_wp2_with fail
  go_ret2
  exact ⟨rfl, Fr.refl w _⟩

set_option maxRecDepth 100000 in
set_option maxHeartbeats 3200000 in
theorem blocks_miss (w : World) (g b : Nat) (f : Ck) (L : List Ck) (h : Col w g b f L) (hg : Gd25 L) (hne : L ≠ []) (hm : 0 < (msL L).length) :
    Calls Try.prog 17 #[.pointer (some ⟨g, 0, none⟩)] w fun e w' => e = .returned (.tuple #[.slice none 0 0, .int .i64 7]) ∧ Fr w w' (fun _ => False) := by
  have y5 := cell_blk h.blk 5
  simp only [List.getElem?_toArray, List.getElem?_cons_zero, List.getElem?_cons_succ] at y5
  have hlen := h.mp.len 3
  obtain ⟨ln, hln⟩ : ∃ ln, L.length = ln := ⟨_, rfl⟩
  have hne0 : ¬ ln = 0 := fun e => hne (List.eq_nil_of_length_eq_zero (by omega))
  rw [hln] at hlen
  have d1 : (ln == 0) = false := beq_eq_false_iff_ne.2 hne0
  have d2 : ((ln : Int) == 0) = false := by rw [beq_eq_false_iff_ne]; omega
  have MC := hid (missing_calls w g b f L h hg)
  obtain ⟨k, hk⟩ : ∃ k, (msL L).length = k := ⟨_, rfl⟩
  rw [hk] at hm
  have HK := hid hk
  clear h hln hne hk
  go_enter Try.func17, Try.ntmps17
  go_wp2_with (go_at_call 20; refine MC.out.mono ?_; rintro e w' ⟨u, rfl, ⟨A, cap, rfl, hu⟩, hf⟩; rw [List.length_map, HK.out])
  go_ret2
  exact ⟨rfl, hf⟩

set_option maxRecDepth 100000 in
set_option maxHeartbeats 3200000 in
theorem blocks_all (w : World) (g b : Nat) (d n c : Int) (s : ByteArray) (T : Nat) (L : List Ck) (h : Col w g b ⟨d, T, n, s, c⟩ L) (hg : Gd25 L) (hne : L ≠ []) (hm : (msL L).length = 0) (h1 : 1 ≤ T) (h2 : T ≤ 1024) (hT : hdT L = T) (hD : hdD L = d) :
    Calls Try.prog 17 #[.pointer (some ⟨g, 0, none⟩)] w fun e w' => ∃ u, e = .returned (.tuple #[u, .int .i64 (blE L)]) ∧ Tv w' u (blL L) ∧ Fr w w' (fun _ => False) := by
  have HC := hid h
  have y5 := cell_blk h.blk 5
  have y1 := cell_blk h.blk 1
  have y0 := cell_blk h.blk 0
  simp only [List.getElem?_toArray, List.getElem?_cons_zero, List.getElem?_cons_succ] at y5 y1 y0
  have hlen := h.mp.len 3
  obtain ⟨ln, hln⟩ : ∃ ln, L.length = ln := ⟨_, rfl⟩
  have hne0 : ¬ ln = 0 := fun e => hne (List.eq_nil_of_length_eq_zero (by omega))
  rw [hln] at hlen
  have d1 : (ln == 0) = false := beq_eq_false_iff_ne.2 hne0
  have d2 : ((ln : Int) == 0) = false := by rw [beq_eq_false_iff_ne]; omega
  have MC := hid (missing_calls w g b ⟨d, T, n, s, c⟩ L h hg)
  have HK := hid hm
  have HALL : Hid (∀ i : Nat, i < (T + 7) / 8 → ∃ x, hs L (i : Nat) = some x) := hid (fun i hi => by
    have hm2 := hm
    unfold msL chs at hm2
    rw [hT] at hm2
    exact Option.isSome_iff_exists.1 (ms_all hm2 hi))
  have HUP : Hid (∀ k, k ≤ (T + 7) / 8 → (up k L).size = 128 * min (8 * k) T) := hid (fun k hk => by
    rw [up_size hg k (fun i hi => by
      obtain ⟨x, hx⟩ := HALL.out i (by omega)
      rw [hx]; rfl), hT])
  have HSZ : Hid (∀ i x, hs L ((i : Nat) : Int) = some x → x.size ≤ 1024) := hid (fun i x hx => by
    have := hs_size hg hx
    omega)
  have HBE : Hid (blE L = if ((crc (up ((T + 7) / 8) L).data.toList : Nat) : Int) = d then 0 else 30) := hid (by
    unfold blE
    rw [if_neg (by omega)]
    unfold chs
    rw [hT, hD])
  have HBL : Hid (∀ x, blE L = x → blL L = if x = 0 then cut8 T (up ((T + 7) / 8) L) else []) := hid (fun x hx => by
    unfold blL chs
    rw [hT, hx])
  clear h hln hne hm hT hD hg
  go_enter Try.func17, Try.ntmps17
  go_wp2_with (first | (go_at_call 20; refine MC.out.mono ?_; rintro e w1 ⟨u, rfl, ⟨A, cap, rfl, hu⟩, hf⟩; rw [List.length_map, HK.out]; clear hu; have y1 := cell_keep y1 (Fr.alloc hf (.cells #[.pointer none, .slice none 0 0] 74))) | (go_at_call 25; refine (many_calls _ _ (by omega) (by omega)).mono ?_; rintro e w' ⟨rfl, rfl⟩))
  have hM : ((T : Int) + 7) / 8 = (((T + 7) / 8 : Nat) : Int) := by omega
  have hMb : (T + 7) / 8 ≤ 128 := by omega
  have hM8 : T ≤ 8 * ((T + 7) / 8) := by omega
  generalize hMM : (T + 7) / 8 = M at *
  clear hMM
  rw [hM]
  clear hM y1
  have HF1 := hid hf
  have HB0 := Lib.fresh_isBuilder 74 5 w1
  have HF2 := hid (Fr.alloc (Fr.refl w1 (fun _ => False)) (.cells #[.pointer none, .slice none 0 0] 74))
  obtain ⟨B, hB⟩ : ∃ B, w1.heap.size = B := ⟨_, rfl⟩
  rw [hB] at HB0
  have HB0 := hid HB0
  have HB : Hid (w1.heap.size = B) := hid hB
  rw [hB]
  clear hB hf
  generalize w1.alloc (.cells #[.pointer none, .slice none 0 0] 74) = w2 at *
  go_loopw [31] (fun t wr => ∃ j : Nat, j ≤ M ∧ t = .int .i64 j ∧ Fr w1 wr (fun _ => False) ∧ Lib.IsBuilder 74 5 B B (Lib.byteCells (up j L).data.toList) wr) (fun t _ => M - (intOf t).toNat)
  case atStart => exact ⟨0, by omega, rfl, HF2.out, HB0.out⟩
  case round =>
    obtain ⟨j, hj, rfl, hf, hbl⟩ := hrel
    have HF := hid hf
    have HIB := hid hbl
    have hfw := HF1.out.trans hf
    have hlk := ((Mp.fr HC.out.mp hfw (fun x => x)).lookup j).2
    have y5 := cell_keep y5 hfw
    clear hf hbl
    by_cases hjm : j < M
    · obtain ⟨x, hx⟩ := HALL.out j hjm
      rw [hx, Option.getD_some] at hlk
      have hxs := HSZ.out j x hx
      have hus := HUP.out j hj
      have WRT := hid (Sh.write B B _ x wr HIB.out (by rw [Lib.byteCells_length, Array.length_toList]; show (up j L).size + _ ≤ _; omega) (by rw [← HB.out]; exact HF.out.size))
      have HX := hid hx
      clear hx hxs hus hfw
      go_wp2_with (go_at_call 29; refine WRT.out.mono ?_; rintro e w' ⟨rfl, hw1, hw2⟩)
      go_roundw
      case rel => exact ⟨j + 1, by omega, by go_num, Fr.belowed HF.out (by rw [HB.out]; exact hw2), by rw [up_cells j L x HX.out]; exact .inr hw1⟩
      case measure => simp [intOf]; omega
    · have he : j = M := by omega
      subst he
      have hfa := hid hfw
      clear hfw hlk y5
      have ST := hid (Sh.str B B (up j L).data.toList wr HIB.out (by rw [← HB.out]; exact HF.out.size))
      rw [back_of] at ST
      have hsz := HUP.out j (Nat.le_refl _)
      rw [Nat.min_eq_right hM8] at hsz
      have SA := hid (fun (W : World) => sumOf_calls W (up j L) (by rw [hsz]; unfold maxLen; omega))
      generalize up j L = AL at *
      generalize crc AL.data.toList = DG at *
      go_wp2_with (go_at_call 30; refine ST.out.mono ?_; rintro e w3 ⟨rfl, hw3⟩)
      have HF3 := hid (HF1.out.trans (Fr.belowed HF.out (by rw [HB.out]; exact hw3)))
      have y0 := cell_keep y0 HF3.out
      clear hw3
      by_cases hdg : (DG : Int) = d
      · have e1 : ((DG : Int) != d) = false := by rw [hdg]; simp
        have HR := hid (HBE.out.trans (if_pos hdg))
        clear hdg
        have HL := hid ((HBL.out _ HR.out).trans (if_pos rfl))
        go_quiet (first | (go_at_call 23; exact Calls.quiet_of_same (SA.out _)))
        have HF4 := hid (HF3.out.drewN nq)
        clear y0
        generalize w3.drewN nq = w4 at *
        go_wp2_with fail
        go_loopw [7, 8] (fun vo t wr => ∃ i : Nat, i ≤ T ∧ t = .int .i64 ((128 * i : Nat) : Int) ∧ Fr w wr (fun _ => False) ∧ wr.ownsRow 0 9 1 vo i ((cut8 i AL).map Value.string) ∧ ∀ b, vo.ownBlock = some b → w.heap.size ≤ b) (fun _ t _ => 128 * T - (intOf t).toNat)
        case atStart => exact ⟨0, by omega, rfl, HF4.out, World.ownsRow_nil _ _ _ _, fun b hb => by cases hb⟩
        case round =>
          obtain ⟨i, hi, rfl, hf, hown, hO⟩ := hrel
          have HF5 := hid hf
          have HOWN := hid hown
          have HO := hid hO
          clear hf hown hO
          have HCU := hid (cut8_succ i AL)
          by_cases hiT : i < T
          · have b2 : 128 * i + 128 ≤ AL.size := by omega
            have b9 : AL.size ≤ 131072 := by omega
            have HSX := hid hsz
            have HN : Hid (128 * (i + 1) = 128 * i + 128) := hid (by omega)
            have HMS : Hid (128 * T - (128 * i + 128) < 128 * T - 128 * i) := hid (by omega)
            clear hsz
            generalize hF8 : 128 * i = F at *
            have HF8 := hid hF8
            clear hF8
            have b3 : (F : Int) < (AL.size : Int) := by omega
            have b4 : (F : Int) + 128 ≤ (AL.size : Int) := by omega
            have b5 : F ≤ F + 128 := by omega
            have e9 : ((F : Int) + 128).toNat = F + 128 := by omega
            obtain ⟨i0, hi, hz0, hz1, hz2⟩ := info_parts info_str
            go_wp2_with (at_builtin; refine wpList_append_lies _ rfl _ _ _ rfl 0 9 i0 _ 1 16 Try.underlying22 hi hz0 hz1 hz2 rfl (by decide) _ _ _ (by rfl) (HOWN.out.alloc _) ⟨wr.heap.size, 0, none⟩ 1 1 [.string (AL.extract F (F + 128))] (by rfl) (by rfl) (World.news_of_block (cs := #[.string (AL.extract F (F + 128))]) (t := 9) (fr := (0, 0)) (alloc_new wr _)) (by intro u hu; simp at hu; subst hu; rfl) (by omega) (by unfold maxLen; omega) (by omega) (Nat.zero_le _) (wr.heap.size + 1) (by simp) ?_; intro gg cap4 w4 hown4 hgrow hat hlt4)
            have HOW4 := hid hown4
            have HF6 := hid (Fr.grown (HF5.out.alloc _) hgrow (fun k hk hs => by have := HO.out k hk; omega))
            have HAT := hid hat
            clear hown4 hgrow hat hlt4
            go_wp2_with fail
            go_roundw
            case rel =>
              refine ⟨i + 1, by omega, by rw [HN.out]; go_num, HF6.out, ?_, ?_⟩
              · rw [HCU.out, List.map_append]
                exact HOW4.out
              · intro b9 hb9
                have hb9 : gg = b9 := Option.some.inj hb9
                subst hb9
                rcases HAT.out with h8 | h8
                · exact HO.out _ h8
                · have := HF5.out.size
                  omega
            case measure => have h9 := HMS.out; simp [intOf]; omega
          · have he : i = T := by omega
            subst he
            have b3 : ¬ (((128 * i : Nat) : Int) < (AL.size : Int)) := by omega
            have d3 : decide (((128 * i : Nat) : Int) < (AL.size : Int)) = false := decide_eq_false b3
            generalize ((128 * i : Nat) : Int) = az at *
            go_wp2_with fail
            go_ret2
            refine ⟨_, by rw [HR.out]; rfl, ?_, HF5.out⟩
            rw [HL.out]
            exact Ev.own (l := (cut8 i AL).map Value.string) (by rw [List.length_map, cut8_len]; exact HOWN.out)
      · have e1 : ((DG : Int) != d) = true := bne_iff_ne.2 hdg
        have HR := hid (HBE.out.trans (if_neg hdg))
        clear hdg
        have HL := hid ((HBL.out _ HR.out).trans (if_neg (by decide)))
        go_quiet (first | (go_at_call 23; exact Calls.quiet_of_same (SA.out _)))
        go_wp2_with fail
        go_ret2
        refine ⟨_, by rw [HR.out]; rfl, ?_, Fr.drewN HF3.out nq⟩
        rw [HL.out]
        exact Ev.nil _

theorem blocks_calls (w : World) (g b : Nat) (f : Ck) (L : List Ck) (h : Col w g b f L) (hg : Gd25 L) :
    Calls Try.prog 17 #[.pointer (some ⟨g, 0, none⟩)] w fun e w' => ∃ u, e = .returned (.tuple #[u, .int .i64 (blE L)]) ∧ Tv w' u (blL L) ∧ Fr w w' (fun _ => False) := by
  have h7 : blE L = 7 → blL L = [] := fun e => by unfold blL; rw [e, if_neg (by decide)]
  by_cases hne : L = []
  · subst hne
    have he : blE [] = 7 := if_pos (.inl rfl)
    rw [h7 he, he]
    refine (blocks_none w g b f h).mono ?_
    rintro e w' ⟨rfl, hf⟩
    exact ⟨_, rfl, Ev.nil w', hf⟩
  · by_cases hm : 0 < (msL L).length
    · have he : blE L = 7 := if_pos (.inr hm)
      rw [h7 he, he]
      refine (blocks_miss w g b f L h hg hne hm).mono ?_
      rintro e w' ⟨rfl, hf⟩
      exact ⟨_, rfl, Ev.nil w', hf⟩
    · have hh := h.hd hne
      have hb := hdT_in hg hne
      have hT : hdT L = f.t.toNat := by unfold hdT; rw [hh]
      have hD : hdD L = f.d := by unfold hdD; rw [hh]
      have hf := hg f (List.mem_of_mem_head? hh)
      have hk := ck_facts hf.1
      obtain ⟨d, t, n, s, c⟩ := f
      simp only at hT hk hD
      obtain ⟨T, rfl⟩ : ∃ T : Nat, t = T := ⟨t.toNat, by omega⟩
      rw [Int.toNat_natCast] at hT
      exact blocks_all w g b d n c s T L h hg hne (by omega) (by omega) (by omega) hT hD
end Go.Proofs.Ythnigmbdacjlnaa.Cw
