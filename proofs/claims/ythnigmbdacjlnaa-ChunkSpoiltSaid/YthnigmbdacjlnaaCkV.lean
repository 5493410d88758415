/- The reference's collector: Blocks. Own work. -/
import Derived.Test.YthnigmbdacjlnaaCkU
namespace Go.Proofs.Ythnigmbdacjlnaa.Cw
open Go.RowKit
set_option linter.unusedVariables false
set_option linter.unusedSimpArgs false

theorem rblocks_none (w : World) (N g : Nat) (v : Value) (h : Rc w N g v []) :
    Calls Try.prog 18 #[.pointer (some ⟨g, 0, none⟩)] w fun e w' => e = .returned (.tuple #[.slice none 0 0, .int .i64 7]) ∧ Fr w w' (fun _ => False) := by
  have y0 := cell_blk h.2.1 0
  simp only [List.getElem?_toArray, List.getElem?_cons_zero, List.getElem?_cons_succ] at y0
  obtain ⟨A, cap, rfl, h1, h2, hx⟩ := h.shape
  rw [List.length_nil] at *
  clear hx h h1 h2
  go_enter Try.func18, Try.ntmps18
  go_wp2_with fail
  go_ret2
  exact ⟨rfl, Fr.refl w _⟩

set_option maxRecDepth 100000 in
set_option maxHeartbeats 3200000 in
theorem rblocks_miss (w : World) (N g : Nat) (v : Value) (L : List Ck) (h : Rc w N g v L) (hg : Gd25 L) (hl : L.length ≤ 2000) (hne : L ≠ []) (hm : 0 < (msL L).length) :
    Calls Try.prog 18 #[.pointer (some ⟨g, 0, none⟩)] w fun e w' => e = .returned (.tuple #[.slice none 0 0, .int .i64 7]) ∧ Fr w w' (fun _ => False) := by
  have y0 := cell_blk h.2.1 0
  simp only [List.getElem?_toArray, List.getElem?_cons_zero, List.getElem?_cons_succ] at y0
  have MC := hid (rmissing_calls w N g v L h hg hl)
  obtain ⟨A, cap, rfl, h1, h2, hx⟩ := h.shape
  have hln0 : 0 < L.length := List.length_pos_iff.2 hne
  obtain ⟨k, hk⟩ : ∃ k, (msL L).length = k := ⟨_, rfl⟩
  rw [hk] at hm
  have HK := hid hk
  clear h hx hne hk hg
  generalize L.length = ln at *
  go_enter Try.func18, Try.ntmps18
  go_wp2_with (go_at_call 21; refine MC.out.mono ?_; rintro e w' ⟨u, rfl, ⟨A, cap, rfl, hu⟩, hf⟩; rw [List.length_map, HK.out])
  go_ret2
  exact ⟨rfl, hf⟩

set_option maxRecDepth 100000 in
set_option maxHeartbeats 3200000 in
theorem rblocks_all (w : World) (N g : Nat) (v : Value) (f : Ck) (L : List Ck) (h : Rc w N g v L) (hg : Gd25 L) (hl : L.length ≤ 2000) (h0 : L[0]? = some f) (hm : (msL L).length = 0) (T : Nat) (d : Int) (h1 : 1 ≤ T) (h2 : T ≤ 1024) (hT : hdT L = T) (hD : hdD L = d) (hfd : f.d = d) (hft : f.t = (T : Int)) :
    Calls Try.prog 18 #[.pointer (some ⟨g, 0, none⟩)] w fun e w' => ∃ u, e = .returned (.tuple #[u, .int .i64 (blE L)]) ∧ Tv w' u (blL L) ∧ Fr w w' (fun _ => False) := by
  have y0 := cell_blk h.2.1 0
  simp only [List.getElem?_toArray, List.getElem?_cons_zero, List.getElem?_cons_succ] at y0
  have MC := hid (rmissing_calls w N g v L h hg hl)
  have HK := hid hm
  have HALL : Hid (∀ i : Nat, i < (T + 7) / 8 → ∃ x, ff L (i : Nat) = some x) := hid (fun i hi => by
    have hm2 := hm
    unfold msL chs at hm2
    rw [hT] at hm2
    have := ms_all hm2 hi
    rw [hs_ff, Option.isSome_map] at this
    exact Option.isSome_iff_exists.1 this)
  have HUP : Hid (∀ k, k ≤ (T + 7) / 8 → (up k L).size = 128 * min (8 * k) T) := hid (fun k hk => by
    rw [up_size hg k (fun i hi => by
      obtain ⟨x, hx⟩ := HALL.out i (by omega)
      rw [hs_ff, hx]; rfl), hT])
  have HUS : Hid (∀ (k : Nat) x, ff L ((k : Nat) : Int) = some x → up (k + 1) L = up k L ++ x.s) := hid (fun k x hx => by
    rw [up_succ, hs_ff, hx]; rfl)
  have HBE : Hid (blE L = if ((crc (up ((T + 7) / 8) L).data.toList : Nat) : Int) = d then 0 else 30) := hid (by
    unfold blE
    rw [if_neg (by have := (List.getElem?_eq_some_iff.1 h0).1; omega)]
    unfold chs
    rw [hT, hD])
  have HBL : Hid (∀ x, blE L = x → blL L = if x = 0 then cut8 T (up ((T + 7) / 8) L) else []) := hid (fun x hx => by
    unfold blL chs
    rw [hT, hx])
  have HH := hid (fun (W : World) (hf : Fr w W (fun _ => False)) (n : Int) => has_calls W N g v L n (h.fr hf (fun _ _ x => x)) (by omega))
  have HMN : Hid (∀ j : Nat, mn (T : Int) (j : Int) = ((min 8 (T - 8 * j) : Nat) : Int)) := hid (fun j => mn_in h1 h2)
  obtain ⟨A, cap, rfl, k1, k2, hx⟩ := h.shape
  obtain ⟨o, rfl, hc0⟩ := hx 0 f h0
  have q0 := hc0 0 _ rfl
  have q1 := hc0 1 _ rfl
  rw [Nat.zero_mul, Nat.zero_add] at q0 q1
  rw [hft] at q1
  rw [hfd] at q0
  have hln0 : 0 < L.length := (List.getElem?_eq_some_iff.1 h0).1
  have HY := hid y0
  have HQ0 := hid q0
  have HQ1 := hid q1
  have hM8 : T ≤ 8 * ((T + 7) / 8) := by omega
  have hM9 : ∀ j, j < (T + 7) / 8 → 8 * j < T := fun j hj => by omega
  have hMb : (T + 7) / 8 ≤ 128 := by omega
  clear h hx hm hT hD hg hfd hft hc0 h0
  generalize hMM : (T + 7) / 8 = M at *
  clear hMM
  have HM8 := hid hM8
  have HM9 := hid hM9
  clear hM8 hM9
  generalize L.length = ln at *
  have dz : ((ln : Int) == 0) = false := by rw [beq_eq_false_iff_ne]; omega
  have dz2 : (ln == 0) = false := beq_eq_false_iff_ne.2 (by omega)
  go_enter Try.func18, Try.ntmps18
  go_wp2_with (go_at_call 21; refine MC.out.mono ?_; rintro e w1 ⟨u, rfl, ⟨A2, cap2, rfl, hu⟩, hf⟩; rw [List.length_map, HK.out]; clear hu)
  have HF1 := hid hf
  clear hf y0 q0 q1
  have e0 : up 0 L = ⟨#[]⟩ := rfl
  go_loopw [4, 5] (fun so t wr => ∃ j : Nat, j ≤ M ∧ t = .int .i64 j ∧ so = .string (up j L) ∧ Fr w wr (fun _ => False)) (fun _ t _ => M - (intOf t).toNat)
  case atStart => exact ⟨0, by omega, rfl, rfl, HF1.out⟩
  case round =>
    obtain ⟨j, hj, rfl, rfl, hf⟩ := hrel
    have HF := hid hf
    have y0 := cell_keep HY.out hf
    have q1 := cell_keep HQ1.out hf
    have q0 := cell_keep HQ0.out hf
    clear hf
    by_cases hjm : j < M
    · obtain ⟨m, hm, hm0⟩ : ∃ m : Nat, mn (T : Int) (j : Int) = m ∧ 0 < m := ⟨_, HMN.out j, by have := HM9.out j hjm; omega⟩
      have MC := hid (fun (W : World) => refMany_calls W T j)
      rw [hm] at MC
      have hm1 : (0 : Int) < (m : Int) := by omega
      clear hm
      have HHJ := hid (HH.out wr HF.out j)
      obtain ⟨y, hy⟩ := HALL.out j hjm
      have hs1 := HUP.out (j + 1) hjm
      have HU := hid (HUS.out j y hy)
      rw [HU.out, ByteArray.size_append] at hs1
      have hss : (up j L).size + y.s.size ≤ 131072 := by omega
      have hss2 : ¬ 9223372036854775807 < (up j L).size + y.s.size := by omega
      rw [hy] at HHJ
      have HHJ : Hid (Calls Try.prog 28 #[.pointer (some ⟨g, 0, none⟩), .int .i64 j] wr fun e w' => e = .returned (.tuple #[.agg #[.int .i64 y.d, .int .i64 y.t, .int .i64 y.n, .string y.s, .int .i64 y.c], .bool true]) ∧ Fr wr w' (fun _ => False)) := HHJ
      clear hs1 hy
      generalize up j L = UJ at *
      obtain ⟨yd, yt, yn, ys, yc⟩ := y
      simp only at hss hss2 HU HHJ
      go_wp2_with (first | (go_at_call 27; refine (MC.out _).mono ?_; rintro e w' ⟨rfl, rfl⟩) | (go_at_call 28; refine HHJ.out.mono ?_; rintro e w3 ⟨rfl, hf3⟩))
      go_roundw
      case rel => exact ⟨j + 1, by omega, by go_num, by rw [HU.out], Fr.alloc (Fr.trans HF.out hf3) _⟩
      case measure => simp [intOf]; omega
    · have he : j = M := by omega
      subst he
      have hm0 : mn (T : Int) (j : Int) = 0 := by rw [HMN.out]; have := HM8.out; omega
      have MC := hid (fun (W : World) => refMany_calls W T j)
      rw [hm0] at MC
      have hsz := HUP.out j (Nat.le_refl _)
      rw [Nat.min_eq_right HM8.out] at hsz
      have SA := hid (fun (W : World) => refOf_calls W (up j L) (by rw [hsz]; unfold maxLen; omega))
      clear hm0
      generalize up j L = AL at *
      generalize crc AL.data.toList = DG at *
      obtain ⟨w3, rfl⟩ : ∃ w3 : World, w3 = wr := ⟨_, rfl⟩
      by_cases hdg : (DG : Int) = d
      · have e1 : ((DG : Int) != d) = false := by rw [hdg]; simp
        have HR := hid (HBE.out.trans (if_pos hdg))
        clear hdg
        have HL := hid ((HBL.out _ HR.out).trans (if_pos rfl))
        go_wp2_with (first | (go_at_call 27; refine (MC.out _).mono ?_; rintro e w' ⟨rfl, rfl⟩))
        go_quiet (first | (go_at_call 26; exact Calls.quiet_of_same (SA.out _)))
        have HF4 := hid (HF.out.drewN nq)
        clear y0 q0 q1
        generalize w'.drewN nq = w4 at *
        go_wp2_with fail
        go_loopw [8, 9] (fun vo t wr => ∃ i : Nat, i ≤ T ∧ t = .int .i64 ((128 * i : Nat) : Int) ∧ Fr w wr (fun _ => False) ∧ wr.ownsRow 0 9 1 vo i ((cut8 i AL).map Value.string) ∧ ∀ b, vo.ownBlock = some b → w.heap.size ≤ b) (fun _ t _ => 128 * T - (intOf t).toNat)
        case atStart => exact ⟨0, by omega, rfl, HF4.out, World.ownsRow_nil _ _ _ _, fun b hb => by cases hb⟩
        case round =>
          obtain ⟨i, hi, rfl, hf, hown, hO⟩ := hrel
          have HF5 := hid hf
          have HOWN := hid hown
          have HO := hid hO
          clear hf hown hO
          have HCU := hid (cut8_succ i AL)
          by_cases hiT : i < T
          · have b2 : 128 * i + 128 ≤ AL.size := by omega
            have b9 : AL.size ≤ 131072 := by omega
            have HSX := hid hsz
            have HN : Hid (128 * (i + 1) = 128 * i + 128) := hid (by omega)
            have HMS : Hid (128 * T - (128 * i + 128) < 128 * T - 128 * i) := hid (by omega)
            clear hsz
            generalize hF8 : 128 * i = F at *
            have HF8 := hid hF8
            clear hF8
            have b3 : (F : Int) < (AL.size : Int) := by omega
            have b4 : (F : Int) + 128 ≤ (AL.size : Int) := by omega
            have b5 : F ≤ F + 128 := by omega
            have e9 : ((F : Int) + 128).toNat = F + 128 := by omega
            obtain ⟨i0, hi, hz0, hz1, hz2⟩ := info_parts info_str
            go_wp2_with (at_builtin; refine wpList_append_lies _ rfl _ _ _ rfl 0 9 i0 _ 1 16 Try.underlying22 hi hz0 hz1 hz2 rfl (by decide) _ _ _ (by rfl) (HOWN.out.alloc _) ⟨wr.heap.size, 0, none⟩ 1 1 [.string (AL.extract F (F + 128))] (by rfl) (by rfl) (World.news_of_block (cs := #[.string (AL.extract F (F + 128))]) (t := 9) (fr := (0, 0)) (alloc_new wr _)) (by intro u hu; simp at hu; subst hu; rfl) (by omega) (by unfold maxLen; omega) (by omega) (Nat.zero_le _) (wr.heap.size + 1) (by simp) ?_; intro gg cap4 w4 hown4 hgrow hat hlt4)
            have HOW4 := hid hown4
            have HF6 := hid (Fr.grown (HF5.out.alloc _) hgrow (fun k hk hs => by have := HO.out k hk; omega))
            have HAT := hid hat
            clear hown4 hgrow hat hlt4
            go_wp2_with fail
            go_roundw
            case rel =>
              refine ⟨i + 1, by omega, by rw [HN.out]; go_num, HF6.out, ?_, ?_⟩
              · rw [HCU.out, List.map_append]
                exact HOW4.out
              · intro b9 hb9
                have hb9 : gg = b9 := Option.some.inj hb9
                subst hb9
                rcases HAT.out with h8 | h8
                · exact HO.out _ h8
                · have := HF5.out.size
                  omega
            case measure => have h9 := HMS.out; simp [intOf]; omega
          · have he : i = T := by omega
            subst he
            have b3 : ¬ (((128 * i : Nat) : Int) < (AL.size : Int)) := by omega
            have d3 : decide (((128 * i : Nat) : Int) < (AL.size : Int)) = false := decide_eq_false b3
            generalize ((128 * i : Nat) : Int) = az at *
            go_wp2_with fail
            go_ret2
            refine ⟨_, by rw [HR.out]; rfl, ?_, HF5.out⟩
            rw [HL.out]
            exact Ev.own (l := (cut8 i AL).map Value.string) (by rw [List.length_map, cut8_len]; exact HOWN.out)
      · have e1 : ((DG : Int) != d) = true := bne_iff_ne.2 hdg
        have HR := hid (HBE.out.trans (if_neg hdg))
        clear hdg
        have HL := hid ((HBL.out _ HR.out).trans (if_neg (by decide)))
        go_wp2_with (first | (go_at_call 27; refine (MC.out _).mono ?_; rintro e w' ⟨rfl, rfl⟩))
        go_quiet (first | (go_at_call 26; exact Calls.quiet_of_same (SA.out _)))
        go_wp2_with fail
        go_ret2
        refine ⟨_, by rw [HR.out]; rfl, ?_, Fr.drewN HF.out nq⟩
        rw [HL.out]
        exact Ev.nil _

theorem rblocks_calls (w : World) (N g : Nat) (v : Value) (L : List Ck) (h : Rc w N g v L) (hg : Gd25 L) (hl : L.length ≤ 2000) :
    Calls Try.prog 18 #[.pointer (some ⟨g, 0, none⟩)] w fun e w' => ∃ u, e = .returned (.tuple #[u, .int .i64 (blE L)]) ∧ Tv w' u (blL L) ∧ Fr w w' (fun _ => False) := by
  have h7 : blE L = 7 → blL L = [] := fun e => by unfold blL; rw [e, if_neg (by decide)]
  by_cases hne : L = []
  · subst hne
    have he : blE [] = 7 := if_pos (.inl rfl)
    rw [h7 he, he]
    refine (rblocks_none w N g v h).mono ?_
    rintro e w' ⟨rfl, hf⟩
    exact ⟨_, rfl, Ev.nil w', hf⟩
  · by_cases hm : 0 < (msL L).length
    · have he : blE L = 7 := if_pos (.inr hm)
      rw [h7 he, he]
      refine (rblocks_miss w N g v L h hg hl hne hm).mono ?_
      rintro e w' ⟨rfl, hf⟩
      exact ⟨_, rfl, Ev.nil w', hf⟩
    · obtain ⟨f, h0⟩ : ∃ f, L[0]? = some f := ⟨_, List.getElem?_eq_getElem (List.length_pos_iff.2 hne)⟩
      have hb := hdT_in hg hne
      have hD : hdD L = f.d := by unfold hdD; rw [List.head?_eq_getElem?, h0]
      exact rblocks_all w N g v f L h hg hl h0 (by omega) (hdT L) f.d hb.1 hb.2 rfl hD rfl (hdT_of hg (List.mem_of_getElem? h0))
end Go.Proofs.Ythnigmbdacjlnaa.Cw
