/- The program's Split, of a snapshot that is right. Own work. -/
import Derived.Test.YthnigmbdacjlnaaCkE
namespace Go.Proofs.Ythnigmbdacjlnaa.Cw
open Go.RowKit
set_option linter.unusedVariables false
set_option linter.unusedSimpArgs false

theorem ownsRow_fr {w w' : World} {B : Nat} {t : TypeId} {k : Nat} {v : Value} {n : Nat} {xs : List Value} (h : w.ownsRow B t k v n xs) (hf : Fr w w' (fun _ => False)) : w'.ownsRow B t k v n xs := by
  refine ⟨h.1, ?_⟩
  rcases h.2 with hn | ⟨g', cap, cur, rfl, hb, hg, hr⟩
  · exact .inl hn
  · exact .inr ⟨g', cap, cur, rfl, hb, hf.at_ hg (fun x => x), hr⟩
theorem ck_one (x : Ck) : ∀ u ∈ x.cells, u.oneCell' = true := by
  intro u hu
  simp [Ck.cells] at hu
  rcases hu with rfl | rfl | rfl | rfl | rfl <;> rfl

set_option maxRecDepth 100000 in
set_option maxHeartbeats 6400000 in
theorem split_ok (w : World) (v : Value) (bs : List ByteArray) (h : Tv w v bs) (hb : ¬ (bs.length < 1 ∨ 1024 < bs.length)) (hall : ∀ b ∈ bs, b.size = 128) :
    Calls Try.prog 9 #[v] w fun e w' => ∃ u, e = .returned (.tuple #[u, .int .i64 0]) ∧ Cv w' u (spl bs) ∧ Fr w w' (fun _ => False) := by
  obtain ⟨A, cap, rfl, h1, h2, h3⟩ := h
  simp only [List.length_map] at h1 ⊢
  obtain ⟨b, off, rfl, hbl, hc⟩ := h3 (fun e => by rw [List.map_eq_nil_iff.1 e] at hb; simp at hb)
  have HA := hid hc
  have HX := hid (fun (i : Nat) (hi : i < bs.length) => (⟨bs[i], List.getElem?_eq_getElem hi, hall _ (List.getElem_mem hi)⟩ : ∃ x, bs[i]? = some x ∧ x.size = 128))
  have hjs := jn_size hall
  have JA := hid (fun (W : World) (hf : Fr w W (fun _ => False)) => join_calls W b off cap bs bs.length rfl (fun i x hx => cell_keep (hc i _ (map_some hx)) hf) (Nat.lt_of_lt_of_le hbl hf.size) h1 (by omega) (by rw [hjs]; omega))
  have SA := hid (fun (W : World) => sumOf_calls W (jn bs) (by rw [hjs]; unfold maxLen; omega))
  have HCK : Hid (∀ i : Nat, ckAt bs i = ⟨(crc (jn bs).data.toList : Nat), (bs.length : Nat), (i : Nat), jn (part bs i), (crc (jn (part bs i)).data.toList : Nat)⟩) := hid (fun i => rfl)
  have JP := hid (fun (W : World) (i F T : Nat) (hf : Fr w W (fun _ => False)) (hF : F = 8 * i) (hT : T = min bs.length (8 * (i + 1))) (hlt : F < bs.length) => join_calls W b (off + F) (T - F) (part bs i) (T - F) (by rw [part_len]; omega) (fun j x hx => by
    have hj : j < (part bs i).length := (List.getElem?_eq_some_iff.1 hx).1
    have hx2 : bs[8 * i + j]? = some x := by
      unfold part at hx
      rw [List.getElem?_take, List.getElem?_drop] at hx
      split at hx
      · exact hx
      · cases hx
    have := cell_keep (hc _ _ (map_some hx2)) hf
    rwa [show off + F + j = off + (8 * i + j) by omega]) (Nat.lt_of_lt_of_le hbl hf.size) (by rw [part_len]; omega) (by rw [part_len]; omega) (by rw [part_size hall, part_len]; omega))
  have SUMP := hid (fun (W : World) (i : Nat) => sumOf_calls W (jn (part bs i)) (by rw [part_size hall, part_len]; unfold maxLen; omega))
  have HST := hid (fun (i : Nat) (hi : i < (bs.length + 7) / 8) => spl_take hi)
  have HLN := hid (spl_len bs)
  have HTK : Hid ((spl bs).take ((bs.length + 7) / 8) = spl bs) := hid (List.take_of_length_le (by rw [spl_len]; exact Nat.le_refl _))
  clear h3 hc hall hjs
  generalize hN : bs.length = N at *
  have HN := hid hN
  clear hN
  have d1 : decide ((N : Int) < 1) = false := decide_eq_false (by omega)
  have d2 : decide ((1024 : Int) < N) = false := decide_eq_false (by omega)
  have d3 : decide (1024 < N) = false := decide_eq_false (by omega)
  have d4 : decide (N < 1) = false := decide_eq_false (by omega)
  have d6 : decide (N = 0) = false := decide_eq_false (by omega)
  go_enter Try.func9, Try.ntmps9
  go_wp2_with fail
  go_loopw [23] (fun t wr => ∃ i : Nat, i ≤ N ∧ t = .int .i64 i ∧ Fr w wr (fun _ => False)) (fun t _ => N - (intOf t).toNat)
  case atStart => exact ⟨0, by omega, rfl, Fr.refl _ _⟩
  case round =>
    obtain ⟨i, hi, rfl, hf⟩ := hrel
    by_cases hlt : i < N
    · obtain ⟨x, hx, hsz⟩ := HX.out i hlt
      have a0 := cell_keep (HA.out i _ (map_some hx)) hf
      have HF := hid hf
      have e1 : ((x.size : Int) != 128) = false := by rw [hsz]; rfl
      clear hx hf hsz
      go_wp2_with fail
      go_round
      case rel => exact ⟨i + 1, by omega, by go_num, HF.out⟩
      case measure => simp [intOf]; omega
    · have he : i = N := by omega
      subst he
      have HF := hid hf
      clear hf
      obtain ⟨wo, rfl⟩ : ∃ wo : World, wo = wr := ⟨_, rfl⟩
      go_wp2_with fail
      refine (JA.out _ HF.out).mono ?_
      rintro e w1 ⟨rfl, hf1⟩
      have HF1 := hid (HF.out.trans hf1)
      clear hf1
      generalize jn bs = AL at *
      generalize crc AL.data.toList = DG at *
      go_wp2_with (first | (go_at_call 23; refine (SA.out _).mono ?_; rintro e w' ⟨rfl, rfl⟩) | (go_at_call 25; refine (many_calls _ _ (by omega) (by omega)).mono ?_; rintro e w' ⟨rfl, rfl⟩))
      have hM : ((i : Int) + 7) / 8 = (((i + 7) / 8 : Nat) : Int) := by omega
      generalize hMM : (i + 7) / 8 = M at *
      have HMM := hid hMM
      clear hMM
      rw [hM]
      clear hM
      go_loopw [8, 36] (fun vo t wr => ∃ j : Nat, j ≤ M ∧ t = .int .i64 j ∧ Fr w wr (fun _ => False) ∧ wr.ownsRow 0 24 5 vo j (((spl bs).take j).flatMap Ck.cells) ∧ ∀ b, vo.ownBlock = some b → w.heap.size ≤ b) (fun _ t _ => M - (intOf t).toNat)
      case atStart => exact ⟨0, by omega, rfl, HF1.out, World.ownsRow_nil _ _ _ _, fun b hb => by cases hb⟩
      case round =>
        obtain ⟨j, hj, rfl, hf, hown, hO⟩ := hrel
        have HF2 := hid hf
        have HOWN := hid hown
        have HO := hid hO
        clear hf hown hO
        by_cases hjm : j < M
        · have hst := HST.out j hjm
          have hck := HCK.out j
          have hin : 8 * j < i := by have := HMM.out; omega
          have hFj : (j : Int) * 8 = ((8 * j : Nat) : Int) := by omega
          have hTj : ((j : Int) + 1) * 8 = ((8 * (j + 1) : Nat) : Int) := by omega
          have JQ := hid (fun (W : World) (T : Nat) (hf : Fr w W (fun _ => False)) (hT : T = min i (8 * (j + 1))) => JP.out W j (8 * j) T hf rfl hT hin)
          have SQ := hid (fun (W : World) => SUMP.out W j)
          have HST2 := hid hst
          have HCK2 := hid hck
          clear hst hck
          generalize ckAt bs j = X at *
          generalize jn (part bs j) = PJ at *
          generalize crc PJ.data.toList = CJ at *
          generalize hF8 : 8 * j = F at *
          generalize hT8 : 8 * (j + 1) = T at *
          have HFT := hid (And.intro hF8 hT8)
          have b1 : F < T := by omega
          have b2 : F < i := by omega
          have b3 : T ≤ F + 8 := by omega
          clear hF8 hT8
          obtain rfl := HCK2.out
          clear HCK2
          obtain ⟨i0, hi, hz0, hz1, hz2⟩ := info_parts info_ck
          have bT : (F : Int) < (T : Int) := by omega
          have bcap : T ≤ i → (T : Int) ≤ (cap : Int) := by omega
          by_cases hc : T ≤ i
          · have hcap := bcap hc
            have hne : ¬ T = F := by omega
            have hmin : min (i : Int) (T : Int) = (T : Int) := by omega
            clear bcap
            go_wp2_with fail
            (with_reducible refine (JQ.out wr T HF2.out ?jt).mono ?_)
            case jt => have := HFT.out; omega
            rintro e w2 ⟨rfl, hf3⟩
            have HF3 := hid (HF2.out.trans hf3)
            have HG3 := hid hf3
            have HOW3 := hid (ownsRow_fr HOWN.out hf3)
            clear hf3
            go_wp2_with (first | (go_at_call 23; refine (SQ.out _).mono ?_; rintro e w' ⟨rfl, rfl⟩) | (at_builtin; refine wpList_append_lies _ rfl _ _ _ rfl 0 24 i0 _ 5 48 Try.underlying26 hi hz0 hz1 hz2 rfl (by decide) _ _ _ (by rfl) (HOW3.out.alloc _) ⟨w'.heap.size, 0, none⟩ 1 1 (Ck.cells ⟨DG, i, j, PJ, CJ⟩) (by rfl) (by rfl) (World.news_of_block (cs := #[.int .i64 DG, .int .i64 i, .int .i64 j, .string PJ, .int .i64 CJ]) (t := 24) (fr := (0, 0)) (alloc_new w' _)) (ck_one _) (by omega) (by unfold maxLen; omega) (by omega) (Nat.zero_le _) (w'.heap.size + 1) (by simp) ?_; intro gg cap4 w4 hown4 hgrow hat hlt4))
            have HOW4 := hid hown4
            have HF4 := hid (Fr.grown (HF3.out.alloc _) hgrow (fun k hk hs => by have := HO.out k hk; omega))
            have HAT := hid hat
            clear hown4 hgrow hat hlt4
            go_wp2_with fail
            go_roundw
            case rel =>
              refine ⟨j + 1, by omega, by go_num, HF4.out, ?_, ?_⟩
              · rw [HST2.out, List.flatMap_append, List.flatMap_cons, List.flatMap_nil, List.append_nil]
                exact HOW4.out
              · intro b9 hb9
                have hb9 : gg = b9 := Option.some.inj hb9
                subst hb9
                rcases HAT.out with h8 | h8
                · exact HO.out _ h8
                · have := HF3.out.size
                  omega
            case measure => simp [intOf]; omega
          · have hcap : (i : Int) ≤ (cap : Int) := by omega
            have hne : ¬ i = F := by omega
            have hmin : min (i : Int) (T : Int) = (i : Int) := by omega
            clear bcap
            go_wp2_with fail
            (with_reducible refine (JQ.out wr i HF2.out ?jt).mono ?_)
            case jt => have := HFT.out; omega
            rintro e w2 ⟨rfl, hf3⟩
            have HF3 := hid (HF2.out.trans hf3)
            have HG3 := hid hf3
            have HOW3 := hid (ownsRow_fr HOWN.out hf3)
            clear hf3
            go_wp2_with (first | (go_at_call 23; refine (SQ.out _).mono ?_; rintro e w' ⟨rfl, rfl⟩) | (at_builtin; refine wpList_append_lies _ rfl _ _ _ rfl 0 24 i0 _ 5 48 Try.underlying26 hi hz0 hz1 hz2 rfl (by decide) _ _ _ (by rfl) (HOW3.out.alloc _) ⟨w'.heap.size, 0, none⟩ 1 1 (Ck.cells ⟨DG, i, j, PJ, CJ⟩) (by rfl) (by rfl) (World.news_of_block (cs := #[.int .i64 DG, .int .i64 i, .int .i64 j, .string PJ, .int .i64 CJ]) (t := 24) (fr := (0, 0)) (alloc_new w' _)) (ck_one _) (by omega) (by unfold maxLen; omega) (by omega) (Nat.zero_le _) (w'.heap.size + 1) (by simp) ?_; intro gg cap4 w4 hown4 hgrow hat hlt4))
            have HOW4 := hid hown4
            have HF4 := hid (Fr.grown (HF3.out.alloc _) hgrow (fun k hk hs => by have := HO.out k hk; omega))
            have HAT := hid hat
            clear hown4 hgrow hat hlt4
            go_wp2_with fail
            go_roundw
            case rel =>
              refine ⟨j + 1, by omega, by go_num, HF4.out, ?_, ?_⟩
              · rw [HST2.out, List.flatMap_append, List.flatMap_cons, List.flatMap_nil, List.append_nil]
                exact HOW4.out
              · intro b9 hb9
                have hb9 : gg = b9 := Option.some.inj hb9
                subst hb9
                rcases HAT.out with h8 | h8
                · exact HO.out _ h8
                · have := HF3.out.size
                  omega
            case measure => simp [intOf]; omega
        · have he : j = M := by omega
          subst he
          rw [HTK.out] at HOWN
          go_wp2_with fail
          go_ret2
          refine ⟨_, rfl, ?_, HF2.out⟩
          have := HOWN.out
          rw [← HLN.out] at this
          exact Cv.own this
end Go.Proofs.Ythnigmbdacjlnaa.Cw
