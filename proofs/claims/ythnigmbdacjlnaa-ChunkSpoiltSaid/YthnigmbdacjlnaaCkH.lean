/- The reference's Split, of a snapshot that is right. Own work. -/
import Derived.Test.YthnigmbdacjlnaaCkG
import Derived.Deep.Cut
import Derived.Deep.RegionHeld3
namespace Go.Proofs.Ythnigmbdacjlnaa.Cw
open Go.RowKit
set_option linter.unusedVariables false
set_option linter.unusedSimpArgs false

set_option maxRecDepth 100000 in
set_option maxHeartbeats 6400000 in
theorem rsplit_ok (w : World) (v : Value) (bs : List ByteArray) (h : Tv w v bs) (hb : ¬ (bs.length < 1 ∨ 1024 < bs.length)) (hall : ∀ b ∈ bs, b.size = 128) :
    Calls Try.prog 10 #[v] w fun e w' => ∃ u, e = .returned (.tuple #[u, .int .i64 0]) ∧ Cv w' u (spl bs) ∧ Fr w w' (fun _ => False) := by
  obtain ⟨A, cap, rfl, h1, h2, h3⟩ := h
  simp only [List.length_map] at h1 ⊢
  obtain ⟨b, off, rfl, hbl, hc⟩ := h3 (fun e => by rw [List.map_eq_nil_iff.1 e] at hb; simp at hb)
  have HA := hid hc
  have HX := hid (fun (i : Nat) (hi : i < bs.length) => (⟨bs[i], List.getElem?_eq_getElem hi, hall _ (List.getElem_mem hi)⟩ : ∃ x, bs[i]? = some x ∧ x.size = 128))
  have hjs := jn_size hall
  have SA := hid (fun (W : World) => refOf_calls W (jn bs) (by rw [hjs]; unfold maxLen; omega))
  have HCK : Hid (∀ i : Nat, ckAt bs i = ⟨(crc (jn bs).data.toList : Nat), (bs.length : Nat), (i : Nat), jn (part bs i), (crc (jn (part bs i)).data.toList : Nat)⟩) := hid (fun i => rfl)
  have SQ := hid (fun (W : World) (i : Nat) => refOf_calls W (jn (part bs i)) (by rw [part_size hall, part_len]; unfold maxLen; omega))
  have HST := hid (fun (i : Nat) (hi : i < (bs.length + 7) / 8) => spl_take hi)
  have HLN := hid (spl_len bs)
  have HTK : Hid ((spl bs).take ((bs.length + 7) / 8) = spl bs) := hid (List.take_of_length_le (by rw [spl_len]; exact Nat.le_refl _))
  have HJT := hid (fun (i : Nat) (x : ByteArray) (hx : bs[i]? = some x) => jn_take hx)
  have HJA : Hid (jn (bs.take bs.length) = jn bs) := hid (by rw [List.take_length])
  have HJS := hid (fun (i : Nat) => (jn_size (fun x hx => hall x (List.mem_of_mem_take hx)) : (jn (bs.take i)).size = (bs.take i).length * 128))
  have HTL := hid (fun (i : Nat) (hi : i ≤ bs.length) => (by rw [List.length_take]; omega : (bs.take i).length = i))
  have HPT := hid (fun (j A m : Nat) (hA : A = 1024 * j) (hm : m = min 8 (bs.length - 8 * j)) => jn_part hall hA hm)
  have HMN := hid (fun (j : Nat) => mn_in (N := bs.length) (j := j) (by omega) (by omega))
  have HSZ := hid hjs
  clear h3 hc hall hjs
  generalize hN : bs.length = N at *
  have HN := hid hN
  clear hN
  have d1 : decide ((N : Int) < 1) = false := decide_eq_false (by omega)
  have d2 : decide ((1024 : Int) < N) = false := decide_eq_false (by omega)
  have d3 : decide (1024 < N) = false := decide_eq_false (by omega)
  have d4 : decide (N < 1) = false := decide_eq_false (by omega)
  have d6 : decide (N = 0) = false := decide_eq_false (by omega)
  go_enter Try.func10, Try.ntmps10
  go_wp2_with fail
  go_loopw [4, 22] (fun s t wr => ∃ i : Nat, i ≤ N ∧ t = .int .i64 i ∧ s = .string (jn (bs.take i)) ∧ Fr w wr (fun _ => False)) (fun _ t _ => N - (intOf t).toNat)
  case atStart => exact ⟨0, by omega, rfl, by simp [jn], Fr.refl _ _⟩
  case round =>
    obtain ⟨i, hi, rfl, rfl, hf⟩ := hrel
    by_cases hlt : i < N
    · obtain ⟨x, hx, hsz⟩ := HX.out i hlt
      have a0 := cell_keep (HA.out i _ (map_some hx)) hf
      have HF := hid hf
      have HJ := hid (HJT.out i x hx)
      have hss : (jn (bs.take i)).size ≤ 131072 := by rw [HJS.out i, HTL.out i hi]; omega
      have hss2 : ¬ 9223372036854775807 < (jn (bs.take i)).size + x.size := by omega
      generalize jn (bs.take i) = L at *
      have e1 : ((x.size : Int) != 128) = false := by rw [hsz]; rfl
      clear hx hf hsz
      go_wp2_with fail
      go_roundw
      case rel => exact ⟨i + 1, by omega, by go_num, by rw [HJ.out], HF.out⟩
      case measure => simp [intOf]; omega
    · have he : i = N := by omega
      subst he
      have HF := hid hf
      clear hf
      obtain ⟨wo, rfl⟩ : ∃ wo : World, wo = wr := ⟨_, rfl⟩
      rw [HJA.out]
      generalize jn bs = AL at *
      generalize crc AL.data.toList = DG at *
      go_wp2_with (first | (go_at_call 26; refine (SA.out _).mono ?_; rintro e w' ⟨rfl, rfl⟩))
      generalize hMM : (i + 7) / 8 = M at *
      have HMM := hid hMM
      clear hMM
      go_loopw [7, 9] (fun vo t wr => ∃ j : Nat, j ≤ M ∧ t = .int .i64 ((min (1024 * j) (128 * i) : Nat) : Int) ∧ Fr w wr (fun _ => False) ∧ wr.ownsRow 0 35 5 vo j (((spl bs).take j).flatMap Ck.cells) ∧ ∀ b, vo.ownBlock = some b → w.heap.size ≤ b) (fun vo _ _ => M - (match vo with | .slice _ n _ => n | _ => 0))
      case atStart => exact ⟨0, by omega, by simp, HF.out, World.ownsRow_nil _ _ _ _, fun b hb => by cases hb⟩
      case round =>
        obtain ⟨j, hj, rfl, hf, hown, hO⟩ := hrel
        have HF2 := hid hf
        have HOWN := hid hown
        have HO := hid hO
        have HEV := hown.2
        clear hf hown hO
        obtain ⟨Ao, capo, rfl⟩ : ∃ Ao capo, u7 = .slice Ao j capo := by
          rcases HEV with ⟨rfl, rfl⟩ | ⟨g, cap9, cur, rfl, _⟩
          · exact ⟨_, _, rfl⟩
          · exact ⟨_, _, rfl⟩
        clear HEV
        have MC := hid (fun (W : World) => refMany_calls W i j)
        rw [HMN.out j] at MC
        by_cases hjm : j < M
        · have hin : 8 * j < i := by have := HMM.out; omega
          obtain ⟨m, hm⟩ : ∃ m, m = min 8 (i - 8 * j) := ⟨_, rfl⟩
          rw [← hm] at MC
          have HPJ := hid (HPT.out j (1024 * j) m rfl hm)
          have hA1 : min (1024 * j) (128 * i) = 1024 * j := by omega
          rw [hA1]
          have hnext : Hid (min (1024 * (j + 1)) (128 * i) = 1024 * j + 128 * m) := hid (by omega)
          have hst := hid (HST.out j hjm)
          have hck := hid (HCK.out j)
          have SQ2 := hid (fun (W : World) => SQ.out W j)
          have b0 : 0 < m := by omega
          have b1 : m ≤ 8 := by omega
          have b2 : 1024 * j + 128 * m ≤ AL.size := by rw [HSZ.out]; omega
          have b9 : AL.size ≤ 131072 := by rw [HSZ.out]; omega
          have HMJ := hid hm
          clear hm hA1
          generalize ckAt bs j = X at *
          generalize jn (part bs j) = PJ at *
          generalize crc PJ.data.toList = CJ at *
          obtain rfl := hck.out
          clear hck
          generalize 1024 * j = F at *
          have b3 : (F : Int) + 128 * (m : Int) ≤ (AL.size : Int) := by omega
          have b4 : (0 : Int) < (m : Int) := by omega
          have b8 : (F : Int) + 128 * (m : Int) ≤ 131072 := by omega
          have b6 : F ≤ F + 128 * m := by omega
          have b5 : (0 : Int) ≤ (F : Int) := by omega
          have e9 : ((F : Int) + 128 * (m : Int)).toNat = F + 128 * m := by omega
          obtain ⟨i0, hi, hz0, hz1, hz2⟩ := info_parts info_rck
          go_upto_region 17 with (go_at_call 27; refine (MC.out _).mono ?_; rintro e w' ⟨rfl, rfl⟩)
          rw [HPJ.out]
          go_wp2_with (first | (go_at_call 26; refine (SQ2.out _).mono ?_; rintro e w' ⟨rfl, rfl⟩) | (at_builtin; refine wpList_append_lies _ rfl _ _ _ rfl 0 35 i0 _ 5 48 Try.underlying30 hi hz0 hz1 hz2 rfl (by decide) _ _ _ (by rfl) (HOWN.out.alloc _) ⟨w'.heap.size, 0, none⟩ 1 1 (Ck.cells ⟨DG, i, j, PJ, CJ⟩) (by rfl) (by rfl) (World.news_of_block (cs := #[.int .i64 DG, .int .i64 i, .int .i64 j, .string PJ, .int .i64 CJ]) (t := 35) (fr := (0, 0)) (alloc_new w' _)) (ck_one _) (by omega) (by unfold maxLen; omega) (by omega) (Nat.zero_le _) (w'.heap.size + 1) (by simp) ?_; intro gg cap4 w4 hown4 hgrow hat hlt4))
          have HOW4 := hid hown4
          have HF4 := hid (Fr.grown (HF2.out.alloc _) hgrow (fun k hk hs => by have := HO.out k hk; omega))
          have HAT := hid hat
          clear hown4 hgrow hat hlt4
          go_wp2_with fail
          go_roundw
          case rel =>
            refine ⟨j + 1, by omega, by rw [hnext.out]; go_num, HF4.out, ?_, ?_⟩
            · rw [hst.out, List.flatMap_append, List.flatMap_cons, List.flatMap_nil, List.append_nil]
              exact HOW4.out
            · intro b9 hb9
              have hb9 : gg = b9 := Option.some.inj hb9
              subst hb9
              rcases HAT.out with h8 | h8
              · exact HO.out _ h8
              · have := HF2.out.size
                omega
          case measure => simp; omega
        · have he : j = M := by omega
          subst he
          have hm0 : min 8 (i - 8 * j) = 0 := by have := HMM.out; omega
          rw [hm0] at MC
          rw [HTK.out] at HOWN
          have MC : Hid (∀ W : World, Calls Try.prog 27 #[.int .i64 i, .int .i64 j] W fun e w' => e = .returned (.int .i64 0) ∧ w' = W) := MC
          clear hm0
          generalize ((min (1024 * j) (128 * i) : Nat) : Int) = az at *
          go_wp2_with (go_at_call 27; refine (MC.out _).mono ?_; rintro e w' ⟨rfl, rfl⟩)
          go_ret2
          refine ⟨_, rfl, ?_, HF2.out⟩
          refine Cv.own (l := spl bs) (t := 35) ?_
          rw [HLN.out]
          exact HOWN.out

theorem rsplit_calls (w : World) (v : Value) (bs : List ByteArray) (h : Tv w v bs) :
    Calls Try.prog 10 #[v] w fun e w' => ∃ u, e = .returned (.tuple #[u, .int .i64 (splE bs)]) ∧ Cv w' u (splL bs) ∧ Fr w w' (fun _ => False) := by
  by_cases hb : bs.length < 1 ∨ 1024 < bs.length
  · have he : splE bs = 1 := if_pos hb
    unfold splL
    rw [he, if_neg (by decide)]
    exact (rsplit_len w v bs h hb).mono fun _ w' q => ⟨_, q.1, Cv.nil w', q.2⟩
  · by_cases hall : ∀ b ∈ bs, b.size = 128
    · have he : splE bs = 0 := by
        unfold splE
        rw [if_neg hb, if_pos hall]
      unfold splL
      rw [he, if_pos rfl]
      exact rsplit_ok w v bs h hb hall
    · have he : splE bs = 4 := by
        unfold splE
        rw [if_neg hb, if_neg hall]
      unfold splL
      rw [he, if_neg (by decide)]
      exact (rsplit_form w v bs h hb hall).mono fun _ w' q => ⟨_, q.1, Cv.nil w', q.2⟩
end Go.Proofs.Ythnigmbdacjlnaa.Cw
