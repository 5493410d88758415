/- ChunkWhole: the walk. Own work. -/
import Derived.Test.YthnigmbdacjlnaaCkY
import Derived.Test.YthnigmbdacjlnaaChunkStepsWalk
import Derived.Deep.DeepCutAuto
import Derived.Deep.Cut
import Derived.Deep.CutRange
namespace Go.Proofs.Ythnigmbdacjlnaa.Cw
open Go.RowKit
set_option linter.unusedVariables false
set_option linter.unusedSimpArgs false

/-- Which came. -/
def camA (M : Nat) (ks : List Nat) : Array Value := (Array.range M).map (fun k => Value.bool (decide (k ∈ ks)))
theorem camA_at {M : Nat} {ks : List Nat} {k : Nat} (h : k < M) : (camA M ks)[k]? = some (.bool (decide (k ∈ ks))) := by
  unfold camA
  rw [Array.getElem?_map, Array.getElem?_range, if_pos h]
  rfl
theorem camA_set {M : Nat} {ks : List Nat} {k : Nat} : (camA M ks).setIfInBounds k (.bool true) = camA M (ks ++ [k]) := by
  apply Array.ext_getElem?
  intro i
  rw [Array.getElem?_setIfInBounds]
  unfold camA
  rw [Array.getElem?_map, Array.getElem?_map]
  by_cases hi : i < M
  · rw [Array.getElem?_range, if_pos hi]
    by_cases hk : k = i
    · subst hk
      simp [hi]
    · rw [if_neg hk]
      simp only [Option.map_some, Option.some.injEq, Value.bool.injEq]
      by_cases hm : i ∈ ks
      · simp [hm]
      · simp [hm]; omega
  · rw [Array.getElem?_eq_none (by simpa using hi)]
    by_cases hk : k = i
    · subst hk
      simp [hi]
    · rw [if_neg hk]
      rfl
theorem info_bool25 : (Try.prog.info? 4).map (fun i => (i.zero, i.size, i.bytes)) = some (some (.bool false), 1, 1) := by kernel_rfl
theorem madeB (w : World) (M : Nat) (h : M ≤ 1000000) : (Instr.makeSlice 56 (.int .i64 (M : Int)) (.int .i64 (M : Int))).run Try.prog w = .ok (.slice (some ⟨w.heap.size, 0, none⟩) M M) (w.alloc (.cells (camA M []) 4)) := by
  obtain ⟨i0, hi, hz0, hz1, hz2⟩ := info_parts info_bool25
  have hr := run_make (P := Try.prog) w 56 4 i0 (.bool false) Try.underlying56 hi hz0 .i64 .i64 (M : Int) (M : Int) (by omega) (by omega) (by rw [hz2]; omega) (by omega)
  rw [hr, hz1, Int.toNat_natCast, Nat.mul_one]
  have e : madeCells (Value.bool false).cells M = camA M [] := by
    unfold madeCells camA
    apply Array.ext_getElem?
    intro i
    rw [Array.getElem?_map, Array.getElem?_map]
    congr 1
    funext k
    show #[Value.bool false][k % 1]! = _
    rw [Nat.mod_one]
    rfl
  rw [e]

theorem sb_add {bs : List ByteArray} (hv : Vs bs) {k : Nat} (hk : k < mch bs) (ks : List Nat) (w : World) (g b : Nat) (f : Ck) (h : Col w g b f (Sub bs ks)) :
    Calls Try.prog 15 #[.pointer (some ⟨g, 0, none⟩), (ckAt bs k).V] w (AdP w g b (!decide (k ∈ ks)) 0 (Sub bs (if k ∈ ks then ks else ks ++ [k]))) := by
  have := add_calls w g b f (ckAt bs k) (Sub bs ks) h
  rwa [sub_adB hv hk, sub_adE hv hk, sub_adL hv hk] at this

theorem sb_full {bs : List ByteArray} (hv : Vs bs) {ks : List Nat} (hne : ks ≠ []) (hn : ks.Nodup) (hk : ∀ k ∈ ks, k < mch bs) (hf : ks.length = mch bs) (w : World) (g b : Nat) (f : Ck) (h : Col w g b f (Sub bs ks)) :
    Calls Try.prog 17 #[.pointer (some ⟨g, 0, none⟩)] w fun e w' => ∃ u, e = .returned (.tuple #[u, .int .i64 0]) ∧ Tv w' u bs ∧ Fr w w' (fun _ => False) := by
  have := blocks_calls w g b f _ h (sub_gd hv hk)
  obtain ⟨h1, h2⟩ := sub_all hv hne hn hk hf
  rwa [h1, h2] at this
theorem sb_part {bs : List ByteArray} (hv : Vs bs) {ks : List Nat} (hne : ks ≠ []) (hn : ks.Nodup) (hk : ∀ k ∈ ks, k < mch bs) (hf : ¬ ks.length = mch bs) (w : World) (g b : Nat) (f : Ck) (h : Col w g b f (Sub bs ks)) :
    Calls Try.prog 17 #[.pointer (some ⟨g, 0, none⟩)] w fun e w' => ∃ u, e = .returned (.tuple #[u, .int .i64 7]) ∧ Fr w w' (fun _ => False) := by
  have := blocks_calls w g b f _ h (sub_gd hv hk)
  rw [sub_some hne hn hk hf] at this
  exact this.mono fun _ _ ⟨u, h1, _, h3⟩ => ⟨u, h1, h3⟩
theorem sb_miss {bs : List ByteArray} (hv : Vs bs) {ks : List Nat} (hne : ks ≠ []) (hn : ks.Nodup) (hk : ∀ k ∈ ks, k < mch bs) (w : World) (g b : Nat) (f : Ck) (h : Col w g b f (Sub bs ks)) :
    Calls Try.prog 20 #[.pointer (some ⟨g, 0, none⟩)] w fun e w' => ∃ A cap, e = .returned (.slice A (mch bs - ks.length) cap) ∧ Fr w w' (fun _ => False) := by
  have := missing_calls w g b f _ h (sub_gd hv hk)
  refine this.mono ?_
  rintro e w' ⟨u, rfl, ⟨A, cap, rfl, _⟩, hf⟩
  rw [List.length_map, sub_ms hne hn hk]
  exact ⟨A, cap, rfl, hf⟩
/-- What is held between the rounds. -/
structure Ws (bs : List ByteArray) (w1 W : World) (g b cm : Nat) (ks : List Nat) : Prop where
  fr : Fr w1 W (fun _ => False)
  col : ∃ f, Col W g b f (Sub bs ks)
  cam : W.heap[cm]? = some (.cells (camA (mch bs) ks) 4 (0, 0))
  nd : ks.Nodup
  inr : ∀ k ∈ ks, k < mch bs
theorem Ws.keep {bs : List ByteArray} {w1 W W' : World} {g b cm : Nat} {ks : List Nat} (h : Ws bs w1 W g b cm ks) (k : Fr W W' (fun _ => False)) : Ws bs w1 W' g b cm ks := by
  obtain ⟨f, hc⟩ := h.col
  exact ⟨h.fr.trans k, ⟨f, hc.fr k⟩, k.at_ h.cam (fun x => x), h.nd, h.inr⟩
theorem Ws.old {bs : List ByteArray} {w1 W W' : World} {g b cm k : Nat} {ks : List Nat} {f : Ck} (h : Ws bs w1 W g b cm ks) (hk : k ∈ ks) (hc : Col W' g b f (Sub bs (if k ∈ ks then ks else ks ++ [k]))) (hf : Fr W W' (fun i => i = g ∨ i = b)) (h1 : w1.heap.size ≤ g) (h2 : w1.heap.size ≤ b) (h3 : ¬ (cm = g ∨ cm = b)) : Ws bs w1 W' g b cm ks := by
  rw [if_pos hk] at hc
  exact ⟨fresh_two h.fr hf h1 h2, ⟨f, hc⟩, hf.at_ h.cam h3, h.nd, h.inr⟩
theorem Ws.new {bs : List ByteArray} {w1 W W' : World} {g b cm k : Nat} {ks : List Nat} {f : Ck} (h : Ws bs w1 W g b cm ks) (hk : ¬ k ∈ ks) (hkm : k < mch bs) (hc : Col W' g b f (Sub bs (if k ∈ ks then ks else ks ++ [k]))) (hf : Fr W W' (fun i => i = g ∨ i = b)) (h1 : w1.heap.size ≤ g) (h2 : w1.heap.size ≤ b) (h3 : ¬ (cm = g ∨ cm = b)) (h4 : w1.heap.size ≤ cm) : Ws bs w1 (W'.setCell ⟨cm, k, none⟩ (.bool true)) g b cm (ks ++ [k]) := by
  rw [if_neg hk] at hc
  have hcam := hf.at_ h.cam h3
  refine ⟨(fresh_two h.fr hf h1 h2).set _ (fun x => ?_) _, ⟨f, hc.frS (Fr.set1 W' cm k _) (fun e => h3 (.inl e.symm)) (fun e => h3 (.inr e.symm))⟩, ?_, ?_, ?_⟩
  · have x : cm < w1.heap.size := x
    omega
  · rw [set_blk hcam k (.bool true), camA_set]
  · rw [List.nodup_append]
    refine ⟨h.nd, by simp, fun a ha b2 hb2 e => ?_⟩
    simp at hb2
    subst hb2
    subst e
    exact hk ha
  · intro j hj
    rw [List.mem_append, List.mem_singleton] at hj
    rcases hj with hj | rfl
    · exact h.inr j hj
    · exact hkm

set_option maxRecDepth 100000 in
set_option maxHeartbeats 6400000 in
theorem chunkWhole_good (w : World) (v u : Value) (bs : List ByteArray) (os : List Int) (h : Tv w v bs) (ho : Nv w u os) (hb : Vs bs) (hos : os.length ≤ 300) :
    Calls Try.prog 5 #[v, u] w fun e w' => e = .returned (.bool true) ∧ Fr w w' (fun _ => False) := by
  have HV := hid h
  have SPC := hid (split_calls w v bs h)
  rw [spl_no hb, splL_of (spl_no hb)] at SPC
  obtain ⟨A, cap, rfl, h1, h2, h3⟩ := h
  obtain ⟨A2, cap2, rfl, k1, k2, k3⟩ := ho
  simp only [List.length_map] at h1 k1 SPC HV ⊢
  have HK3 := hid (fun hn => k3 hn)
  have HM : Hid (1 ≤ mch bs ∧ mch bs ≤ 200 ∧ (spl bs).length = mch bs) := hid ⟨by have := hb.1; unfold mch; omega, by have := hb.1; unfold mch; omega, spl_len bs⟩
  have hN : bs.length ≤ 1024 := by have := hb.1; omega
  have HB := hid hb
  clear h3 k3 hb
  have HLO := hid (fun i (hi : i < os.length) => (⟨_, List.getElem?_eq_getElem hi⟩ : ∃ x, os[i]? = some x))
  generalize bs.length = N at *
  generalize os.length = LO at *
  have d1 : decide ((1100 : Int) < (N : Int)) = false := decide_eq_false (by omega)
  have d2 : decide ((300 : Int) < (LO : Int)) = false := decide_eq_false (by omega)
  have HMD := hid (fun (W : World) => madeB W (mch bs) (by have := HM.out.2.1; omega))
  obtain ⟨M, hMM⟩ : ∃ M, mch bs = M := ⟨_, rfl⟩
  rw [hMM] at HM HMD
  have HMM := hid hMM
  clear hMM
  go_enter Try.func5, Try.ntmps5
  go_wp2_with (first
    | (go_at_call 9; refine SPC.out.mono ?_; rintro e w1 ⟨u1, rfl, ⟨A1, c1, rfl, hq1, hq2, hq3⟩, hf1⟩; rw [HM.out.2.2] at hq1 ⊢)
    | (go_at_call 14; refine (new25_calls _).mono ?_; rintro e w2 ⟨g, b, rfl, hcol, hf2, hg, hb⟩; have hmk := HMD.out w2))
  have hsne : spl bs ≠ [] := fun e => by
    have := HM.out
    rw [e] at this
    simp at this
    omega
  obtain ⟨b1, o1, rfl, hb1, hc1⟩ := hq3 hsne
  have HC1 : Hid (∀ k, k < mch bs → ∀ j u, (ckAt bs k).cells[j]? = some u → w1.cell? ⟨b1, o1 + k * 5 + j, none⟩ = some u) := hid (fun k hk j u hu => hc1 k _ (spl_get hk) j u hu)
  have hgl := blk_lt hcol.blk
  have hbl := hcol.b_lt
  have HPL : Hid (w1.heap.size ≤ g ∧ w1.heap.size ≤ b ∧ w1.heap.size ≤ w2.heap.size ∧ ¬ (w2.heap.size = g ∨ w2.heap.size = b)) := hid ⟨hg, hb, hf2.size, by rintro (e | e) <;> omega⟩
  have HW0 : Hid (Ws bs w1 (w2.alloc (.cells (camA M []) 4)) g b w2.heap.size []) := hid ⟨hf2.alloc _, ⟨zCk, hcol.fr ((Fr.refl w2 _).alloc _)⟩, by rw [HMM.out]; exact alloc_new w2 _, List.nodup_nil, fun k hk => by cases hk⟩
  have HF1 := hid hf1
  clear hmk hcol hf2 hg hb hgl hbl hf1 hc1 hsne hq3
  generalize w2.alloc (.cells (camA M []) 4) = w3 at *
  generalize hcm : w2.heap.size = cm at *
  clear hcm
  go_loopw [9, 10] (fun nv t wr => ∃ i : Nat, i ≤ LO + M ∧ t = .int .i64 i ∧ ∃ ks, nv = .int .i64 (ks.length : Nat) ∧ Ws bs w1 wr g b cm ks ∧ ∀ k, k < M → k + LO < i → k ∈ ks) (fun _ t _ => LO + M - (intOf t).toNat)
  case atStart => exact ⟨0, by omega, rfl, [], rfl, HW0.out, fun k _ hk => by omega⟩
  case round =>
    obtain ⟨i, hi, rfl, ks, rfl, hW, hseen⟩ := hrel
    by_cases hlt : i < LO + M
    · obtain ⟨kz, hk1, hk2⟩ : ∃ kz : Int, (i < LO → os[i]? = some kz) ∧ (LO ≤ i → kz = ((i - LO : Nat) : Int)) := by
        by_cases h9 : i < LO
        · obtain ⟨x, hx⟩ := HLO.out i h9
          exact ⟨x, fun _ => hx, fun h8 => by omega⟩
        · exact ⟨_, fun h8 => absurd h8 h9, fun _ => rfl⟩
      have HW := hid hW
      have HSEEN := hid hseen
      have HK1 := hid hk1
      have HK2 := hid hk2
      clear hW hseen hk1 hk2
      obtain ⟨nk, hnk⟩ : ∃ nk, ks.length = nk := ⟨_, rfl⟩
      have HNK := hid hnk
      rw [hnk]
      clear hnk
      have hlt2 : decide ((i : Int) < (LO : Int) + (M : Int)) = true := decide_eq_true (by omega)
      have hMb : M ≤ 200 := HM.out.2.1
      go_upto_if 60 with fail
      go_cut [11] (fun kv wx => wx = wr ∧ kv = .int .i64 kz)
      case first =>
        by_cases h9 : i < LO
        · obtain ⟨bo, oo, rfl, hbo, hco⟩ := HK3.out (fun e => by
            have := HK1.out h9
            rw [List.map_eq_nil_iff.1 e] at this
            cases this)
          have a0 := cell_keep (hco i _ (map_some (HK1.out h9))) (HF1.out.trans HW.out.fr)
          clear hco
          go_wp2_with fail
          go_meet
          case rel => exact ⟨rfl, rfl⟩
        · have e9 : Value.int .i64 ((i : Int) - (LO : Int)) = .int .i64 kz := by
            rw [HK2.out (by omega)]
            congr 1
            omega
          have E9 := hid e9
          clear e9
          go_wp2_with fail
          go_meet
          case rel => exact ⟨rfl, E9.out⟩
      obtain ⟨rfl, rfl⟩ := hcut
      by_cases hkz : 0 ≤ kz ∧ kz < (M : Int)
      · obtain ⟨k, rfl⟩ : ∃ k : Nat, kz = k := ⟨kz.toNat, by omega⟩
        have hkM : k < mch bs := by rw [HMM.out]; omega
        have HKM := hid hkM
        have hkM2 : k < M := by omega
        have hkM3 : (k : Int) < (M : Int) := hkz.2
        obtain ⟨f0, hcol0⟩ := HW.out.col
        have AC := hid (sb_add HB.out hkM ks wc g b f0 hcol0)
        have a0 := cell_keep (HC1.out k hkM 0 _ rfl) HW.out.fr
        have a1 := cell_keep (HC1.out k hkM 1 _ rfl) HW.out.fr
        have a2 := cell_keep (HC1.out k hkM 2 _ rfl) HW.out.fr
        have a3 := cell_keep (HC1.out k hkM 3 _ rfl) HW.out.fr
        have a4 := cell_keep (HC1.out k hkM 4 _ rfl) HW.out.fr
        rw [Nat.add_zero] at a0
        generalize ckAt bs k = X at *
        obtain ⟨y0, y1, y2, y3, y4⟩ := X
        simp only at a0 a1 a2 a3 a4
        have r1 : decide ((k : Int) < 0) = false := decide_eq_false (by omega)
        have r2 : decide ((M : Int) ≤ (k : Int)) = false := decide_eq_false (by omega)
        obtain ⟨kd, hkd⟩ : ∃ kd, decide (k ∈ ks) = kd := ⟨_, rfl⟩
        rw [hkd] at AC
        have HKD := hid hkd
        have e17 : ((!kd) == kd) = false := by cases kd <;> rfl
        have HC0 := hid hcol0
        clear hkM hcol0 hkd
        go_upto_if 96 with (first
          | (go_at_call 15
             refine AC.out.mono ?_
             rintro e w4 ⟨rfl, f4, hcol4, hf4⟩
             have hb4 := hf4.at_ HW.out.cam HPL.out.2.2.2
             have m0 := (cell_blk hb4 k).trans (camA_at HKM.out)
             rw [HKD.out] at m0
             have m1 := free_blk hb4 k
             have HB4 := hid hb4
             have HCOL4 := hid hcol4
             have HF4 := hid hf4
             clear hb4 hcol4 hf4 a0 a1 a2 a3 a4))
        have hnk9 : nk ≤ 200 := by
          have := sub_full HW.out.nd HW.out.inr
          rw [HNK.out, HMM.out] at this
          omega
        go_cut [9] (fun nv wx => ∃ ks2, nv = .int .i64 (ks2.length : Nat) ∧ Ws bs w1 wx g b cm ks2 ∧ k ∈ ks2 ∧ ∀ j ∈ ks, j ∈ ks2)
        case first =>
          cases kd with
          | true =>
            have hin := of_decide_eq_true HKD.out
            have HW4 := hid (Ws.old HW.out hin HCOL4.out HF4.out HPL.out.1 HPL.out.2.1 HPL.out.2.2.2)
            have HIN := hid hin
            clear hin
            go_wp2_with fail
            go_meet
            case rel => exact ⟨ks, by rw [HNK.out], HW4.out, HIN.out, fun j hj => hj⟩
          | false =>
            have hni := of_decide_eq_false HKD.out
            have HW4 := hid (Ws.new HW.out hni HKM.out HCOL4.out HF4.out HPL.out.1 HPL.out.2.1 HPL.out.2.2.2 HPL.out.2.2.1)
            clear hni
            go_wp2_with fail
            go_meet
            case rel => exact ⟨ks ++ [k], by rw [List.length_append, List.length_singleton, HNK.out]; go_num, HW4.out, by simp, fun j hj => List.mem_append.2 (.inl hj)⟩
        obtain ⟨ks2, rfl, hW2, hin2, hsub2⟩ := hcut
        have HWW := hid hW2
        have hne2 : ks2 ≠ [] := fun e => by rw [e] at hin2; cases hin2
        obtain ⟨f5, hcol5⟩ := hW2.col
        have HSEEN2 : Hid (∀ j, j < M → j + LO < i + 1 → j ∈ ks2) := hid (fun j hj hj2 => by
          by_cases h8 : j + LO < i
          · exact hsub2 j (HSEEN.out j hj h8)
          · have h7 := HK2.out (by omega)
            have : j = k := by omega
            rw [this]
            exact hin2)
        have hfull := sub_full hW2.nd hW2.inr
        rw [HMM.out] at hfull
        obtain ⟨nk2, hnk2⟩ : ∃ nk2, ks2.length = nk2 := ⟨_, rfl⟩
        have HNK2 := hid hnk2
        have MS := hid (fun (W : World) (hf : Fr wc W (fun _ => False)) => sb_miss HB.out hne2 hW2.nd hW2.inr W g b f5 (hcol5.fr hf))
        rw [HMM.out, hnk2] at MS
        rw [hnk2] at hfull ⊢
        obtain ⟨nm, hnm⟩ : ∃ nm, M - nk2 = nm := ⟨_, rfl⟩
        rw [hnm] at MS
        have e5 : ((nm : Int) != (M : Int) - (nk2 : Int)) = false := by
          rw [show (M : Int) - (nk2 : Int) = (nm : Int) by omega]
          simp
        have HCOL5 := hid hcol5
        by_cases hf : nk2 = M
        · have BL := hid (sb_full HB.out hne2 hW2.nd hW2.inr (by rw [hnk2, HMM.out]; exact hf) wc g b f5 hcol5)
          have e6 : ((nk2 : Int) == (M : Int)) = true := by rw [hf]; simp
          have HNM := hid hnm
          clear hW2 hin2 hsub2 hne2 hcol5 hnk2 hnm hf
          go_wp2_with (first
            | (go_at_call 17; refine BL.out.mono ?_; rintro e w7 ⟨u7, rfl, htv7, hf7⟩)
            | (go_at_call 22; refine (texts_calls _ u7 _ _ _ htv7 (HV.out.fr (HF1.out.trans (HWW.out.fr.trans hf7)))).mono ?_; rw [decide_eq_true (rfl : bs = bs)]; rintro e w8 ⟨rfl, hf8⟩)
            | (go_at_call 20; refine (MS.out _ (hf7.trans hf8)).mono ?_; rintro e w9 ⟨A9, cap9, rfl, hf9⟩))
          go_roundw
          case rel => exact ⟨i + 1, by omega, by go_num, ks2, by rw [HNK2.out], HWW.out.keep (hf7.trans (hf8.trans hf9)), HSEEN2.out⟩
          case measure => simp [intOf]; omega
        · have BL := hid (sb_part HB.out hne2 hW2.nd hW2.inr (by rw [hnk2, HMM.out]; exact hf) wc g b f5 hcol5)
          have e6 : ((nk2 : Int) == (M : Int)) = false := by rw [beq_eq_false_iff_ne]; omega
          have HNM := hid hnm
          clear hW2 hin2 hsub2 hne2 hcol5 hnk2 hnm hf
          go_wp2_with (first
            | (go_at_call 17; refine BL.out.mono ?_; rintro e w7 ⟨u7, rfl, hf7⟩)
            | (go_at_call 20; refine (MS.out _ hf7).mono ?_; rintro e w9 ⟨A9, cap9, rfl, hf9⟩))
          go_roundw
          case rel => exact ⟨i + 1, by omega, by go_num, ks2, by rw [HNK2.out], HWW.out.keep (hf7.trans hf9), HSEEN2.out⟩
          case measure => simp [intOf]; omega
      · have HSEEN2 : Hid (∀ j, j < M → j + LO < i + 1 → j ∈ ks) := hid (fun j hj hj2 => by
          by_cases h8 : j + LO < i
          · exact HSEEN.out j hj h8
          · have h7 := HK2.out (by omega)
            omega)
        by_cases hk0 : kz < 0
        · have r1 : decide (kz < 0) = true := decide_eq_true hk0
          go_wp2_with fail
          go_roundw
          case rel => exact ⟨i + 1, by omega, by go_num, ks, by rw [HNK.out], HW.out, HSEEN2.out⟩
          case measure => simp [intOf]; omega
        · have r1 : decide (kz < 0) = false := decide_eq_false hk0
          have r2 : decide ((M : Int) ≤ kz) = true := decide_eq_true (by omega)
          go_wp2_with fail
          go_roundw
          case rel => exact ⟨i + 1, by omega, by go_num, ks, by rw [HNK.out], HW.out, HSEEN2.out⟩
          case measure => simp [intOf]; omega
    · have he : i = LO + M := by omega
      subst he
      have hall : ∀ k, k < M → k ∈ ks := fun k hk => hseen k hk (by omega)
      have HW := hid hW
      have hM1 := HM.out
      have hne2 : ks ≠ [] := fun e => by
        have := hall 0 (by omega)
        rw [e] at this
        cases this
      have hlen : ks.length = mch bs := by
        have h1 := filter_count hW.nd hW.inr
        rw [List.filter_eq_self.2 (fun a ha => decide_eq_true (hall a (by rw [← HMM.out]; exact List.mem_range.1 ha))), List.length_range] at h1
        omega
      obtain ⟨f5, hcol5⟩ := hW.col
      have BL := hid (sb_full HB.out hne2 hW.nd hW.inr hlen wr g b f5 hcol5)
      have hMb : M ≤ 200 := HM.out.2.1
      have hlt2 : decide (((LO + M : Nat) : Int) < (LO : Int) + (M : Int)) = false := decide_eq_false (by omega)
      clear hW hseen hall hne2 hlen hcol5
      generalize ks.length = nk at *
      go_wp2_with (first
        | (go_at_call 17; refine BL.out.mono ?_; rintro e w7 ⟨u7, rfl, htv7, hf7⟩)
        | (go_at_call 22; refine (texts_calls _ u7 _ _ _ htv7 (HV.out.fr (HF1.out.trans (HW.out.fr.trans hf7)))).mono ?_; rw [decide_eq_true (rfl : bs = bs)]; rintro e w8 ⟨rfl, hf8⟩)
        | (go_at_call 8; refine (speaks25_calls _).mono ?_; rintro e w9 ⟨rfl, hf9⟩))
      go_ret
      exact ⟨rfl, HF1.out.trans (HW.out.fr.trans (hf7.trans (hf8.trans hf9)))⟩
end Go.Proofs.Ythnigmbdacjlnaa.Cw
