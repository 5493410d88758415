/- The reference's collector: Missing. Own work. -/
import Derived.Test.YthnigmbdacjlnaaCkT
namespace Go.Proofs.Ythnigmbdacjlnaa.Cw
open Go.RowKit
set_option linter.unusedVariables false
set_option linter.unusedSimpArgs false

theorem rmissing_none (w : World) (N g : Nat) (v : Value) (h : Rc w N g v []) :
    Calls Try.prog 21 #[.pointer (some ⟨g, 0, none⟩)] w fun e w' => e = .returned (.slice none 0 0) ∧ Fr w w' (fun _ => False) := by
  have y0 := cell_blk h.2.1 0
  simp only [List.getElem?_toArray, List.getElem?_cons_zero, List.getElem?_cons_succ] at y0
  obtain ⟨A, cap, rfl, h1, h2, hx⟩ := h.shape
  rw [List.length_nil] at *
  clear hx h h1 h2
  go_enter Try.func21, Try.ntmps21
  go_wp2_with fail
  go_ret
  exact ⟨rfl, Fr.refl w _⟩

set_option maxRecDepth 100000 in
set_option maxHeartbeats 3200000 in
theorem rmissing_some (w : World) (N g : Nat) (v : Value) (f : Ck) (L : List Ck) (h : Rc w N g v L) (h0 : L[0]? = some f) (hl : L.length ≤ 2000) (T : Nat) (hT : f.t = (T : Int)) (hb1 : 1 ≤ T) (hb2 : T ≤ 1024) :
    Calls Try.prog 21 #[.pointer (some ⟨g, 0, none⟩)] w fun e w' => ∃ u, e = .returned u ∧ Nv w' u (ms ((T + 7) / 8) L) ∧ Fr w w' (fun _ => False) := by
  have y0 := cell_blk h.2.1 0
  simp only [List.getElem?_toArray, List.getElem?_cons_zero, List.getElem?_cons_succ] at y0
  have HR := hid h
  have HH := hid (fun (W : World) (hf : Fr w W (fun _ => False)) (n : Int) => has_calls W N g v L n (h.fr hf (fun _ _ x => x)) (by omega))
  obtain ⟨A, cap, rfl, h1, h2, hx⟩ := h.shape
  obtain ⟨o, rfl, hc0⟩ := hx 0 f h0
  have q1 := hc0 1 _ rfl
  rw [Nat.zero_mul, Nat.zero_add, hT] at q1
  have hln0 : 0 < L.length := (List.getElem?_eq_some_iff.1 h0).1
  have HY := hid y0
  have HQ := hid q1
  have HMN : Hid (∀ j : Nat, mn (T : Int) (j : Int) = ((min 8 (T - 8 * j) : Nat) : Int)) := hid (fun j => mn_in hb1 hb2)
  clear h hx h2 hc0 h0 hT
  generalize L.length = ln at *
  go_enter Try.func21, Try.ntmps21
  go_wp2_with fail
  have hM8 : T ≤ 8 * ((T + 7) / 8) := by omega
  have hM9 : ∀ j, j < (T + 7) / 8 → 8 * j < T := fun j hj => by omega
  generalize hMM : (T + 7) / 8 = M at *
  have HMM : Hid ((T + 7) / 8 = M) := hid hMM
  have hMb : M ≤ 128 := by omega
  have HM8 := hid hM8
  have HM9 := hid hM9
  clear hMM y0 q1 hM8 hM9
  go_loopw [3, 4] (fun vo t wr => ∃ j : Nat, j ≤ M ∧ t = .int .i64 j ∧ Fr w wr (fun _ => False) ∧ wr.ownsRow 0 3 1 vo (ms j L).length ((ms j L).map (Value.int .i64)) ∧ ∀ b, vo.ownBlock = some b → w.heap.size ≤ b) (fun _ t _ => M - (intOf t).toNat)
  case atStart => exact ⟨0, by omega, rfl, Fr.refl _ _, World.ownsRow_nil _ _ _ _, fun b hb => by cases hb⟩
  case round =>
    obtain ⟨j, hj, rfl, hf, hown, hO⟩ := hrel
    have HF := hid hf
    have HOWN := hid hown
    have HO := hid hO
    have y0 := cell_keep HY.out hf
    have q1 := cell_keep HQ.out hf
    clear hf hown hO
    by_cases hjm : j < M
    · obtain ⟨m, hm, hm0⟩ : ∃ m : Nat, mn (T : Int) (j : Int) = m ∧ 0 < m := ⟨_, HMN.out j, by have := HM9.out j hjm; omega⟩
      have MC := hid (fun (W : World) => refMany_calls W T j)
      rw [hm] at MC
      have hm1 : (0 : Int) < (m : Int) := by omega
      clear hm
      have HHJ := hid (HH.out wr HF.out j)
      cases hn : ff L (j : Int) with
      | some y =>
        rw [hn] at HHJ
        have HE := hid (ms_no (show hs L (j : Nat) = some y.s by rw [hs_ff, hn]; rfl))
        have HHJ : Hid (Calls Try.prog 28 #[.pointer (some ⟨g, 0, none⟩), .int .i64 j] wr fun e w' => e = .returned (.tuple #[.agg #[.int .i64 y.d, .int .i64 y.t, .int .i64 y.n, .string y.s, .int .i64 y.c], .bool true]) ∧ Fr wr w' (fun _ => False)) := HHJ
        clear hn
        go_wp2_with (first | (go_at_call 27; refine (MC.out _).mono ?_; rintro e w' ⟨rfl, rfl⟩) | (go_at_call 28; refine HHJ.out.mono ?_; rintro e w3 ⟨rfl, hf3⟩))
        go_roundw
        case rel => exact ⟨j + 1, by omega, by go_num, Fr.alloc (Fr.trans HF.out hf3) _, by rw [HE.out]; exact ownsRow_fr HOWN.out (Fr.alloc hf3 _), HO.out⟩
        case measure => simp [intOf]; omega
      | none =>
        rw [hn] at HHJ
        have HE := hid (ms_yes (show hs L (j : Nat) = none by rw [hs_ff, hn]; rfl))
        have HHJ : Hid (Calls Try.prog 28 #[.pointer (some ⟨g, 0, none⟩), .int .i64 j] wr fun e w' => e = .returned (.tuple #[.agg #[.int .i64 0, .int .i64 0, .int .i64 0, .string ⟨#[]⟩, .int .i64 0], .bool false]) ∧ Fr wr w' (fun _ => False)) := HHJ
        clear hn
        obtain ⟨mj, hmj⟩ : ∃ mj, (ms j L).length = mj := ⟨_, rfl⟩
        have hmj2 := ms_len j L
        rw [hmj] at HOWN hmj2
        have HMJ := hid hmj
        clear hmj
        obtain ⟨i0, hi, hz0, hz1, hz2⟩ := info_parts info_int
        go_upto_region 9 with (first | (go_at_call 27; refine (MC.out _).mono ?_; rintro e w' ⟨rfl, rfl⟩) | (go_at_call 28; refine HHJ.out.mono ?_; rintro e w3 ⟨rfl, hf3⟩))
        have HF5 := hid (Fr.alloc (Fr.trans HF.out hf3) (.cells #[.int .i64 0, .int .i64 0, .int .i64 0, .string ⟨#[]⟩, .int .i64 0] 35))
        have HOW5 := hid (ownsRow_fr HOWN.out (Fr.alloc hf3 (.cells #[.int .i64 0, .int .i64 0, .int .i64 0, .string ⟨#[]⟩, .int .i64 0] 35)))
        clear hf3
        generalize w3.alloc (.cells #[.int .i64 0, .int .i64 0, .int .i64 0, .string ⟨#[]⟩, .int .i64 0] 35) = w5 at *
        go_wp2_with (at_builtin; refine wpList_append_lies _ rfl _ _ _ rfl 0 3 i0 _ 1 8 Try.underlying52 hi hz0 hz1 hz2 rfl (by decide) _ _ _ (by rfl) (HOW5.out.alloc _) ⟨w5.heap.size, 0, none⟩ 1 1 [.int .i64 j] (by rfl) (by rfl) (World.news_of_block (cs := #[.int .i64 j]) (t := 3) (fr := (0, 0)) (alloc_new w5 _)) (by intro u hu; simp at hu; subst hu; rfl) (by omega) (by unfold maxLen; omega) (by omega) (Nat.zero_le _) (w5.heap.size + 1) (by simp) ?_; intro gg cap4 w4 hown4 hgrow hat hlt4)
        have HOW4 := hid hown4
        have HF4 := hid (Fr.grown (HF5.out.alloc _) hgrow (fun k hk hs => by have := HO.out k hk; omega))
        have HAT := hid hat
        clear hown4 hgrow hat hlt4
        go_wp2_with fail
        go_roundw
        case rel =>
          refine ⟨j + 1, by omega, by go_num, HF4.out, ?_, ?_⟩
          · rw [HE.out, List.length_append, List.map_append, HMJ.out]
            exact HOW4.out
          · intro b9 hb9
            have hb9 : gg = b9 := Option.some.inj hb9
            subst hb9
            rcases HAT.out with h8 | h8
            · exact HO.out _ h8
            · have := HF5.out.size
              omega
        case measure => simp [intOf]; omega
    · have he : j = M := by omega
      subst he
      have hm0 : mn (T : Int) (j : Int) = 0 := by rw [HMN.out]; have := HM8.out; omega
      have MC := hid (fun (W : World) => refMany_calls W T j)
      rw [hm0] at MC
      clear hm0
      go_wp2_with (first | (go_at_call 27; refine (MC.out _).mono ?_; rintro e w' ⟨rfl, rfl⟩))
      go_ret
      exact ⟨_, rfl, by rw [HMM.out]; have h9 := Ev.own (l := (ms j L).map (Value.int .i64)) (by rw [List.length_map]; exact HOWN.out); exact h9, HF.out⟩

theorem rmissing_calls (w : World) (N g : Nat) (v : Value) (L : List Ck) (h : Rc w N g v L) (hg : Gd25 L) (hl : L.length ≤ 2000) :
    Calls Try.prog 21 #[.pointer (some ⟨g, 0, none⟩)] w fun e w' => ∃ u, e = .returned u ∧ Nv w' u (msL L) ∧ Fr w w' (fun _ => False) := by
  by_cases hne : L = []
  · subst hne
    refine (rmissing_none w N g v h).mono ?_
    rintro e w' ⟨rfl, hf⟩
    exact ⟨_, rfl, Ev.nil w', hf⟩
  · obtain ⟨f, h0⟩ : ∃ f, L[0]? = some f := ⟨_, List.getElem?_eq_getElem (List.length_pos_iff.2 hne)⟩
    have hb := hdT_in hg hne
    unfold msL chs
    exact rmissing_some w N g v f L h h0 hl (hdT L) (hdT_of hg (List.mem_of_getElem? h0)) hb.1 hb.2
end Go.Proofs.Ythnigmbdacjlnaa.Cw
