/- A collector's Missing. Own work. -/
import Derived.Test.YthnigmbdacjlnaaCkN
namespace Go.Proofs.Ythnigmbdacjlnaa.Cw
open Go.RowKit
set_option linter.unusedVariables false
set_option linter.unusedSimpArgs false

/-- The numbers below M that are not there. -/
def ms (M : Nat) (L : List Ck) : List Int := ((List.range M).filter (fun i => (hs L (i : Nat)).isNone)).map (fun i => ((i : Nat) : Int))
theorem ms_no {M : Nat} {L : List Ck} {s : ByteArray} (h : hs L (M : Nat) = some s) : ms (M + 1) L = ms M L := by
  unfold ms
  rw [List.range_succ, List.filter_append, List.filter_cons_of_neg (by rw [h]; exact Bool.false_ne_true), List.filter_nil, List.append_nil]
theorem ms_yes {M : Nat} {L : List Ck} (h : hs L (M : Nat) = none) : ms (M + 1) L = ms M L ++ [(M : Int)] := by
  unfold ms
  rw [List.range_succ, List.filter_append, List.filter_cons_of_pos (by rw [h]; rfl), List.filter_nil, List.map_append]
  rfl

theorem ms_len (M : Nat) (L : List Ck) : (ms M L).length ≤ M := by
  unfold ms
  rw [List.length_map]
  exact Nat.le_trans (List.length_filter_le _ _) (by rw [List.length_range]; exact Nat.le_refl _)
theorem info_int : (Try.prog.info? 3).map (fun i => (i.zero, i.size, i.bytes)) = some (some (.int .i64 0), 1, 8) := by kernel_rfl
theorem info_str : (Try.prog.info? 9).map (fun i => (i.zero, i.size, i.bytes)) = some (some (.string ByteArray.empty), 1, 16) := by kernel_rfl

theorem missing_none (w : World) (g b : Nat) (f : Ck) (h : Col w g b f []) :
    Calls Try.prog 20 #[.pointer (some ⟨g, 0, none⟩)] w fun e w' => e = .returned (.slice none 0 0) ∧ Fr w w' (fun _ => False) := by
  have y5 := cell_blk h.blk 5
  simp only [List.getElem?_toArray, List.getElem?_cons_zero, List.getElem?_cons_succ] at y5
  have hlen := h.mp.len 3
  have hb := (Array.getElem?_eq_some_iff.1 h.blk).1
  clear h
  go_enter Try.func20, Try.ntmps20
  go_wp2_with fail
  go_ret
  exact ⟨rfl, Fr.refl w _⟩

set_option maxRecDepth 100000 in
set_option maxHeartbeats 3200000 in
theorem missing_some (w : World) (g b : Nat) (d n c : Int) (s : ByteArray) (T : Nat) (L : List Ck) (h : Col w g b ⟨d, T, n, s, c⟩ L) (hne : L ≠ []) (h1 : 1 ≤ T) (h2 : T ≤ 1024) :
    Calls Try.prog 20 #[.pointer (some ⟨g, 0, none⟩)] w fun e w' => ∃ u, e = .returned u ∧ Nv w' u (ms ((T + 7) / 8) L) ∧ Fr w w' (fun _ => False) ∧ ∀ b, u.ownBlock = some b → w.heap.size ≤ b := by
  have y5 := cell_blk h.blk 5
  have y1 := cell_blk h.blk 1
  simp only [List.getElem?_toArray, List.getElem?_cons_zero, List.getElem?_cons_succ] at y5 y1
  have hlen := h.mp.len 3
  obtain ⟨ln, hln⟩ : ∃ ln, L.length = ln := ⟨_, rfl⟩
  have hne0 : ¬ ln = 0 := fun e => hne (List.eq_nil_of_length_eq_zero (by omega))
  rw [hln] at hlen
  have d1 : (ln == 0) = false := beq_eq_false_iff_ne.2 hne0
  have d2 : ((ln : Int) == 0) = false := by rw [beq_eq_false_iff_ne]; omega
  have HMP := hid h.mp
  have hY := hid y1
  have hY5 := hid y5
  clear h hln hne
  go_enter Try.func20, Try.ntmps20
  go_wp2_with (go_at_call 25; refine (many_calls _ _ (by omega) (by omega)).mono ?_; rintro e w' ⟨rfl, rfl⟩)
  have hM : ((T : Int) + 7) / 8 = (((T + 7) / 8 : Nat) : Int) := by omega
  have hMb : (T + 7) / 8 ≤ 128 := by omega
  generalize hMM : (T + 7) / 8 = M at *
  have HMM : Hid ((T + 7) / 8 = M) := hid hMM
  clear hMM
  rw [hM]
  clear hM
  go_loopw [3, 23] (fun vo t wr => ∃ j : Nat, j ≤ M ∧ t = .int .i64 j ∧ Fr w' wr (fun _ => False) ∧ wr.ownsRow 0 3 1 vo (ms j L).length ((ms j L).map (Value.int .i64)) ∧ ∀ b, vo.ownBlock = some b → w'.heap.size ≤ b) (fun _ t _ => M - (intOf t).toNat)
  case atStart => exact ⟨0, by omega, rfl, Fr.refl _ _, World.ownsRow_nil _ _ _ _, fun b hb => by cases hb⟩
  case round =>
    obtain ⟨j, hj, rfl, hf, hown, hO⟩ := hrel
    have HF := hid hf
    have HOWN := hid hown
    have HO := hid hO
    have hlk := ((Mp.fr HMP.out hf (fun x => x)).lookup j).1
    have y5 := cell_keep hY5.out hf
    clear hf hown hO
    by_cases hjm : j < M
    · cases hn : hs L (j : Int) with
      | some sv =>
        rw [hn] at hlk
        have hlk : (Instr.lookup 66 (.map (some b)) (.int .i64 j) true).run Try.prog wr = .ok (.tuple #[.string sv, .bool true]) wr := hlk
        have HE := hid (ms_no hn)
        clear hn
        go_wp2_with fail
        go_roundw
        case rel => exact ⟨j + 1, by omega, by go_num, HF.out, by rw [HE.out]; exact HOWN.out, HO.out⟩
        case measure => simp [intOf]; omega
      | none =>
        rw [hn] at hlk
        have hlk : (Instr.lookup 66 (.map (some b)) (.int .i64 j) true).run Try.prog wr = .ok (.tuple #[.string ⟨#[]⟩, .bool false]) wr := hlk
        have HE := hid (ms_yes hn)
        clear hn
        obtain ⟨mj, hmj⟩ : ∃ mj, (ms j L).length = mj := ⟨_, rfl⟩
        have hmj2 := ms_len j L
        rw [hmj] at HOWN hmj2
        have HMJ := hid hmj
        clear hmj
        obtain ⟨i0, hi, hz0, hz1, hz2⟩ := info_parts info_int
        go_wp2_with (at_builtin; refine wpList_append_lies _ rfl _ _ _ rfl 0 3 i0 _ 1 8 Try.underlying52 hi hz0 hz1 hz2 rfl (by decide) _ _ _ (by rfl) (HOWN.out.alloc _) ⟨wr.heap.size, 0, none⟩ 1 1 [.int .i64 j] (by rfl) (by rfl) (World.news_of_block (cs := #[.int .i64 j]) (t := 3) (fr := (0, 0)) (alloc_new wr _)) (by intro u hu; simp at hu; subst hu; rfl) (by omega) (by unfold maxLen; omega) (by omega) (Nat.zero_le _) (wr.heap.size + 1) (by simp) ?_; intro gg cap4 w4 hown4 hgrow hat hlt4)
        have HOW4 := hid hown4
        have HF4 := hid (Fr.grown (HF.out.alloc _) hgrow (fun k hk hs => by have := HO.out k hk; omega))
        have HAT := hid hat
        clear hown4 hgrow hat hlt4
        go_wp2_with fail
        go_roundw
        case rel =>
          refine ⟨j + 1, by omega, by go_num, HF4.out, ?_, ?_⟩
          · rw [HE.out, List.length_append, List.map_append, HMJ.out]
            exact HOW4.out
          · intro b9 hb9
            have hb9 : gg = b9 := Option.some.inj hb9
            subst hb9
            rcases HAT.out with h8 | h8
            · exact HO.out _ h8
            · have := HF.out.size
              omega
        case measure => simp [intOf]; omega
    · have he : j = M := by omega
      subst he
      go_wp2_with fail
      go_ret
      exact ⟨_, rfl, by rw [HMM.out]; have h9 := Ev.own (l := (ms j L).map (Value.int .i64)) (by rw [List.length_map]; exact HOWN.out); exact h9, HF.out, HO.out⟩
end Go.Proofs.Ythnigmbdacjlnaa.Cw
