/- The reference's word on which inodes are right. Own work. -/
import Derived.Test.YtmbfcnacoijmaaaIoA
namespace Go.Proofs.Ytmbfcnacoijmaaa.Cw
open Go.RowKit
set_option linter.unusedVariables false
set_option linter.unusedSimpArgs false
attribute [local go_sem ↓ high] eqNd

/-- An inode's block. -/
def Nd.O (x : Nd) : Obj := .cells #[.int .i64 x.k, .int .i64 x.l, .int .i64 x.s, .int .i64 x.d0, .int .i64 x.d1, .int .i64 x.d2, .int .i64 x.d3, .int .i64 x.d4, .int .i64 x.d5, .int .i64 x.a, .int .i64 x.b] 24

set_option maxRecDepth 100000 in
set_option maxHeartbeats 3200000 in
theorem ref_zero (w : World) (x : Nd) (h0 : x.k = 0) : Calls Try.prog 15 #[x.V] w fun e w' => e = .returned (.bool x.Rb) ∧ Fr w w' (fun _ => False) := by
  have hE : eq11 x.k x.l x.s x.d0 x.d1 x.d2 x.d3 x.d4 x.d5 x.a x.b 0 0 0 0 0 0 0 0 0 0 0 = x.Rb := by
    unfold eq11 Nd.Rb
    refine decide_eq_decide.2 ⟨fun h => .inl h, fun h => ?_⟩
    rcases h with h | h
    · exact h
    · omega
  have HE := hid hE
  clear hE
  unfold Nd.V
  generalize x.k = kk at *
  subst h0
  go_enter Try.func15, Try.ntmps15
  go_wp2_with fail
  go_ret
  exact ⟨ret_bool HE.out, (Fr.refl w _).alloc _⟩

theorem Nd.d_cell (x : Nd) (i : Nat) (hi : i < 6) : (#[.int .i64 x.k, .int .i64 x.l, .int .i64 x.s, .int .i64 x.d0, .int .i64 x.d1, .int .i64 x.d2, .int .i64 x.d3, .int .i64 x.d4, .int .i64 x.d5, .int .i64 x.a, .int .i64 x.b] : Array Value)[3 + i]? = some (.int .i64 (x.d i)) := by
  rcases (show i = 0 ∨ i = 1 ∨ i = 2 ∨ i = 3 ∨ i = 4 ∨ i = 5 by omega) with rfl | rfl | rfl | rfl | rfl | rfl <;> rfl

set_option maxRecDepth 100000 in
set_option maxHeartbeats 3200000 in
theorem ref_other (w : World) (x : Nd) (h0 : ¬ x.k = 0) : Calls Try.prog 15 #[x.V] w fun e w' => e = .returned (.bool x.Rb) ∧ Fr w w' (fun _ => False) := by
  have hz : (x.k == 0) = false := beq_eq_false_iff_ne.2 h0
  have H0 := hid h0
  have hF : Fr w (w.alloc x.O) (fun _ => False) := (Fr.refl w _).alloc _
  clear h0
  unfold Nd.V
  go_enter Try.func15, Try.ntmps15
  go_upto_region 3 with fail
  go_cut [47] (fun c wx => c = .bool (decide x.Bad) ∧ wx = w.alloc x.O)
  case first =>
    by_cases h1 : x.k = 1
    · have b1 : (x.k != 1) = false := by rw [h1]; rfl
      have b2 : (x.k == 2) = false := by rw [h1]; rfl
      have H1 := hid h1
      clear h1
      go_wp2_with fail
      all_goals go_meet
      all_goals
        have h1 := H1.out
        refine ⟨val_b ?_, rfl⟩
        first
        | exact (decide_eq_true (show x.Bad by unfold Nd.Bad; omega)).symm
        | (rw [Bool.eq_iff_iff, decide_eq_true_iff]
           simp only [Bool.or_eq_true, decide_eq_true_eq]
           unfold Nd.Bad
           omega)
    · by_cases h2 : x.k = 2
      · have b1 : (x.k != 1) = true := by rw [h2]; rfl
        have b2 : (x.k != 2) = false := by rw [h2]; rfl
        have b3 : (x.k == 2) = true := by rw [h2]; rfl
        have H1 := hid h2
        clear h1 h2
        by_cases h3 : x.l = 1
        · have c1 : (x.l != 1) = false := by rw [h3]; rfl
          have H3 := hid h3
          clear h3
          go_wp2_with fail
          all_goals go_meet
          all_goals
            have h1 := H1.out
            have h3 := H3.out
            refine ⟨val_b ?_, rfl⟩
            first
            | exact (decide_eq_true (show x.Bad by unfold Nd.Bad; omega)).symm
            | (rw [Bool.eq_iff_iff, decide_eq_true_iff]
               simp only [Bool.or_eq_true, decide_eq_true_eq]
               unfold Nd.Bad
               omega)
        · have c1 : (x.l != 1) = true := bne_iff_ne.2 h3
          have H3 := hid h3
          clear h3
          go_wp2_with fail
          all_goals go_meet
          all_goals
            have h1 := H1.out
            have h3 := H3.out
            exact ⟨val_b (decide_eq_true (show x.Bad by unfold Nd.Bad; omega)).symm, rfl⟩
      · have b1 : (x.k != 1) = true := bne_iff_ne.2 h1
        have b2 : (x.k != 2) = true := bne_iff_ne.2 h2
        have H1 := hid h1
        have H2 := hid h2
        clear h1 h2
        go_wp2_with fail
        all_goals go_meet
        all_goals
          have h1 := H1.out
          have h2 := H2.out
          exact ⟨val_b (decide_eq_true (show x.Bad by unfold Nd.Bad; omega)).symm, rfl⟩
  case rest =>
    obtain ⟨rfl, rfl⟩ := hcut
    by_cases hb : x.Bad
    · have hbd : decide x.Bad = true := decide_eq_true hb
      have HB := hid hb
      clear hb
      go_wp2_with fail
      go_ret
      exact ⟨ret_bool (Nd.Rb_no (R_not x H0.out (.inl HB.out))).symm, hF⟩
    · have hbd : decide x.Bad = false := decide_eq_false hb
      have HB := hid hb
      clear hb
      have hcell : ∀ i : Nat, i < 6 → (w.alloc x.O).cell? ⟨w.heap.size, 3 + i, none⟩ = some (.int .i64 (x.d i)) := fun i hi => (cell_blk (alloc_new w x.O) _).trans (x.d_cell i hi)
      have HX := hid hcell
      clear hcell
      go_wp2_with fail
      go_loop [3] (fun t => ∃ i : Nat, i ≤ 6 ∧ t = .int .i64 i ∧ x.allB i) (fun t => 6 - (intOf t).toNat)
      case atStart => exact ⟨0, by omega, rfl, fun j hj => by omega⟩
      case round =>
        obtain ⟨i, hi, rfl, hall⟩ := hrel
        have HA := hid hall
        clear hall
        by_cases hlt : i < 6
        · have ix := HX.out i hlt
          by_cases hbk : Bk (x.d i)
          · obtain ⟨hd1, hd2⟩ := hbk
            generalize hdi : x.d i = di at *
            have HD := hid hdi
            clear hdi
            go_wp2_with fail
            go_round
            case rel => exact ⟨i + 1, by omega, by go_num, fun j hj => if e : j = i then by subst e; rw [HD.out]; exact ⟨hd1, hd2⟩ else HA.out j (by omega)⟩
            case measure => simp [intOf]; omega
          · have HK := hid hbk
            have hd : x.d i < 0 ∨ (0 ≤ x.d i ∧ 1024 ≤ x.d i) := by unfold Bk at hbk; omega
            clear hbk
            generalize hdi : x.d i = di at *
            have HD := hid hdi
            clear hdi
            rcases hd with hd | ⟨hd, hd2⟩
            all_goals
              go_wp2_with fail
              go_ret
              exact ⟨ret_bool (Nd.Rb_no (R_not x H0.out (.inr (.inl ⟨i, by omega, by rw [HD.out]; exact HK.out⟩)))).symm, hF⟩
        · obtain rfl : i = 6 := by omega
          clear hlt hi
          have ca : (w.alloc x.O).cell? ⟨w.heap.size, 9, none⟩ = some (.int .i64 x.a) := (cell_blk (alloc_new w x.O) _).trans rfl
          have cb : (w.alloc x.O).cell? ⟨w.heap.size, 10, none⟩ = some (.int .i64 x.b) := (cell_blk (alloc_new w x.O) _).trans rfl
          have hF2 := hF
          generalize ha : x.a = xa at *
          generalize hb : x.b = xb at *
          have HAA := hid ha
          have HBB := hid hb
          clear ha hb
          generalize hW : w.alloc x.O = W at *
          clear hW
          go_wp2_with fail
          all_goals go_ret
          all_goals refine ⟨ret_bool ?_, hF2⟩
          all_goals first
            | exact (Nd.Rb_no (R_not x H0.out (.inr (.inr (.inl (by rw [HAA.out]; unfold Bk; omega)))))).symm
            | exact (Nd.Rb_no (R_not x H0.out (.inr (.inr (.inr (by rw [HBB.out]; unfold Bk; omega)))))).symm
            | (by_cases hq : xb < 1024
               · rw [decide_eq_true hq]
                 exact (Nd.Rb_yes (R_of x H0.out HB.out HA.out (by rw [HAA.out]; unfold Bk; omega) (by rw [HBB.out]; unfold Bk; omega))).symm
               · rw [decide_eq_false hq]
                 exact (Nd.Rb_no (R_not x H0.out (.inr (.inr (.inr (by rw [HBB.out]; unfold Bk; omega)))))).symm)

theorem refRight12_calls (w : World) (x : Nd) : Calls Try.prog 15 #[x.V] w fun e w' => e = .returned (.bool x.Rb) ∧ Fr w w' (fun _ => False) := by
  by_cases h0 : x.k = 0
  · exact ref_zero w x h0
  · exact ref_other w x h0
end Go.Proofs.Ytmbfcnacoijmaaa.Cw
