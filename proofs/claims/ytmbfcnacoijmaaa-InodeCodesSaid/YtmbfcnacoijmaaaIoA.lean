/- Inodes as values, and which are right. Own work. -/
import Derived.Test.YtmbfcnacoijmaaaCwI
import Derived.Test.YtmbfcnacoijmaaaCrC
import Derived.Deep.RegionHeld3
import Derived.Deep.DeepCutAuto
import Derived.Deep.CutRange
namespace Go.Proofs.Ytmbfcnacoijmaaa.Cw
open Go.RowKit
set_option linter.unusedVariables false
set_option linter.unusedSimpArgs false

/-- An inode. -/
structure Nd where
  k : Int
  l : Int
  s : Int
  d0 : Int
  d1 : Int
  d2 : Int
  d3 : Int
  d4 : Int
  d5 : Int
  a : Int
  b : Int
def Nd.V (x : Nd) : Value := .agg #[.int .i64 x.k, .int .i64 x.l, .int .i64 x.s, .int .i64 x.d0, .int .i64 x.d1, .int .i64 x.d2, .int .i64 x.d3, .int .i64 x.d4, .int .i64 x.d5, .int .i64 x.a, .int .i64 x.b]
def Bk (n : Int) : Prop := 0 ≤ n ∧ n < 1024
instance (n : Int) : Decidable (Bk n) := by unfold Bk; infer_instance
/-- Is an inode right? -/
def Nd.R (x : Nd) : Prop := (x.k = 0 ∧ x.l = 0 ∧ x.s = 0 ∧ x.d0 = 0 ∧ x.d1 = 0 ∧ x.d2 = 0 ∧ x.d3 = 0 ∧ x.d4 = 0 ∧ x.d5 = 0 ∧ x.a = 0 ∧ x.b = 0) ∨ ((x.k = 1 ∧ 1 ≤ x.l ∧ x.l ≤ 100 ∨ x.k = 2 ∧ x.l = 1) ∧ 0 ≤ x.s ∧ x.s ≤ 533248 ∧ Bk x.d0 ∧ Bk x.d1 ∧ Bk x.d2 ∧ Bk x.d3 ∧ Bk x.d4 ∧ Bk x.d5 ∧ Bk x.a ∧ Bk x.b)
instance (x : Nd) : Decidable x.R := by unfold Nd.R; infer_instance

theorem block_yes (w : World) (n : Int) (h : Bk n) : Calls Try.prog 37 #[.int .i64 n] w fun e w' => e = .returned (.bool true) ∧ w = w' := by
  obtain ⟨h1, h2⟩ := h
  go_enter Try.func37, Try.ntmps37
  go_wp2
  go_ret
  exact ⟨rfl, rfl⟩
theorem block_no (w : World) (n : Int) (h : ¬ Bk n) : Calls Try.prog 37 #[.int .i64 n] w fun e w' => e = .returned (.bool false) ∧ w = w' := by
  have h2 : n < 0 ∨ (0 ≤ n ∧ 1024 ≤ n) := by unfold Bk at h; omega
  clear h
  rcases h2 with h | ⟨h, h2⟩
  · go_enter Try.func37, Try.ntmps37
    go_wp2
    go_ret
    exact ⟨rfl, rfl⟩
  · have h3 : decide (n < 1024) = false := decide_eq_false (by omega)
    go_enter Try.func37, Try.ntmps37
    go_wp2
    go_ret
    exact ⟨rfl, rfl⟩
theorem block_calls (w : World) (n : Int) : Calls Try.prog 37 #[.int .i64 n] w fun e w' => e = .returned (.bool (decide (Bk n))) ∧ w = w' := by
  by_cases h : Bk n
  · rw [decide_eq_true h]; exact block_yes w n h
  · rw [decide_eq_false h]; exact block_no w n h


/-- Are two inodes the same? -/
def eq11 (a0 a1 a2 a3 a4 a5 a6 a7 a8 a9 a10 b0 b1 b2 b3 b4 b5 b6 b7 b8 b9 b10 : Int) : Bool := decide (a0 = b0 ∧ a1 = b1 ∧ a2 = b2 ∧ a3 = b3 ∧ a4 = b4 ∧ a5 = b5 ∧ a6 = b6 ∧ a7 = b7 ∧ a8 = b8 ∧ a9 = b9 ∧ a10 = b10)
theorem eq11_yes (a0 a1 a2 a3 a4 a5 a6 a7 a8 a9 a10 : Int) : eq11 a0 a1 a2 a3 a4 a5 a6 a7 a8 a9 a10 a0 a1 a2 a3 a4 a5 a6 a7 a8 a9 a10 = true := decide_eq_true ⟨rfl, rfl, rfl, rfl, rfl, rfl, rfl, rfl, rfl, rfl, rfl⟩
theorem eq11_iff {a0 a1 a2 a3 a4 a5 a6 a7 a8 a9 a10 b0 b1 b2 b3 b4 b5 b6 b7 b8 b9 b10 : Int} : eq11 a0 a1 a2 a3 a4 a5 a6 a7 a8 a9 a10 b0 b1 b2 b3 b4 b5 b6 b7 b8 b9 b10 = true ↔ (a0 = b0 ∧ a1 = b1 ∧ a2 = b2 ∧ a3 = b3 ∧ a4 = b4 ∧ a5 = b5 ∧ a6 = b6 ∧ a7 = b7 ∧ a8 = b8 ∧ a9 = b9 ∧ a10 = b10) := by unfold eq11; exact decide_eq_true_iff

theorem eqArr (d : Nat) (a3 a4 a5 a6 a7 a8 b3 b4 b5 b6 b7 b8 : Int) (w : World) : (Op.equalIn (d + 2) 22 (.agg #[.int .i64 a3, .int .i64 a4, .int .i64 a5, .int .i64 a6, .int .i64 a7, .int .i64 a8]) (.agg #[.int .i64 b3, .int .i64 b4, .int .i64 b5, .int .i64 b6, .int .i64 b7, .int .i64 b8])).run Try.prog w = .ok (a3 == b3 && (a4 == b4 && (a5 == b5 && (a6 == b6 && (a7 == b7 && a8 == b8))))) w := by
  have u3 := Try.underlying3
  have z3 := Try.sizeOf3
  have a33 := Try.isAgg3
  rw [show d + 2 = (d + 1) + 1 from rfl, Op.equalIn]
  simp only [Sem.run_bind, run_underlying Try.underlying22, Result.andThen_ok]
  simp only [Std.Legacy.Range.forIn_eq_forIn_range', Std.Legacy.Range.size, Nat.sub_zero, Nat.add_sub_cancel, Nat.div_one, List.range'_succ, List.range'_zero, List.forIn_cons, List.forIn_nil]
  go_simp
  by_cases h1 : a3 = b3 <;> simp [h1]
  by_cases h2 : a4 = b4 <;> simp [h2]
  by_cases h3 : a5 = b5 <;> simp [h3]
  by_cases h4 : a6 = b6 <;> simp [h4]
  by_cases h5 : a7 = b7 <;> simp [h5]
  by_cases h6 : a8 = b8 <;> simp [h6]
set_option maxRecDepth 100000 in
set_option maxHeartbeats 1600000 in
theorem eqNd (a0 a1 a2 a3 a4 a5 a6 a7 a8 a9 a10 b0 b1 b2 b3 b4 b5 b6 b7 b8 b9 b10 : Int) (w : World) : (Op.equalIn 10000 24 (.agg #[.int .i64 a0, .int .i64 a1, .int .i64 a2, .int .i64 a3, .int .i64 a4, .int .i64 a5, .int .i64 a6, .int .i64 a7, .int .i64 a8, .int .i64 a9, .int .i64 a10]) (.agg #[.int .i64 b0, .int .i64 b1, .int .i64 b2, .int .i64 b3, .int .i64 b4, .int .i64 b5, .int .i64 b6, .int .i64 b7, .int .i64 b8, .int .i64 b9, .int .i64 b10])).run Try.prog w = .ok (eq11 a0 a1 a2 a3 a4 a5 a6 a7 a8 a9 a10 b0 b1 b2 b3 b4 b5 b6 b7 b8 b9 b10) w := by
  have u3 := Try.underlying3
  have z3 := Try.sizeOf3
  have a33 := Try.isAgg3
  have hS : Try.prog.underlying 24 = some (.struct (Try.prog.fieldsOf 24)) := by kernel_rfl
  have hp : Try.prog.stoodInHeld 24 = false := by kernel_rfl
  have hA := fun w => eqArr 9997 a3 a4 a5 a6 a7 a8 b3 b4 b5 b6 b7 b8 w
  rw [show (10000 : Nat) = 9999 + 1 from rfl, run_equalIn_agg w 9999 24 _ _ hS hp]
  simp only [Program.fieldsOf, Try.underlying24]
  go_simp
  by_cases h : a0 = b0 ∧ a1 = b1 ∧ a2 = b2 ∧ a3 = b3 ∧ a4 = b4 ∧ a5 = b5 ∧ a6 = b6 ∧ a7 = b7 ∧ a8 = b8 ∧ a9 = b9 ∧ a10 = b10
  · obtain ⟨rfl, rfl, rfl, rfl, rfl, rfl, rfl, rfl, rfl, rfl, rfl⟩ := h
    simp [eq11_yes]
  · rw [show eq11 a0 a1 a2 a3 a4 a5 a6 a7 a8 a9 a10 b0 b1 b2 b3 b4 b5 b6 b7 b8 b9 b10 = false from decide_eq_false h]
    repeat' split
    all_goals first
      | rfl
      | (exfalso; omega)
attribute [local go_sem ↓ high] eqNd

/-- One of six. -/
def Nd.d (x : Nd) : Nat → Int
  | 0 => x.d0
  | 1 => x.d1
  | 2 => x.d2
  | 3 => x.d3
  | 4 => x.d4
  | _ => x.d5
def Nd.base (x : Nd) : Prop := 0 ≤ x.s ∧ x.s ≤ 533248 ∧ Bk x.a ∧ Bk x.b
instance (x : Nd) : Decidable x.base := by unfold Nd.base; infer_instance
/-- The first so many are blocks' numbers. -/
def Nd.up (x : Nd) : Nat → Bool
  | 0 => decide x.base
  | i + 1 => x.up i && decide (Bk (x.d i))

/-- What is wrong with an inode. -/
def Nd.E (x : Nd) : Int := if x.R then 0 else 120
theorem Nd.E_yes {x : Nd} (h : x.R) : x.E = 0 := if_pos h
theorem Nd.E_no {x : Nd} (h : ¬ x.R) : x.E = 120 := if_neg h
theorem up6 (x : Nd) : x.up 6 = decide (x.base ∧ Bk x.d0 ∧ Bk x.d1 ∧ Bk x.d2 ∧ Bk x.d3 ∧ Bk x.d4 ∧ Bk x.d5) := by
  simp only [Nd.up, Nd.d, Bool.decide_and, Bool.and_assoc]
theorem chk_cases (x : Nd) : (x.k = 0 ∧ eq11 x.k x.l x.s x.d0 x.d1 x.d2 x.d3 x.d4 x.d5 x.a x.b 0 0 0 0 0 0 0 0 0 0 0 = true ∧ x.E = 0) ∨ (x.k = 0 ∧ eq11 x.k x.l x.s x.d0 x.d1 x.d2 x.d3 x.d4 x.d5 x.a x.b 0 0 0 0 0 0 0 0 0 0 0 = false ∧ x.E = 120) ∨
    (x.k = 1 ∧ x.up 6 = true ∧ (1 ≤ x.l ∧ decide (x.l ≤ 100) = true) ∧ x.E = 0) ∨ (x.k = 1 ∧ x.up 6 = true ∧ x.l < 1 ∧ x.E = 120) ∨ (x.k = 1 ∧ x.up 6 = true ∧ (1 ≤ x.l ∧ decide (x.l ≤ 100) = false) ∧ x.E = 120) ∨ (x.k = 1 ∧ x.up 6 = false ∧ x.E = 120) ∨
    (x.k = 2 ∧ x.up 6 = true ∧ (x.l == 1) = true ∧ x.E = 0) ∨ (x.k = 2 ∧ x.up 6 = true ∧ (x.l == 1) = false ∧ x.E = 120) ∨ (x.k = 2 ∧ x.up 6 = false ∧ x.E = 120) ∨
    ((x.k == 0) = false ∧ (x.k == 1) = false ∧ (x.k == 2) = false ∧ x.E = 120) := by
  rw [up6 x]
  by_cases hk0 : x.k = 0
  · by_cases hz : eq11 x.k x.l x.s x.d0 x.d1 x.d2 x.d3 x.d4 x.d5 x.a x.b 0 0 0 0 0 0 0 0 0 0 0 = true
    · exact .inl ⟨hk0, hz, Nd.E_yes (.inl (eq11_iff.1 hz))⟩
    · refine .inr (.inl ⟨hk0, by simpa using hz, Nd.E_no ?_⟩)
      intro hR
      unfold Nd.R at hR
      rcases hR with hR | hR
      · exact hz (eq11_iff.2 hR)
      · omega
  · by_cases hu : x.base ∧ Bk x.d0 ∧ Bk x.d1 ∧ Bk x.d2 ∧ Bk x.d3 ∧ Bk x.d4 ∧ Bk x.d5
    · rw [decide_eq_true hu]
      unfold Nd.base Bk at hu
      by_cases hk1 : x.k = 1
      · by_cases h1 : 1 ≤ x.l
        · by_cases h2 : x.l ≤ 100
          · exact .inr (.inr (.inl ⟨hk1, rfl, ⟨h1, decide_eq_true h2⟩, Nd.E_yes (by unfold Nd.R Bk; omega)⟩))
          · exact .inr (.inr (.inr (.inr (.inl ⟨hk1, rfl, ⟨h1, decide_eq_false h2⟩, Nd.E_no (by unfold Nd.R Bk; omega)⟩))))
        · exact .inr (.inr (.inr (.inl ⟨hk1, rfl, by omega, Nd.E_no (by unfold Nd.R Bk; omega)⟩)))
      · by_cases hk2 : x.k = 2
        · by_cases h1 : x.l = 1
          · exact .inr (.inr (.inr (.inr (.inr (.inr (.inl ⟨hk2, rfl, beq_iff_eq.2 h1, Nd.E_yes (by unfold Nd.R Bk; omega)⟩))))))
          · exact .inr (.inr (.inr (.inr (.inr (.inr (.inr (.inl ⟨hk2, rfl, beq_eq_false_iff_ne.2 h1, Nd.E_no (by unfold Nd.R Bk; omega)⟩)))))))
        · exact .inr (.inr (.inr (.inr (.inr (.inr (.inr (.inr (.inr ⟨beq_eq_false_iff_ne.2 hk0, beq_eq_false_iff_ne.2 hk1, beq_eq_false_iff_ne.2 hk2, Nd.E_no (by unfold Nd.R Bk; omega)⟩))))))))
    · rw [decide_eq_false hu]
      unfold Nd.base Bk at hu
      by_cases hk1 : x.k = 1
      · exact .inr (.inr (.inr (.inr (.inr (.inl ⟨hk1, rfl, Nd.E_no (by unfold Nd.R Bk; omega)⟩)))))
      · by_cases hk2 : x.k = 2
        · exact .inr (.inr (.inr (.inr (.inr (.inr (.inr (.inr (.inl ⟨hk2, rfl, Nd.E_no (by unfold Nd.R Bk; omega)⟩))))))))
        · exact .inr (.inr (.inr (.inr (.inr (.inr (.inr (.inr (.inr ⟨beq_eq_false_iff_ne.2 hk0, beq_eq_false_iff_ne.2 hk1, beq_eq_false_iff_ne.2 hk2, Nd.E_no (by unfold Nd.R Bk; omega)⟩))))))))

theorem ret_bool {x y : Bool} (h : x = y) : Ending.returned (.bool x) = .returned (.bool y) := by rw [h]
theorem val_b {x y : Bool} (h : x = y) : Value.bool x = Value.bool y := by rw [h]

set_option maxRecDepth 100000 in
set_option maxHeartbeats 3200000 in
theorem check_calls (w : World) (x : Nd) : Calls Try.prog 14 #[x.V] w fun e w' => e = .returned (.int .i64 x.E) ∧ Fr w w' (fun _ => False) := by
  have HB := hid (fun W n => block_calls W n)
  unfold Nd.V
  go_enter Try.func14, Try.ntmps14
  go_upto_region 1 with fail
  go_cut [3] (fun ok wx => ok = .bool (x.up 0) ∧ wx = w.alloc (.cells #[.int .i64 x.k, .int .i64 x.l, .int .i64 x.s, .int .i64 x.d0, .int .i64 x.d1, .int .i64 x.d2, .int .i64 x.d3, .int .i64 x.d4, .int .i64 x.d5, .int .i64 x.a, .int .i64 x.b] 24))
  case first =>
    go_wp2_with (go_at_call 37; refine (HB.out _ _).mono ?_; rintro e w' ⟨rfl, rfl⟩)
    all_goals go_meet
    all_goals
      refine ⟨val_b ?_, rfl⟩
      show _ = decide x.base
      unfold Nd.base
      first
      | exact (decide_eq_false (by unfold Bk at *; omega)).symm
      | exact decide_eq_decide.2 (by unfold Bk at *; omega)
  case rest =>
    obtain ⟨rfl, rfl⟩ := hcut
    have hix : ∀ i : Nat, i < 6 → ∀ w, (Instr.index 22 (.agg #[.int .i64 x.d0, .int .i64 x.d1, .int .i64 x.d2, .int .i64 x.d3, .int .i64 x.d4, .int .i64 x.d5]) (.int .i64 i)).run Try.prog w = .ok (.int .i64 (x.d i)) w := by
      intro i hi w
      rcases (show i = 0 ∨ i = 1 ∨ i = 2 ∨ i = 3 ∨ i = 4 ∨ i = 5 by omega) with rfl | rfl | rfl | rfl | rfl | rfl <;> kernel_rfl
    have HX := hid hix
    clear hix
    go_wp2_with fail
    go_loop [3, 26] (fun ok t => ∃ i : Nat, i ≤ 6 ∧ t = .int .i64 i ∧ ok = .bool (x.up i)) (fun _ t => 6 - (intOf t).toNat)
    case atStart => exact ⟨0, by omega, rfl, rfl⟩
    case round =>
      obtain ⟨i, hi, rfl, rfl⟩ := hrel
      by_cases hlt : i < 6
      · have ix := HX.out i hlt
        have hu : Hid (x.up (i + 1) = (x.up i && decide (Bk (x.d i)))) := hid rfl
        generalize x.d i = di at *
        generalize x.up i = ui at *
        cases ui
        · go_wp2_with (go_at_call 37; refine (HB.out _ _).mono ?_; rintro e w' ⟨rfl, rfl⟩)
          go_round
          case rel => exact ⟨i + 1, by omega, by go_num, by rw [hu.out]; rfl⟩
          case measure => simp [intOf]; omega
        · go_wp2_with (go_at_call 37; refine (HB.out _ _).mono ?_; rintro e w' ⟨rfl, rfl⟩)
          go_round
          case rel => exact ⟨i + 1, by omega, by go_num, by rw [hu.out]; rfl⟩
          case measure => simp [intOf]; omega
      · obtain rfl : i = 6 := by omega
        clear hlt hi
        have HC := chk_cases x
        have hF : Fr w (w.alloc (.cells #[.int .i64 x.k, .int .i64 x.l, .int .i64 x.s, .int .i64 x.d0, .int .i64 x.d1, .int .i64 x.d2, .int .i64 x.d3, .int .i64 x.d4, .int .i64 x.d5, .int .i64 x.a, .int .i64 x.b] 24)) (fun _ => False) := (Fr.refl w _).alloc _
        generalize x.up 6 = u6 at *
        generalize hkk : x.k = kk at *
        generalize x.l = ll at *
        have HK := hid hkk
        clear hkk
        rcases HC with ⟨rfl, h1, hE⟩ | ⟨rfl, h1, hE⟩ | ⟨rfl, rfl, ⟨h1, h2⟩, hE⟩ | ⟨rfl, rfl, h1, hE⟩ | ⟨rfl, rfl, ⟨h1, h2⟩, hE⟩ | ⟨rfl, rfl, hE⟩ | ⟨rfl, rfl, h1, hE⟩ | ⟨rfl, rfl, h1, hE⟩ | ⟨rfl, rfl, hE⟩ | ⟨h1, h2, h3, hE⟩
        all_goals have HE := hid hE
        all_goals clear hE
        all_goals go_wp2_with fail
        all_goals go_ret
        all_goals exact ⟨ret1 HE.out.symm, hF⟩

/-- Is it right, as a bool. -/
def Nd.Rb (x : Nd) : Bool := decide x.R
theorem Nd.Rb_yes {x : Nd} (h : x.R) : x.Rb = true := decide_eq_true h
theorem Nd.Rb_no {x : Nd} (h : ¬ x.R) : x.Rb = false := decide_eq_false h
def Nd.Bad (x : Nd) : Prop := (x.k ≠ 1 ∧ x.k ≠ 2) ∨ x.l < 1 ∨ 100 < x.l ∨ (x.k = 2 ∧ x.l ≠ 1) ∨ x.s < 0 ∨ 533248 < x.s
instance (x : Nd) : Decidable x.Bad := by unfold Nd.Bad; infer_instance
def Nd.allB (x : Nd) (i : Nat) : Prop := ∀ j, j < i → Bk (x.d j)
theorem R_of (x : Nd) (h0 : ¬ x.k = 0) (hb : ¬ x.Bad) (h : x.allB 6) (ha : Bk x.a) (hB : Bk x.b) : x.R := by
  have g0 : Bk x.d0 := h 0 (by omega)
  have g1 : Bk x.d1 := h 1 (by omega)
  have g2 : Bk x.d2 := h 2 (by omega)
  have g3 : Bk x.d3 := h 3 (by omega)
  have g4 : Bk x.d4 := h 4 (by omega)
  have g5 : Bk x.d5 := h 5 (by omega)
  unfold Nd.Bad at hb
  exact .inr ⟨by omega, by omega, by omega, g0, g1, g2, g3, g4, g5, ha, hB⟩
theorem R_not (x : Nd) (h0 : ¬ x.k = 0) (h : x.Bad ∨ (∃ j, j < 6 ∧ ¬ Bk (x.d j)) ∨ ¬ Bk x.a ∨ ¬ Bk x.b) : ¬ x.R := by
  intro hR
  rcases hR with hR | ⟨h1, h2, h3, g0, g1, g2, g3, g4, g5, ha, hB⟩
  · exact h0 hR.1
  · rcases h with h | ⟨j, hj, h⟩ | h | h
    · unfold Nd.Bad at h
      omega
    · rcases (show j = 0 ∨ j = 1 ∨ j = 2 ∨ j = 3 ∨ j = 4 ∨ j = 5 by omega) with rfl | rfl | rfl | rfl | rfl | rfl
      · exact h g0
      · exact h g1
      · exact h g2
      · exact h g3
      · exact h g4
      · exact h g5
    · exact h ha
    · exact h hB
end Go.Proofs.Ytmbfcnacoijmaaa.Cw
