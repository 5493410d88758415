/- Where a file's block is named. Own work. -/
import Derived.Test.YtmbfcnacoijmaaaIoM
namespace Go.Proofs.Ytmbfcnacoijmaaa.Cw
open Go.RowKit
set_option linter.unusedVariables false
set_option linter.unusedSimpArgs false

theorem results_four {fn : Func} {t u v x : Tmp} (h : fn.results = #[.tmp t, .tmp u, .tmp v, .tmp x]) (tmps : Array Value) (P : Program) (w : World) :
    (results fn tmps).run P w = .ok (.tuple #[tmps.getD t undef, tmps.getD u undef, tmps.getD v undef, tmps.getD x undef]) w := by simp [results, h]

/-- May a file have such a block? -/
def Ix (x : Int) : Prop := 0 ≤ x ∧ x < 4166
instance (x : Int) : Decidable (Ix x) := by unfold Ix; infer_instance
def plL (x : Int) : Int := if x < 6 then 0 else if x < 70 then 1 else 2
def plA (x : Int) : Int := if x < 6 then x else if x < 70 then x - 6 else (x - 70) / 64
def plB (x : Int) : Int := if x < 70 then 0 else (x - 70) % 64
def plV (x : Int) : Value := if Ix x then .tuple #[.int .i64 (plL x), .int .i64 (plA x), .int .i64 (plB x), .int .i64 0] else .tuple #[.int .i64 0, .int .i64 0, .int .i64 0, .int .i64 1]
theorem plV_no {x : Int} (h : ¬ Ix x) : plV x = .tuple #[.int .i64 0, .int .i64 0, .int .i64 0, .int .i64 1] := if_neg h
theorem plV_0 {x : Int} (h : 0 ≤ x) (h2 : x < 6) : plV x = .tuple #[.int .i64 0, .int .i64 x, .int .i64 0, .int .i64 0] := by
  unfold plV plL plA plB
  rw [if_pos (by unfold Ix; omega), if_pos h2, if_pos h2, if_pos (by omega)]
theorem plV_1 {x : Int} (h : 6 ≤ x) (h2 : x < 70) : plV x = .tuple #[.int .i64 1, .int .i64 (x - 6), .int .i64 0, .int .i64 0] := by
  unfold plV plL plA plB
  rw [if_pos (by unfold Ix; omega), if_neg (by omega), if_pos h2, if_neg (by omega), if_pos h2, if_pos h2]
theorem plV_2 {x : Int} (h : 70 ≤ x) (h2 : x < 4166) : plV x = .tuple #[.int .i64 2, .int .i64 ((x - 70) / 64), .int .i64 ((x - 70) % 64), .int .i64 0] := by
  unfold plV plL plA plB
  rw [if_pos (by unfold Ix; omega), if_neg (by omega), if_neg (by omega), if_neg (by omega), if_neg (by omega), if_neg (by omega)]

set_option maxRecDepth 100000 in
set_option maxHeartbeats 3200000 in
theorem place_calls (w : World) (x : Int) (h1 : -9223372036854775808 ≤ x) (h2 : x < 9223372036854775808) :
    Calls Try.prog 19 #[.int .i64 x] w fun e w' => e = .returned (plV x) ∧ w = w' := by
  rcases (show x < 0 ∨ (0 ≤ x ∧ 4166 ≤ x) ∨ (0 ≤ x ∧ x < 6) ∨ (6 ≤ x ∧ x < 70) ∨ (70 ≤ x ∧ x < 4166) by omega) with h | ⟨h, h3⟩ | ⟨h, h3⟩ | ⟨h, h3⟩ | ⟨h, h3⟩
  · rw [plV_no (by unfold Ix; omega)]
    go_enter Try.func19, Try.ntmps19
    go_wp2
    exact bodyPost_ret (results_four rfl _ _ _) rfl ⟨rfl, rfl⟩
  · rw [plV_no (by unfold Ix; omega)]
    have hb : decide (4166 ≤ x) = true := decide_eq_true h3
    go_enter Try.func19, Try.ntmps19
    go_wp2
    exact bodyPost_ret (results_four rfl _ _ _) rfl ⟨rfl, rfl⟩
  · rw [plV_0 h h3]
    have hb : decide (4166 ≤ x) = false := decide_eq_false (by omega)
    go_enter Try.func19, Try.ntmps19
    go_wp2
    exact bodyPost_ret (results_four rfl _ _ _) rfl ⟨rfl, rfl⟩
  · rw [plV_1 h h3]
    have hb : decide (4166 ≤ x) = false := decide_eq_false (by omega)
    go_enter Try.func19, Try.ntmps19
    go_wp2
    exact bodyPost_ret (results_four rfl _ _ _) rfl ⟨rfl, rfl⟩
  · rw [plV_2 h h3]
    have hb : decide (4166 ≤ x) = false := decide_eq_false (by omega)
    go_enter Try.func19, Try.ntmps19
    go_wp2
    exact bodyPost_ret (results_four rfl _ _ _) rfl ⟨rfl, rfl⟩

set_option maxRecDepth 100000 in
set_option maxHeartbeats 3200000 in
theorem refPlace_calls (w : World) (x : Int) (h1 : -9223372036854775808 ≤ x) (h2 : x < 9223372036854775808) :
    Calls Try.prog 20 #[.int .i64 x] w fun e w' => e = .returned (plV x) ∧ w = w' := by
  rcases (show x < 0 ∨ (0 ≤ x ∧ 4166 ≤ x) ∨ (0 ≤ x ∧ x < 6) ∨ (6 ≤ x ∧ x < 70) ∨ (70 ≤ x ∧ x < 4166) by omega) with h | ⟨h, h3⟩ | ⟨h, h3⟩ | ⟨h, h3⟩ | ⟨h, h3⟩
  · rw [plV_no (by unfold Ix; omega)]
    go_enter Try.func20, Try.ntmps20
    go_wp2
    exact bodyPost_ret (results_four rfl _ _ _) rfl ⟨rfl, rfl⟩
  · rw [plV_no (by unfold Ix; omega)]
    have hb : decide (4166 ≤ x) = true := decide_eq_true h3
    go_enter Try.func20, Try.ntmps20
    go_wp2
    exact bodyPost_ret (results_four rfl _ _ _) rfl ⟨rfl, rfl⟩
  · rw [plV_0 h h3]
    have hb : decide (4166 ≤ x) = false := decide_eq_false (by omega)
    go_enter Try.func20, Try.ntmps20
    go_wp2
    exact bodyPost_ret (results_four rfl _ _ _) rfl ⟨rfl, rfl⟩
  · rw [plV_1 h h3]
    have hb : decide (4166 ≤ x) = false := decide_eq_false (by omega)
    go_enter Try.func20, Try.ntmps20
    go_wp2
    exact bodyPost_ret (results_four rfl _ _ _) rfl ⟨rfl, rfl⟩
  · rw [plV_2 h h3]
    have hb : decide (4166 ≤ x) = false := decide_eq_false (by omega)
    go_enter Try.func20, Try.ntmps20
    go_wp2
    go_loop [0, 6] (fun y t => ∃ (a r : Nat), y = .int .i64 r ∧ t = .int .i64 a ∧ (r : Int) + 64 * a = x - 70) (fun y _ => (intOf y).toNat)
    case atStart => exact ⟨0, (x - 70).toNat, by rw [Int.toNat_of_nonneg (by omega)]; go_num, rfl, by omega⟩
    case round =>
      obtain ⟨a, r, rfl, rfl, hr⟩ := hrel
      have HR := hid hr
      have ha : (a : Int) ≤ 4166 := by omega
      have hrr : (r : Int) ≤ 4166 := by omega
      clear hr
      by_cases hlt : 64 ≤ r
      · go_wp2
        go_round
        case rel => exact ⟨a + 1, r - 64, by rw [Int.ofNat_sub hlt]; rfl, by go_num, by have := HR.out; omega⟩
        case measure => simp [intOf]; omega
      · have e1 : Hid ((x - 70) / 64 = a) := hid (by have := HR.out; omega)
        have e2 : Hid ((x - 70) % 64 = r) := hid (by have := HR.out; omega)
        go_wp2
        refine bodyPost_ret (results_four rfl _ _ _) rfl ?_
        rw [e1.out, e2.out]
        exact ⟨rfl, rfl⟩
end Go.Proofs.Ytmbfcnacoijmaaa.Cw
