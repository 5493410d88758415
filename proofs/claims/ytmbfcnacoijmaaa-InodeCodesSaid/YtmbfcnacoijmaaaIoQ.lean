/- The reference's Cost, walked. Own work. -/
import Derived.Test.YtmbfcnacoijmaaaIoP
namespace Go.Proofs.Ytmbfcnacoijmaaa.Cw
open Go.RowKit
set_option linter.unusedVariables false
set_option linter.unusedSimpArgs false

theorem val_i {a b : Int} (h : a = b) : Value.int .i64 a = Value.int .i64 b := by rw [h]
theorem cstep_n (x : Int) (c : Ct) : c.n ≤ (cstep x c).n ∧ (cstep x c).n ≤ c.n + 2 := by
  unfold cstep
  split
  · omega
  · split
    · show c.n ≤ (if c.single = true then c.n else c.n + 1) ∧ (if c.single = true then c.n else c.n + 1) ≤ c.n + 2
      split <;> omega
    · show c.n ≤ c.n + (if c.last < 0 then 1 else 0) + (if plA x = c.last then 0 else 1) ∧ c.n + (if c.last < 0 then 1 else 0) + (if plA x = c.last then 0 else 1) ≤ c.n + 2
      split <;> split <;> omega
theorem ct_n (xs : Nat → Int) (m : Nat) : (ct xs m).n ≤ 2 * m := by
  induction m with
  | zero => simp [ct]
  | succ m ih => have := cstep_n (xs m) (ct xs m); rw [ct]; omega
theorem cstep_0 {x : Int} (h : plL x = 0) (c : Ct) : cstep x c = c := if_pos h
theorem cstep_1 {x : Int} (h : plL x = 1) (c : Ct) : cstep x c = ⟨true, c.last, if c.single then c.n else c.n + 1⟩ := by unfold cstep; rw [if_neg (by omega), if_pos h]
theorem cstep_2 {x : Int} (h : plL x = 2) (c : Ct) : cstep x c = ⟨c.single, plA x, c.n + (if c.last < 0 then 1 else 0) + (if plA x = c.last then 0 else 1)⟩ := by unfold cstep; rw [if_neg (by omega), if_neg (by omega)]

set_option maxRecDepth 100000 in
set_option maxHeartbeats 6400000 in
theorem refCost_none (w : World) (A : Option Addr) (cap : Nat) (xs : Nat → Int) :
    Calls Try.prog 18 #[.slice A 0 cap] w fun e w' => e = .returned (coV 0 xs) ∧ w = w' := by
  have HV := hid (coV_yes (okp_zero xs))
  go_enter Try.func18, Try.ntmps18
  go_wp2_with fail
  refine wp_loop_rounds 1 ?_
  rw [rounds_succ]
  go_wp2
  go_ret2
  rw [HV.out]
  exact ⟨rfl, rfl⟩

set_option maxRecDepth 100000 in
set_option maxHeartbeats 6400000 in
theorem refCost_some (w : World) (b off n cap : Nat) (xs : Nat → Int) (h : Sl w b off n xs) (hi : ∀ i, i < n → -9223372036854775808 ≤ xs i ∧ xs i < 9223372036854775808) (hn : n ≤ 17592186043904) :
    Calls Try.prog 18 #[.slice (some ⟨b, off, none⟩) n cap] w fun e w' => e = .returned (coV n xs) ∧ w = w' := by
  have HC := hid h
  have HP := hid (fun (w : World) (i : Nat) (hh : i < n) => refPlace_calls w (xs i) (hi i hh).1 (hi i hh).2)
  clear h hi
  go_enter Try.func18, Try.ntmps18
  go_wp2_with fail
  go_loop [4, 5, 6, 17] (fun c sg la t => ∃ i : Nat, i ≤ n ∧ t = .int .i64 i ∧ okp xs i ∧ c = .int .i64 ((n + (ct xs i).n : Nat) : Int) ∧ sg = .bool (ct xs i).single ∧ la = .int .i64 (ct xs i).last) (fun _ _ _ t => n - (intOf t).toNat)
  case atStart => exact ⟨0, by omega, rfl, okp_zero xs, by simp [ct], rfl, rfl⟩
  case round =>
    obtain ⟨i, hi, rfl, hok, rfl, rfl, rfl⟩ := hrel
    have HO := hid hok
    have hcn := ct_n xs i
    have HV2 := hid (fun (e : i = n) => (by have := coV_yes hok; subst e; rw [count_eq xs i hok]; exact this : coV n xs = .tuple #[.int .i64 ((n + (ct xs i).n : Nat) : Int), .int .i64 0]))
    have HK : Hid (ct xs (i + 1) = cstep (xs i) (ct xs i)) := hid rfl
    clear hok
    generalize hct : ct xs i = c at *
    have HCT := hid hct
    clear hct
    obtain ⟨sg, la, cn⟩ := c
    simp only at hcn ⊢
    by_cases hlt : i < n
    · have hcell := HC.out i hlt
      have PC := hid (fun w => HP.out w i hlt)
      by_cases hx : Ix (xs i)
      · by_cases hbad : 0 < i ∧ xs i ≤ xs (i - 1)
        · have HNO := hid (coV_no (okp_not (n := n) hlt (.inr hbad)))
          obtain ⟨hpos, hle⟩ := hbad
          obtain ⟨k, rfl⟩ : ∃ k, i = k + 1 := ⟨i - 1, by omega⟩
          have hprev := HC.out k (by omega)
          rw [Nat.add_sub_cancel] at hle
          have HV := hid (show plV (xs (k + 1)) = _ from if_pos hx)
          rw [HV.out] at PC
          clear hx hpos
          generalize plL (xs (k + 1)) = L at *
          generalize plA (xs (k + 1)) = A at *
          generalize plB (xs (k + 1)) = BB at *
          generalize xs (k + 1) = x at *
          generalize xs k = y at *
          go_wp2_with (go_at_call 20; refine (PC.out _).mono ?_; rintro e w' ⟨rfl, rfl⟩)
          go_ret2
          rw [HNO.out]
          exact ⟨rfl, rfl⟩
        · have HS := hid (okp_succ HO.out hx (fun h0 => by
            by_cases h1 : xs (i - 1) < xs i
            · exact h1
            · exact absurd ⟨h0, by omega⟩ hbad))
          have hor : i = 0 ∨ ∃ k, i = k + 1 ∧ xs k < xs i ∧ w.cell? ⟨b, off + k, none⟩ = some (.int .i64 (xs k)) := by
            rcases i with _ | k
            · exact .inl rfl
            · exact .inr ⟨k, rfl, by have := hbad; rw [Nat.add_sub_cancel] at this; omega, HC.out k (by omega)⟩
          clear hbad
          rcases plL_cases (xs i) with ⟨hl, h1⟩ | ⟨hl, h1, h2⟩ | ⟨hl, h1⟩
          · have hx0 := hx.1
            rw [plV_0 hx0 h1] at PC
            rw [cstep_0 hl] at HK
            clear hx hl
            rcases hor with rfl | ⟨k, rfl, hgt, hprev⟩
            · rw [Nat.add_zero] at hcell
              generalize xs 0 = x at *
              go_wp2_with (go_at_call 20; refine (PC.out _).mono ?_; rintro e w' ⟨rfl, rfl⟩)
              go_round
              case rel => exact ⟨0 + 1, by omega, by go_num, HS.out, by rw [HK.out]; exact val_i (by show _ = ((n + cn : Nat) : Int); omega), by rw [HK.out], by rw [HK.out]⟩
              case measure => simp [intOf]; omega
            · generalize xs (k + 1) = x at *
              generalize xs k = y at *
              go_wp2_with (go_at_call 20; refine (PC.out _).mono ?_; rintro e w' ⟨rfl, rfl⟩)
              go_round
              case rel => exact ⟨k + 1 + 1, by omega, by go_num, HS.out, by rw [HK.out]; exact val_i (by show _ = ((n + cn : Nat) : Int); omega), by rw [HK.out], by rw [HK.out]⟩
              case measure => simp [intOf]; omega
          · rw [plV_1 h1 h2] at PC
            rw [cstep_1 hl] at HK
            clear hx hl
            rcases hor with rfl | ⟨k, rfl, hgt, hprev⟩
            · rw [Nat.add_zero] at hcell
              generalize xs 0 = x at *
              cases sg
              all_goals
                go_wp2_with (go_at_call 20; refine (PC.out _).mono ?_; rintro e w' ⟨rfl, rfl⟩)
                go_round
                case rel => exact ⟨0 + 1, by omega, by go_num, HS.out, by rw [HK.out]; exact val_i (by simp; try omega), by rw [HK.out], by rw [HK.out]⟩
                case measure => simp [intOf]; omega
            · generalize xs (k + 1) = x at *
              generalize xs k = y at *
              cases sg
              all_goals
                go_wp2_with (go_at_call 20; refine (PC.out _).mono ?_; rintro e w' ⟨rfl, rfl⟩)
                go_round
                case rel => exact ⟨k + 1 + 1, by omega, by go_num, HS.out, by rw [HK.out]; exact val_i (by simp; try omega), by rw [HK.out], by rw [HK.out]⟩
                case measure => simp [intOf]; omega
          · have h2 := hx.2
            rw [plV_2 h1 h2] at PC
            rw [cstep_2 hl, plA_2 h1] at HK
            clear hx hl
            have hq : ∀ {x : Int}, ((x - 70) / 64 = la ∧ ((x - 70) / 64 != la) = false) ∨ (¬ (x - 70) / 64 = la ∧ ((x - 70) / 64 != la) = true) := fun {x} => by
              by_cases e : (x - 70) / 64 = la
              · exact .inl ⟨e, by rw [e]; simp⟩
              · exact .inr ⟨e, bne_iff_ne.2 e⟩
            have hla : la < 0 ∨ 0 ≤ la := by omega
            rcases hor with rfl | ⟨k, rfl, hgt, hprev⟩
            · rw [Nat.add_zero] at hcell
              generalize xs 0 = x at *
              rcases hq (x := x) with ⟨q1, q2⟩ | ⟨q1, q2⟩
              all_goals
                have Q1 := hid q1
                clear q1 hq
                rcases hla with hla | hla
                all_goals
                  go_wp2_with (go_at_call 20; refine (PC.out _).mono ?_; rintro e w' ⟨rfl, rfl⟩)
                  go_round
                  case rel => exact ⟨0 + 1, by omega, by go_num, HS.out, by rw [HK.out]; exact val_i (by have hq := Q1.out; simp only; repeat' split; all_goals omega), by rw [HK.out], by first | (rw [HK.out]; done) | (rw [HK.out]; exact val_i Q1.out.symm)⟩
                  case measure => simp [intOf]; omega
            · generalize xs (k + 1) = x at *
              generalize xs k = y at *
              rcases hq (x := x) with ⟨q1, q2⟩ | ⟨q1, q2⟩
              all_goals
                have Q1 := hid q1
                clear q1 hq
                rcases hla with hla | hla
                all_goals
                  go_wp2_with (go_at_call 20; refine (PC.out _).mono ?_; rintro e w' ⟨rfl, rfl⟩)
                  go_round
                  case rel => exact ⟨k + 1 + 1, by omega, by go_num, HS.out, by rw [HK.out]; exact val_i (by have hq := Q1.out; simp only; repeat' split; all_goals omega), by rw [HK.out], by first | (rw [HK.out]; done) | (rw [HK.out]; exact val_i Q1.out.symm)⟩
                  case measure => simp [intOf]; omega
      · have HV := hid (plV_no hx)
        have HX := hid (okp_not (n := n) hlt (.inl hx))
        clear hx
        rw [HV.out] at PC
        generalize xs i = x at *
        go_wp2_with (go_at_call 20; refine (PC.out _).mono ?_; rintro e w' ⟨rfl, rfl⟩)
        go_ret2
        rw [coV_no HX.out]
        exact ⟨rfl, rfl⟩
    · obtain rfl : i = n := by omega
      clear hlt hi
      go_wp2
      go_ret2
      rw [HV2.out (by first | rfl | trivial)]
      exact ⟨rfl, rfl⟩
end Go.Proofs.Ytmbfcnacoijmaaa.Cw
