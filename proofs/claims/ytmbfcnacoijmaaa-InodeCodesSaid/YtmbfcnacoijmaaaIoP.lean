/- Cost, walked. Own work. -/
import Derived.Test.YtmbfcnacoijmaaaIoO
import Derived.Test.YtmbfcnacoijmaaaRpA
import Derived.WalkKit
namespace Go.Proofs.Ytmbfcnacoijmaaa.Cw
open Go.RowKit
set_option linter.unusedVariables false
set_option linter.unusedSimpArgs false

open Classical in
/-- What Cost tells. -/
noncomputable def coV (n : Nat) (xs : Nat → Int) : Value := if okp xs n then .tuple #[.int .i64 ((n + (ks xs n).length : Nat) : Int), .int .i64 0] else .tuple #[.int .i64 0, .int .i64 1]
theorem coV_yes {n : Nat} {xs : Nat → Int} (h : okp xs n) : coV n xs = .tuple #[.int .i64 ((n + (ks xs n).length : Nat) : Int), .int .i64 0] := if_pos h
theorem coV_no {n : Nat} {xs : Nat → Int} (h : ¬ okp xs n) : coV n xs = .tuple #[.int .i64 0, .int .i64 1] := if_neg h

/-- A slice of so many numbers, in memory. -/
def Sl (w : World) (b off n : Nat) (xs : Nat → Int) : Prop := ∀ i, i < n → w.cell? ⟨b, off + i, none⟩ = some (.int .i64 (xs i))
theorem Sl.fr {w w' : World} {b off n : Nat} {xs : Nat → Int} (h : Sl w b off n xs) (hf : Fr w w' (fun _ => False)) : Sl w' b off n xs := fun i hi => cell_fr (h i hi) hf

set_option maxRecDepth 100000 in
set_option maxHeartbeats 6400000 in
theorem cost_some (w : World) (b off n cap : Nat) (xs : Nat → Int) (h : Sl w b off n xs) (hi : ∀ i, i < n → -9223372036854775808 ≤ xs i ∧ xs i < 9223372036854775808) (hn : n ≤ 17592186043904) :
    Calls Try.prog 17 #[.slice (some ⟨b, off, none⟩) n cap] w fun e w' => e = .returned (coV n xs) ∧ Fr w w' (fun _ => False) := by
  have HC := hid h
  have HP := hid (fun (w : World) (i : Nat) (hh : i < n) => place_calls w (xs i) (hi i hh).1 (hi i hh).2)
  clear h hi
  have hmm := @run_makeMap Try.prog
  go_enter Try.func17, Try.ntmps17
  go_wp2_with fail
  have hM0 : Mk (w.alloc (.map #[] 0)) w.heap.size (ks xs 0) := ⟨#[], 0, alloc_new w _, rfl⟩
  have hF0 : Fr w (w.alloc (.map #[] 0)) (fun _ => False) := (Fr.refl w _).alloc _
  have HB : Hid (w.heap.size ≤ w.heap.size) := hid (Nat.le_refl _)
  generalize w.alloc (.map #[] 0) = w1 at *
  generalize hB : w.heap.size = B at hM0
  have HBB := hid hB
  clear hB HB
  go_loopw [14] (fun t wr => ∃ i : Nat, i ≤ n ∧ t = .int .i64 i ∧ okp xs i ∧ Mk wr B (ks xs i) ∧ Fr w wr (fun _ => False)) (fun t _ => n - (intOf t).toNat)
  case atStart => exact ⟨0, by omega, rfl, okp_zero xs, hM0, hF0⟩
  case round =>
    clear hM0 hF0
    obtain ⟨i, hi, rfl, hok, hM, hF⟩ := hrel
    have HO := hid hok
    clear hok
    by_cases hlt : i < n
    · have hcell := cell_fr (HC.out i hlt) hF
      have PC := hid (fun w => HP.out w i hlt)
      by_cases hx : Ix (xs i)
      · by_cases hbad : 0 < i ∧ xs i ≤ xs (i - 1)
        · have HNO := hid (coV_no (okp_not (n := n) hlt (.inr hbad)))
          obtain ⟨hpos, hle⟩ := hbad
          obtain ⟨k, rfl⟩ : ∃ k, i = k + 1 := ⟨i - 1, by omega⟩
          have hprev := cell_fr (HC.out k (by omega)) hF
          rw [Nat.add_sub_cancel] at hle
          have HV := hid (show plV (xs (k + 1)) = _ from if_pos hx)
          rw [HV.out] at PC
          clear hx hpos
          generalize plL (xs (k + 1)) = L at *
          generalize plA (xs (k + 1)) = A at *
          generalize plB (xs (k + 1)) = BB at *
          generalize xs (k + 1) = x at *
          generalize xs k = y at *
          go_wp2_with (go_at_call 19; refine (PC.out _).mono ?_; rintro e w' ⟨rfl, rfl⟩)
          go_ret2
          rw [HNO.out]
          exact ⟨rfl, hF⟩
        · have HS := hid (okp_succ HO.out hx (fun h0 => by
            by_cases h1 : xs (i - 1) < xs i
            · exact h1
            · exact absurd ⟨h0, by omega⟩ hbad))
          have HK : Hid (ks xs (i + 1) = kstep (xs i) (ks xs i)) := hid rfl
          have hor : i = 0 ∨ ∃ k, i = k + 1 ∧ xs k < xs i ∧ wr.cell? ⟨b, off + k, none⟩ = some (.int .i64 (xs k)) := by
            rcases i with _ | k
            · exact .inl rfl
            · exact .inr ⟨k, rfl, by have := hbad; rw [Nat.add_sub_cancel] at this; omega, cell_fr (HC.out k (by omega)) hF⟩
          clear hbad
          rcases plL_cases (xs i) with ⟨hl, h1⟩ | ⟨hl, h1, h2⟩ | ⟨hl, h1⟩
          · have hx0 := hx.1
            rw [plV_0 hx0 h1] at PC
            rw [kstep_0 hl] at HK
            clear hx hl
            rcases hor with rfl | ⟨k, rfl, hgt, hprev⟩
            · rw [Nat.add_zero] at hcell
              generalize xs 0 = x at *
              go_wp2_with (go_at_call 19; refine (PC.out _).mono ?_; rintro e w' ⟨rfl, rfl⟩)
              go_roundw
              case rel => exact ⟨0 + 1, by omega, by go_num, HS.out, by rw [HK.out]; exact hM, hF⟩
              case measure => simp [intOf]; omega
            · generalize xs (k + 1) = x at *
              generalize xs k = y at *
              go_wp2_with (go_at_call 19; refine (PC.out _).mono ?_; rintro e w' ⟨rfl, rfl⟩)
              go_roundw
              case rel => exact ⟨k + 1 + 1, by omega, by go_num, HS.out, by rw [HK.out]; exact hM, hF⟩
              case measure => simp [intOf]; omega
          · rw [plV_1 h1 h2] at PC
            rw [kstep_1 hl] at HK
            clear hx hl
            rcases hor with rfl | ⟨k, rfl, hgt, hprev⟩
            · rw [Nat.add_zero] at hcell
              generalize xs 0 = x at *
              go_wp2_with (first | (go_at_call 19; refine (PC.out _).mono ?_; rintro e w' ⟨rfl, rfl⟩) | (at_mapUpdate; refine wpList_update2 _ rfl (.tmp 43) (.tmp 45) (.const (.bool true)) rfl B _ rfl hM (1, -1) _ rfl rfl ?_; intro w5 hM2 hf2))
              go_roundw
              case rel => exact ⟨0 + 1, by omega, by go_num, HS.out, by rw [HK.out]; exact hM2, hF.fresh hf2 (fun j hj => by subst hj; rw [← HBB.out]; exact Nat.le_refl _)⟩
              case measure => simp [intOf]; omega
            · generalize xs (k + 1) = x at *
              generalize xs k = y at *
              go_wp2_with (first | (go_at_call 19; refine (PC.out _).mono ?_; rintro e w' ⟨rfl, rfl⟩) | (at_mapUpdate; refine wpList_update2 _ rfl (.tmp 43) (.tmp 45) (.const (.bool true)) rfl B _ rfl hM (1, -1) _ rfl rfl ?_; intro w5 hM2 hf2))
              go_roundw
              case rel => exact ⟨k + 1 + 1, by omega, by go_num, HS.out, by rw [HK.out]; exact hM2, hF.fresh hf2 (fun j hj => by subst hj; rw [← HBB.out]; exact Nat.le_refl _)⟩
              case measure => simp [intOf]; omega
          · have h2 := hx.2
            rw [plV_2 h1 h2] at PC
            rw [kstep_2 hl, plA_2 h1] at HK
            clear hx hl
            rcases hor with rfl | ⟨k, rfl, hgt, hprev⟩
            · rw [Nat.add_zero] at hcell
              generalize xs 0 = x at *
              go_wp2_with (first | (go_at_call 19; refine (PC.out _).mono ?_; rintro e w' ⟨rfl, rfl⟩) | (at_mapUpdate; refine wpList_update2 _ rfl (.tmp 43) (.tmp 45) (.const (.bool true)) rfl B _ rfl hM (2, -1) _ rfl rfl ?_; intro w5 hM2 hf2) | (at_mapUpdate; refine wpList_update2 _ rfl (.tmp 48) (.tmp 51) (.const (.bool true)) rfl B _ rfl hM2 (2, (x - 70) / 64) _ rfl rfl ?_; intro w6 hM3 hf3))
              go_roundw
              case rel => exact ⟨0 + 1, by omega, by go_num, HS.out, by rw [HK.out]; exact hM3, (hF.fresh hf2 (fun j hj => by subst hj; rw [← HBB.out]; exact Nat.le_refl _)).fresh hf3 (fun j hj => by subst hj; rw [← HBB.out]; exact Nat.le_refl _)⟩
              case measure => simp [intOf]; omega
            · generalize xs (k + 1) = x at *
              generalize xs k = y at *
              go_wp2_with (first | (go_at_call 19; refine (PC.out _).mono ?_; rintro e w' ⟨rfl, rfl⟩) | (at_mapUpdate; refine wpList_update2 _ rfl (.tmp 43) (.tmp 45) (.const (.bool true)) rfl B _ rfl hM (2, -1) _ rfl rfl ?_; intro w5 hM2 hf2) | (at_mapUpdate; refine wpList_update2 _ rfl (.tmp 48) (.tmp 51) (.const (.bool true)) rfl B _ rfl hM2 (2, (x - 70) / 64) _ rfl rfl ?_; intro w6 hM3 hf3))
              go_roundw
              case rel => exact ⟨k + 1 + 1, by omega, by go_num, HS.out, by rw [HK.out]; exact hM3, (hF.fresh hf2 (fun j hj => by subst hj; rw [← HBB.out]; exact Nat.le_refl _)).fresh hf3 (fun j hj => by subst hj; rw [← HBB.out]; exact Nat.le_refl _)⟩
              case measure => simp [intOf]; omega
      · have HV := hid (plV_no hx)
        have HX := hid (okp_not (n := n) hlt (.inl hx))
        clear hx
        rw [HV.out] at PC
        generalize xs i = x at *
        go_wp2_with (go_at_call 19; refine (PC.out _).mono ?_; rintro e w' ⟨rfl, rfl⟩)
        go_ret2
        rw [coV_no HX.out]
        exact ⟨rfl, hF⟩
    · obtain rfl : i = n := by omega
      clear hlt hi
      have hL := hid (ks_len xs i)
      have HV := hid (coV_yes HO.out)
      generalize hkl : ks xs i = kl at *
      have HKL := hid hkl
      clear hkl
      have g1 : (0 : Int) ≤ (kl.length : Int) := by omega
      have g2 : (kl.length : Int) ≤ 2 * i := by have := hL.out; omega
      go_wp2_with (at_len; refine wpList_len2 _ rfl (.tmp 55) rfl B _ rfl hM ?_)
      go_ret2
      rw [HV.out]
      exact ⟨ret2e (by omega) rfl, hF⟩

set_option maxRecDepth 100000 in
set_option maxHeartbeats 6400000 in
theorem cost_none (w : World) (A : Option Addr) (cap : Nat) (xs : Nat → Int) :
    Calls Try.prog 17 #[.slice A 0 cap] w fun e w' => e = .returned (coV 0 xs) ∧ Fr w w' (fun _ => False) := by
  have HV := hid (coV_yes (okp_zero xs))
  have hmm := @run_makeMap Try.prog
  have hM0 : Mk (w.alloc (.map #[] 0)) w.heap.size [] := ⟨#[], 0, alloc_new w _, rfl⟩
  go_enter Try.func17, Try.ntmps17
  go_wp2_with fail
  refine wp_loop_rounds 1 ?_
  rw [rounds_succ]
  go_wp2_with (at_len; refine wpList_len2 _ rfl (.tmp 55) rfl w.heap.size _ rfl hM0 ?_)
  go_ret2
  rw [HV.out]
  exact ⟨rfl, (Fr.refl w _).alloc _⟩
end Go.Proofs.Ytmbfcnacoijmaaa.Cw
