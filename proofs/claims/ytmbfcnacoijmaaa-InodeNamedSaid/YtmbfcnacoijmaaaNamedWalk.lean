/- InodeNamed by a walk over contracts. Own work. -/
import Derived.Test.YtmbfcnacoijmaaaIoX
import Derived.Test.YtmbfcnacoijmaaaIoZ
namespace Go.Proofs.Ytmbfcnacoijmaaa.Cw
open Go.RowKit
set_option linter.unusedVariables false
set_option linter.unusedSimpArgs false

set_option maxRecDepth 100000 in
set_option maxHeartbeats 3200000 in
theorem named_no (w : World) (b : ByteArray) (k tn X : Int) (hX : X ≠ 0)
    (h1 : ∀ w, Calls Try.prog 23 #[.string b, .int .i64 k, .int .i64 tn] w fun e w' => e = .returned (.tuple #[.string ⟨#[]⟩, .int .i64 X]) ∧ Fr w w' (fun _ => False)) :
    Calls Try.prog 7 #[.string b, .int .i64 k, .int .i64 tn] w fun e w' => e = .returned (.bool true) ∧ Fr w w' (fun _ => False) := by
  have H1 := hid h1
  have hb : (X != 0) = true := bne_iff_ne.2 hX
  clear h1 hX
  go_enter Try.func7, Try.ntmps7
  go_wp2_with fail
  refine (H1.out _).mono ?_
  rintro e w1 ⟨rfl, hf1⟩
  go_wp2_with (go_at_call 16; refine (speaks12_calls _).mono ?_; rintro e6 w6 ⟨rfl, hf6⟩)
  go_ret
  exact ⟨rfl, hf1.trans hf6⟩

set_option maxRecDepth 100000 in
set_option maxHeartbeats 6400000 in
theorem named_yes (w : World) (b : ByteArray) (k t : Nat) (hs : b.size = 128) (hk : k < 64) (ht : t < 1024) :
    Calls Try.prog 7 #[.string b, .int .i64 k, .int .i64 t] w fun e w' => e = .returned (.bool true) ∧ Fr w w' (fun _ => False) := by
  have H1 := hid (fun w => rename_yes w b k t hs hk ht)
  have hcs := renB_size b k t hs hk
  have N1 := hid (fun (i : Nat) (hi : i < 64) w => name_yes w b i hs hi)
  have N2 := hid (fun (i : Nat) (hi : i < 64) w => (by have := name_yes w (renB b k t) i hcs hi; rw [renB_two b k t hs hk ht i hi] at this; exact this : Calls Try.prog 21 #[.string (renB b k t), .int .i64 i] w fun e w' => e = .returned (.tuple #[.int .i64 (if i = k then t else two b (2 * i) : Nat), .int .i64 0]) ∧ Fr w w' (fun _ => False)))
  generalize renB b k t = c at *
  have hl : ((c.size : Int) == 128) = true := by rw [hcs]; rfl
  have hc2 : c.size ≤ 128 := by omega
  clear hs ht hcs
  go_enter Try.func7, Try.ntmps7
  go_wp2_with fail
  refine (H1.out _).mono ?_
  rintro e w1 ⟨rfl, hf1⟩
  go_wp2_with fail
  go_loopw [9] (fun x wr => ∃ i : Nat, i ≤ 64 ∧ x = .int .i64 i ∧ Fr w wr (fun _ => False)) (fun x _ => 64 - (intOf x).toNat)
  case atStart => exact ⟨0, by omega, rfl, hf1⟩
  case round =>
    clear hf1
    obtain ⟨i, hi, rfl, hF⟩ := hrel
    by_cases hlt : i < 64
    · have C1 := hid (N1.out i hlt)
      have C2 := hid (N2.out i hlt)
      by_cases e : i = k
      · subst e
        rw [if_pos rfl] at C2
        generalize two b (2 * i) = y at *
        go_wp2_with fail
        refine (C1.out _).mono ?_
        rintro e w2 ⟨rfl, hf2⟩
        go_wp2_with fail
        refine (C2.out _).mono ?_
        rintro e w3 ⟨rfl, hf3⟩
        have hF3 := (hF.trans hf2).trans hf3
        clear hF hf2 hf3
        go_wp2_with fail
        go_roundw
        case rel => exact ⟨i + 1, by omega, by go_num, hF3⟩
        case measure => simp [intOf]; omega
      · rw [if_neg e] at C2
        have e1 : ((i : Int) == (k : Int)) = false := by rw [beq_eq_false_iff_ne]; omega
        have e2 : ((i : Int) != (k : Int)) = true := by rw [bne_iff_ne]; omega
        clear e
        generalize two b (2 * i) = y at *
        go_wp2_with fail
        refine (C1.out _).mono ?_
        rintro e w2 ⟨rfl, hf2⟩
        go_wp2_with fail
        refine (C2.out _).mono ?_
        rintro e w3 ⟨rfl, hf3⟩
        have hF3 := (hF.trans hf2).trans hf3
        clear hF hf2 hf3
        go_wp2_with fail
        go_roundw
        case rel => exact ⟨i + 1, by omega, by go_num, hF3⟩
        case measure => simp [intOf]; omega
    · obtain rfl : i = 64 := by omega
      clear hlt hi
      go_wp2_with (go_at_call 16; refine (speaks12_calls _).mono ?_; rintro e6 w6 ⟨rfl, hf6⟩)
      go_ret
      exact ⟨rfl, hF.trans hf6⟩

theorem named_calls (w : World) (b : ByteArray) (k tn : Int) (hb : b.size ≤ 140737488351232) :
    Calls Try.prog 7 #[.string b, .int .i64 k, .int .i64 tn] w fun e w' => e = .returned (.bool true) ∧ Fr w w' (fun _ => False) := by
  have hs : b.size ≤ maxLen := by unfold maxLen; omega
  by_cases h : askE b k 64 = 0
  · by_cases ht : Bk tn
    · obtain ⟨h1, h2, h3⟩ := ask_zero h
      obtain ⟨m, rfl⟩ := Int.eq_ofNat_of_zero_le h2
      have ht2 := ht
      unfold Bk at ht2
      obtain ⟨t, rfl⟩ := Int.eq_ofNat_of_zero_le ht2.1
      exact named_yes w b m t h1 (by omega) (by omega)
    · exact named_no w b k tn 1 (by decide) (fun w => rename_arg w b k tn hs h ht)
  · exact named_no w b k tn _ h (fun w => rename_ask w b k tn hs h)
/-- The same, with the number's bounds. -/
theorem named_row (w : World) (b : ByteArray) (k : Int) (tn : Int) (hb : b.size ≤ 140737488351232) (_ : -9223372036854775808 ≤ k) (_ : k < 9223372036854775808) (_ : -9223372036854775808 ≤ tn) (_ : tn < 9223372036854775808) :
    Calls Try.prog 7 #[.string b, .int .i64 k, .int .i64 tn] w fun e w' => e = .returned (.bool true) ∧ Fr w w' (fun _ => False) := named_calls w b k tn hb
end Go.Proofs.Ytmbfcnacoijmaaa.Cw
