/- CodecNil by a walk over contracts. Own work. -/
import Derived.Test.YtodlenagpconiaaCnA
namespace Go.Proofs.Ytodlenagpconiaa.Cw
open Go.RowKit
set_option linter.unusedVariables false
set_option linter.unusedSimpArgs false

set_option maxRecDepth 100000 in
set_option maxHeartbeats 3200000 in
theorem nil_gen (w : World) (kind n size : Int) (s : ByteArray) (q gE hE : Nat) (b : Bool) (h1 : -9223372036854775808 ≤ n) (h2 : n < 9223372036854775808) (hs : s.size ≤ maxLen) (hq : itemE kind n size s = q)
    (fx : ∀ w, Calls Try.prog 23 #[.pointer none, .int .i64 size] w fun e w' => e = .returned (.tuple #[.int .i64 0, .int .i64 gE]) ∧ w = w')
    (tx : ∀ w, Calls Try.prog 25 #[.pointer none, .int .i64 n] w fun e w' => e = .returned (.tuple #[.string ⟨#[]⟩, .int .i64 hE]) ∧ w = w')
    (sx : ∀ w, Calls Try.prog 29 #[.int .i64 size] w fun e w' => e = .returned (.bool b) ∧ w = w')
    (b1 : ((gE : Int) == 1) = !b) (b2 : ((gE : Int) != 0) = true) (b3 : ((hE : Int) == 1) = decide (n < 0)) (b4 : ((hE : Int) != 0) = true) :
    Calls Try.prog 8 #[itemV kind n size s] w fun e w' => e = .returned (.bool true) ∧ Fr w w' (fun _ => False) := by
  have WA0 := fun w => wants_calls w kind n size s h1 h2 hs
  have WR0 := fun w => writes_nil w kind n size s h1 h2 hs
  rw [hq] at WA0 WR0
  have WA := hid WA0
  have FX := hid fx
  have TX := hid tx
  have SX := hid sx
  clear hq h1 h2 hs WA0 fx tx sx
  unfold itemV at *
  by_cases q0 : q = 0
  · subst q0
    have WR := hid WR0
    clear WR0
    go_enter Try.func8, Try.ntmps8
    go_wp2_with fail
    refine (WA.out _).mono ?_
    rintro e w4 ⟨rfl, hf4⟩
    have hb4 := hf4.at_ (alloc_new w _) (fun x => x)
    have d0 := cell_blk hb4 0
    have d1 := cell_blk hb4 1
    have d2 := cell_blk hb4 2
    have d3 := cell_blk hb4 3
    simp only [List.getElem?_toArray, List.getElem?_cons_zero, List.getElem?_cons_succ] at d0 d1 d2 d3
    go_wp2_with (first | (go_at_call 14; refine (rUint_nil _).mono ?_; rintro e w9 ⟨rfl, rfl⟩) | (go_at_call 17; refine (rInt_nil _).mono ?_; rintro e w9 ⟨rfl, rfl⟩) | (go_at_call 23; refine (FX.out _).mono ?_; rintro e w9 ⟨rfl, rfl⟩) | (go_at_call 25; refine (TX.out _).mono ?_; rintro e w9 ⟨rfl, rfl⟩) | fail)
    refine (WR.out _).mono ?_
    rintro e w5 ⟨rfl, hf5⟩
    have hb5 := hf5.at_ hb4 (fun x => x)
    clear d0 d1 d2 d3
    have d1 := cell_blk hb5 1
    have d2 := cell_blk hb5 2
    simp only [List.getElem?_toArray, List.getElem?_cons_zero, List.getElem?_cons_succ] at d1 d2
    go_wp2_with (first | (go_at_call 12; refine (out_nil _).mono ?_; rintro e w9 ⟨rfl, rfl⟩) | (go_at_call 29; refine (SX.out _).mono ?_; rintro e w9 ⟨rfl, rfl⟩) | (go_at_call 15; refine (left_nil _).mono ?_; rintro e w9 ⟨rfl, rfl⟩) | (go_at_call 27; refine (end_nil _).mono ?_; rintro e w9 ⟨rfl, rfl⟩) | (go_at_call 11; refine (speaks_calls _).mono ?_; rintro e w6 ⟨rfl, hf6⟩))
    go_ret
    exact ⟨rfl, ((((Fr.refl w _).alloc _).trans hf4).trans hf5).trans hf6⟩
  · have c0 : ((q : Int) == 0) = false := by rw [beq_eq_false_iff_ne]; omega
    rw [if_neg q0] at WR0
    have WR := hid WR0
    clear WR0 q0
    go_enter Try.func8, Try.ntmps8
    go_wp2_with fail
    refine (WA.out _).mono ?_
    rintro e w4 ⟨rfl, hf4⟩
    have hb4 := hf4.at_ (alloc_new w _) (fun x => x)
    have d0 := cell_blk hb4 0
    have d1 := cell_blk hb4 1
    have d2 := cell_blk hb4 2
    have d3 := cell_blk hb4 3
    simp only [List.getElem?_toArray, List.getElem?_cons_zero, List.getElem?_cons_succ] at d0 d1 d2 d3
    go_wp2_with (first | (go_at_call 14; refine (rUint_nil _).mono ?_; rintro e w9 ⟨rfl, rfl⟩) | (go_at_call 17; refine (rInt_nil _).mono ?_; rintro e w9 ⟨rfl, rfl⟩) | (go_at_call 23; refine (FX.out _).mono ?_; rintro e w9 ⟨rfl, rfl⟩) | (go_at_call 25; refine (TX.out _).mono ?_; rintro e w9 ⟨rfl, rfl⟩) | fail)
    refine (WR.out _).mono ?_
    rintro e w5 ⟨rfl, hf5⟩
    have hb5 := hf5.at_ hb4 (fun x => x)
    clear d0 d1 d2 d3
    have d1 := cell_blk hb5 1
    have d2 := cell_blk hb5 2
    simp only [List.getElem?_toArray, List.getElem?_cons_zero, List.getElem?_cons_succ] at d1 d2
    go_wp2_with (first | (go_at_call 12; refine (out_nil _).mono ?_; rintro e w9 ⟨rfl, rfl⟩) | (go_at_call 29; refine (SX.out _).mono ?_; rintro e w9 ⟨rfl, rfl⟩) | (go_at_call 15; refine (left_nil _).mono ?_; rintro e w9 ⟨rfl, rfl⟩) | (go_at_call 27; refine (end_nil _).mono ?_; rintro e w9 ⟨rfl, rfl⟩) | (go_at_call 11; refine (speaks_calls _).mono ?_; rintro e w6 ⟨rfl, hf6⟩))
    go_ret
    exact ⟨rfl, ((((Fr.refl w _).alloc _).trans hf4).trans hf5).trans hf6⟩

theorem codecNil_calls (w : World) (kind n size : Int) (s : ByteArray) (h1 : -9223372036854775808 ≤ n) (h2 : n < 9223372036854775808) (hs : s.size ≤ maxLen) :
    Calls Try.prog 8 #[itemV kind n size s] w fun e w' => e = .returned (.bool true) ∧ Fr w w' (fun _ => False) := by
  by_cases hz : size = 1 ∨ size = 2 ∨ size = 4 ∨ size = 8
  · obtain ⟨m, rfl⟩ := Int.eq_ofNat_of_zero_le (show 0 ≤ size by omega)
    have hm : m = 1 ∨ m = 2 ∨ m = 4 ∨ m = 8 := by omega
    by_cases hn : n < 0
    · exact nil_gen w kind n m s _ 20 1 true h1 h2 hs rfl (fun w => rFixed_nil w m hm) (fun w => rText_neg w none n hn) (fun w => refSized_yes w m hm) rfl rfl (by rw [decide_eq_true hn]; rfl) rfl
    · exact nil_gen w kind n m s _ 20 20 true h1 h2 hs rfl (fun w => rFixed_nil w m hm) (fun w => rText_nil w n (by omega)) (fun w => refSized_yes w m hm) rfl rfl (by rw [decide_eq_false hn]; rfl) rfl
  · by_cases hn : n < 0
    · exact nil_gen w kind n size s _ 1 1 false h1 h2 hs rfl (fun w => rFixed_no w none size hz) (fun w => rText_neg w none n hn) (fun w => refSized_no w size hz) rfl rfl (by rw [decide_eq_true hn]; rfl) rfl
    · exact nil_gen w kind n size s _ 1 20 false h1 h2 hs rfl (fun w => rFixed_no w none size hz) (fun w => rText_nil w n (by omega)) (fun w => refSized_no w size hz) rfl rfl (by rw [decide_eq_false hn]; rfl) rfl
end Go.Proofs.Ytodlenagpconiaa.Cw
