/- CodecShort by a walk over contracts. Own work. -/
import Derived.Test.YtodlenagpconiaaCwS
namespace Go.Proofs.Ytodlenagpconiaa.Cw
open Go.RowKit
set_option linter.unusedVariables false
set_option linter.unusedSimpArgs false

theorem uv_take (a b : Nat) (h : ¬ a = b) (hl : (uv a).length ≤ (uv b).length) : ¬ ((⟨(uv b).toArray⟩ : ByteArray).extract 0 (uv a).length).toList = uv a := by
  rw [ByteArray.toList_eq]
  intro e
  have e3 : List.take (uv a).length (uv b) = uv a := by simpa using e
  have h2 : uv b = uv a ++ (uv b).drop (uv a).length := by
    conv => lhs; rw [← List.take_append_drop (uv a).length (uv b), e3]
  exact h (uv_prefix a b _ h2).1

theorem ret_true {b : Bool} (h : b = true) : Ending.returned (.bool b) = .returned (.bool true) := by rw [h]

set_option maxRecDepth 100000 in
set_option maxHeartbeats 1600000 in
theorem codecShort_calls (w : World) (a b : Int) (ha1 : -9223372036854775808 ≤ a) (ha2 : a < 9223372036854775808) (hb1 : -9223372036854775808 ≤ b) (hb2 : b < 9223372036854775808) :
    Calls Try.prog 3 #[.int .i64 a, .int .i64 b] w fun e w' => e = .returned (.bool true) ∧ Fr w w' (fun _ => False) := by
  have HA := hid (And.intro ha1 ha2)
  have HB := hid (And.intro hb1 hb2)
  clear ha1 ha2 hb1 hb2
  by_cases ha : a < 0
  · have hda : decide (0 ≤ a) = false := decide_eq_false (by omega)
    by_cases hb : b < 0
    · have hdb : decide (0 ≤ b) = false := decide_eq_false (by omega)
      go_enter Try.func3, Try.ntmps3
      go_wp2_with fail
      refine (new_calls w).mono ?_
      rintro e w1 ⟨rfl, hn1, hf1⟩
      go_wp2_with fail
      refine (new_calls w1).mono ?_
      rintro e w2 ⟨rfl, hn2, hf2⟩
      have x1 := (Wr.new hn1).fr hf2 (fun x => x) (fun _ _ x => x)
      have x2 := Wr.new hn2
      have hz := hf1.size
      have hA := hf1.trans hf2
      have hlt : w.heap.size < w1.heap.size := blk_lt hn1
      generalize hg1 : w.heap.size = g1 at *
      generalize hg2 : w1.heap.size = g2 at *
      have HG := hid hg1
      have HLT := hid hlt
      have H22 := hid x2.lt
      clear hn1 hn2 hf1 hf2 hz hg1 hg2 hlt
      go_wp2_with fail
      refine (wUint_neg w2 _ a ha).mono ?_
      rintro e w3 ⟨rfl, rfl⟩
      go_wp2_with fail
      refine (wUint_neg w2 _ b hb).mono ?_
      rintro e w3 ⟨rfl, rfl⟩
      go_wp2_with fail
      refine (speaks_calls w2).mono ?_
      rintro e w3 ⟨rfl, hf3⟩
      go_wp2
      go_ret
      exact ⟨rfl, hA.trans hf3⟩
    · have hdb : decide (0 ≤ b) = true := decide_eq_true (by omega)
      obtain ⟨n, rfl⟩ := Int.eq_ofNat_of_zero_le (show 0 ≤ b by omega)
      have hn : n ≤ 2 ^ 63 - 1 := by have := HB.out; omega
      have HN := hid hn
      clear hb hn
      go_enter Try.func3, Try.ntmps3
      go_wp2_with fail
      refine (new_calls w).mono ?_
      rintro e w1 ⟨rfl, hn1, hf1⟩
      go_wp2_with fail
      refine (new_calls w1).mono ?_
      rintro e w2 ⟨rfl, hn2, hf2⟩
      have x1 := (Wr.new hn1).fr hf2 (fun x => x) (fun _ _ x => x)
      have x2 := Wr.new hn2
      have hz := hf1.size
      have hA := hf1.trans hf2
      have hlt : w.heap.size < w1.heap.size := blk_lt hn1
      generalize hg1 : w.heap.size = g1 at *
      generalize hg2 : w1.heap.size = g2 at *
      have HG := hid hg1
      have HLT := hid hlt
      have H22 := hid x2.lt
      clear hn1 hn2 hf1 hf2 hz hg1 hg2 hlt
      go_wp2_with fail
      refine (wUint_neg w2 _ a ha).mono ?_
      rintro e w3 ⟨rfl, rfl⟩
      go_wp2_with fail
      refine (wUint_calls w2 _ _ _ n x2 HN.out (by unfold Len; decide)).mono ?_
      rintro e w3 ⟨rfl, v3, x3, hf3, hw3⟩
      go_wp2_with fail
      refine (speaks_calls w3).mono ?_
      rintro e w4 ⟨rfl, hf4⟩
      go_wp2
      go_ret
      exact ⟨rfl, (hA.fresh hf3 (WS_fresh (by have := HG.out; have := HLT.out; omega) (Nw.nil w))).trans hf4⟩
  · have hda : decide (0 ≤ a) = true := decide_eq_true (by omega)
    obtain ⟨m, rfl⟩ := Int.eq_ofNat_of_zero_le (show 0 ≤ a by omega)
    have hm : m ≤ 2 ^ 63 - 1 := by have := HA.out; omega
    have HM := hid hm
    clear ha hm
    by_cases hb : b < 0
    · have hdb : decide (0 ≤ b) = false := decide_eq_false (by omega)
      go_enter Try.func3, Try.ntmps3
      go_wp2_with fail
      refine (new_calls w).mono ?_
      rintro e w1 ⟨rfl, hn1, hf1⟩
      go_wp2_with fail
      refine (new_calls w1).mono ?_
      rintro e w2 ⟨rfl, hn2, hf2⟩
      have x1 := (Wr.new hn1).fr hf2 (fun x => x) (fun _ _ x => x)
      have x2 := Wr.new hn2
      have hz := hf1.size
      have hA := hf1.trans hf2
      have hlt : w.heap.size < w1.heap.size := blk_lt hn1
      generalize hg1 : w.heap.size = g1 at *
      generalize hg2 : w1.heap.size = g2 at *
      have HG := hid hg1
      have HLT := hid hlt
      have H22 := hid x2.lt
      clear hn1 hn2 hf1 hf2 hz hg1 hg2 hlt
      go_wp2_with fail
      refine (wUint_calls w2 _ _ _ m x1 HM.out (by unfold Len; decide)).mono ?_
      rintro e w3 ⟨rfl, v3, x3, hf3, hw3⟩
      go_wp2_with fail
      refine (wUint_neg w3 _ b hb).mono ?_
      rintro e w4 ⟨rfl, rfl⟩
      go_wp2_with fail
      refine (speaks_calls w3).mono ?_
      rintro e w4 ⟨rfl, hf4⟩
      go_wp2
      go_ret
      exact ⟨rfl, (hA.fresh hf3 (WS_fresh (by have := HG.out; omega) (Nw.nil w))).trans hf4⟩
    · have hdb : decide (0 ≤ b) = true := decide_eq_true (by omega)
      obtain ⟨n, rfl⟩ := Int.eq_ofNat_of_zero_le (show 0 ≤ b by omega)
      have hn : n ≤ 2 ^ 63 - 1 := by have := HB.out; omega
      have HN := hid hn
      have hl1 : 1 ≤ (uv m).length := uv_pos m
      have hl2 : (uv m).length ≤ 9 := uv_len m 8 (by have := HM.out; omega)
      have hmono := hid (uv_mono m n)
      have htake := hid (uv_take m n)
      clear hb hn
      go_enter Try.func3, Try.ntmps3
      go_wp2_with fail
      refine (new_calls w).mono ?_
      rintro e w1 ⟨rfl, hn1, hf1⟩
      go_wp2_with fail
      refine (new_calls w1).mono ?_
      rintro e w2 ⟨rfl, hn2, hf2⟩
      have x1 := (Wr.new hn1).fr hf2 (fun x => x) (fun _ _ x => x)
      have x2 := Wr.new hn2
      have hz := hf1.size
      have hA := hf1.trans hf2
      have hlt : w.heap.size < w1.heap.size := blk_lt hn1
      generalize hg1 : w.heap.size = g1 at *
      generalize hg2 : w1.heap.size = g2 at *
      have HG := hid hg1
      have HLT := hid hlt
      have H22 := hid x2.lt
      clear hn1 hn2 hf1 hf2 hz hg1 hg2 hlt
      go_wp2_with fail
      refine (wUint_calls w2 _ _ _ m x1 HM.out (by unfold Len; decide)).mono ?_
      rintro e w3 ⟨rfl, v3, x3, hf3, hw3⟩
      have y3 := x2.fr hf3 (fun x => by have := HLT.out; rcases x with x | x <;> first | omega | cases x) (fun b hb => by cases hb)
      have hA3 := hA.fresh hf3 (WS_fresh (by have := HG.out; omega) (Nw.nil w))
      have n3 := (Nw.nil w2).next (Nat.le_refl _) hw3
      clear x1 x2 hA hf3 hw3
      go_wp2_with fail
      refine (wUint_calls w3 _ _ _ n y3 HN.out (by unfold Len; decide)).mono ?_
      rintro e w4 ⟨rfl, v4, y4, hf4, hw4⟩
      have x4 := x3.fr hf4 (fun x => by have := HLT.out; rcases x with x | x <;> first | omega | cases x) (fun b hb x => by rcases x with x | x <;> first | (have := n3 b hb; have := H22.out; omega) | cases x)
      have hA4 := hA3.fresh hf4 (WS_fresh (by have := HG.out; have := HLT.out; omega) (Nw.nil w))
      clear x3 y3 hA3 hf4 hw4 n3
      go_wp2_with fail
      refine (wOut_calls w4 _ _ _ x4).mono ?_
      rintro e w5 ⟨rfl, rfl⟩
      go_wp2_with fail
      refine (wOut_calls w4 _ _ _ y4).mono ?_
      rintro e w5 ⟨rfl, rfl⟩
      go_wp2_with fail
      all_goals first
        | (exfalso
           have h2 := hmono.out (by omega)
           omega)
        | (exfalso
           have h2 := htake.out (by omega) (by omega)
           first
           | (exact h2 (by assumption))
           | (rename_i hx
              exact hx (Or.inr h2)))
        | (refine (speaks_calls w4).mono ?_
           rintro e w5 ⟨rfl, hf5⟩
           go_wp2
           go_ret
           refine ⟨?_, hA4.trans hf5⟩
           first
           | rfl
           | (refine ret_true ?_
              clear hdb hda
              simp only [Bool.or_eq_true, Bool.not_eq_true', beq_iff_eq, decide_eq_true_eq, beq_eq_false_iff_ne, ne_eq, or_assoc]
              first
              | exact Or.inr (by assumption)
              | exact Or.inr (Or.inr (by assumption))))
end Go.Proofs.Ytodlenagpconiaa.Cw
