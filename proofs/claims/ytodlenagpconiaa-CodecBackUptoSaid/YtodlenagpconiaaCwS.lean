/- What the statements of layer 2 ask first: two numbers and a text are written and read. Own work. -/
import Derived.Test.YtodlenagpconiaaCwI
import Derived.Test.YtodlenagpconiaaCwE
namespace Go.Proofs.Ytodlenagpconiaa.Cw
open Go.RowKit
set_option linter.unusedVariables false
set_option linter.unusedSimpArgs false

theorem s_uv : ([] : List UInt8) ++ uv 300 ++ uv (zig (-1)) ++ (uv 2 ++ [97, 98]) = [172, 2, 1, 2, 97, 98] := by
  rw [uv_big 300 (by decide), show 300 / 128 = 2 from rfl, uv_small 2 (by decide), show zig (-1) = 1 from rfl, uv_small 1 (by decide)]
  rfl
theorem s_r1 : rdN 9 127 ⟨#[172, 2, 1, 2, 97, 98]⟩ 0 = (300, 0, ⟨#[1, 2, 97, 98]⟩, 0) := by kernel_rfl
theorem s_r2 : rdN 10 1 ⟨#[1, 2, 97, 98]⟩ 0 = (1, 0, ⟨#[2, 97, 98]⟩, 0) := by kernel_rfl
theorem s_r3 : rdT 9 ⟨#[2, 97, 98]⟩ 0 = (⟨#[97, 98]⟩, 0, ⟨#[]⟩, 0) := by kernel_rfl

theorem len2 (a b : List UInt8) (ha : a.length ≤ 10) (hb : b.length ≤ 10) : Len ([] ++ a) 10 ∧ Len ([] ++ a ++ b) 70000 := by
  unfold Len
  simp only [List.length_append, List.length_nil]
  omega
theorem s_z : zig (-1) = 1 := rfl
theorem s_l1 : Len ([] ++ uv 300) 10 := (len2 (uv 300) (uv 300) (uv_len10 300 (by decide)) (uv_len10 300 (by decide))).1
theorem s_l2 : Len ([] ++ uv 300 ++ uv (zig (-1))) 70000 := by
  rw [s_z]
  exact (len2 (uv 300) (uv 1) (uv_len10 300 (by decide)) (uv_len10 1 (by decide))).2

theorem Wrote.out {w w' : World} {g : Nat} {v : Value} {bs : List UInt8} (h : Wrote w w' g v bs) : ∃ v', Wr w' g v' bs ∧ Fr w w' (WS g v) ∧ Wn w v v' := h

/-- A new writer. -/
theorem Wr.new {w : World} {g : Nat} (h : w.heap[g]? = some (.cells #[.slice none 0 0] 59 (0, 0))) : Wr w g (.slice none 0 0) [] := ⟨h, World.ownsRow_nil w 0 _ 1⟩

set_option maxRecDepth 100000 in
set_option maxHeartbeats 1600000 in
theorem speaks_calls (w : World) : Calls Try.prog 11 #[] w fun e w' => e = .returned (.bool true) ∧ Fr w w' (fun _ => False) := by
  go_enter Try.func11, Try.ntmps11
  go_wp2_with fail
  refine (new_calls w).mono ?_
  rintro e w1 ⟨rfl, hn, hf1⟩
  have h1 := Wr.new hn
  clear hn
  have hg : w.heap.size ≤ w.heap.size := Nat.le_refl _
  have n1 := Nw.nil w
  generalize hgg : w.heap.size = g at h1 hg ⊢
  rw [← hgg] at hg
  have HG := hid hgg
  clear hgg
  go_wp2_with fail
  refine (wUint_calls w1 g _ _ 300 h1 (by decide) (by unfold Len; decide)).mono ?_
  rintro e w2 ⟨rfl, v2, h2, hf2, hw2⟩
  have hA2 := hf1.fresh hf2 (WS_fresh (by have := HG.out; omega) n1)
  have n2 := n1.next hf1.size hw2
  clear h1 hf1 hf2 hw2 n1
  go_wp2_with fail
  refine (wInt_calls w2 g _ _ (-1) (by decide) (by decide) h2 s_l1).mono ?_
  rintro e w3 ⟨rfl, v3, h3, hf3, hw3⟩
  have hA3 := hA2.fresh hf3 (WS_fresh (by have := HG.out; omega) n2)
  have n3 := n2.next hA2.size hw3
  clear h2 hA2 hf3 hw3 n2
  go_wp2_with fail
  refine (wText_calls w3 g _ _ ⟨#[97, 98]⟩ h3 (by decide) s_l2).mono ?_
  rintro e w4 ⟨rfl, v4, h4, hf4, hw4⟩
  have hA4 := hA3.fresh hf4 (WS_fresh (by have := HG.out; omega) n3)
  have h4' : Wr w4 g v4 [172, 2, 1, 2, 97, 98] := by
    have : [] ++ uv 300 ++ uv (zig (-1)) ++ (uv (⟨#[97, 98]⟩ : ByteArray).size ++ (⟨#[97, 98]⟩ : ByteArray).data.toList) = [172, 2, 1, 2, 97, 98] := s_uv
    rw [← this]
    exact h4
  clear h3 h4 hA3 hf4 hw4 n3
  go_wp2_with fail
  refine (wOut_calls w4 g _ _ h4').mono ?_
  rintro e w5 ⟨rfl, rfl⟩
  go_wp2_with fail
  refine (of_calls w4 _).mono ?_
  rintro e w5 ⟨rfl, hr5, hf5⟩
  have hA5 := hA4.trans hf5
  have h5 := h4'.fr hf5 (fun x => x) (fun _ _ x => x)
  have hgl := h4'.lt
  have hol := fun b (hb : v4.ownBlock = some b) => h4'.own_lt hb
  have hq0 := hA4.size
  generalize hqq : w4.heap.size = q at hr5 hgl hol hq0 ⊢
  have HGL := hid hgl
  have HOL := hid hol
  have HQ := hid hq0
  clear hqq h4' hA4 hf5 hgl hol hq0
  go_wp2_with fail
  refine (rUint_calls w5 q _ 0 hr5 (by decide)).mono ?_
  rw [s_r1]
  rintro e w6 ⟨rfl, hr6, hf6⟩
  have hA6 := hA5.fresh hf6 (fun i hi => by have := HQ.out; omega)
  have h6 := h5.fr hf6 (fun x => by have := HGL.out; omega) (fun b hb x => by have := HOL.out b hb; omega)
  clear hr5 hA5 hf6 h5
  go_wp2_with fail
  refine (rInt_calls w6 q _ 0 hr6 (by decide)).mono ?_
  rw [s_r2, show zz (1, 0, (⟨#[2, 97, 98]⟩ : ByteArray), 0).1 = -1 from rfl]
  rintro e w7 ⟨rfl, hr7, hf7⟩
  have hA7 := hA6.fresh hf7 (fun i hi => by have := HQ.out; omega)
  have h7 := h6.fr hf7 (fun x => by have := HGL.out; omega) (fun b hb x => by have := HOL.out b hb; omega)
  clear hr6 hA6 hf7 h6
  go_wp2_with fail
  refine (rText_calls w7 q _ 0 9 (by decide) (by decide) hr7 (by decide)).mono ?_
  rw [s_r3]
  rintro e w8 ⟨rfl, hr8, hf8⟩
  have hA8 := hA7.fresh hf8 (fun i hi => by have := HQ.out; omega)
  have h8 := h7.fr hf8 (fun x => by have := HGL.out; omega) (fun b hb x => by have := HOL.out b hb; omega)
  clear hr7 hA7 hf8 h7
  go_wp2_with fail
  refine (wOut_calls w8 g _ _ h8).mono ?_
  rintro e w9 ⟨rfl, rfl⟩
  go_wp2_with fail
  refine (end_calls w8 q _ 0 hr8 (by decide)).mono ?_
  rintro e w9 ⟨rfl, rfl⟩
  go_wp2
  go_ret
  exact ⟨rfl, hA8⟩
end Go.Proofs.Ytodlenagpconiaa.Cw
