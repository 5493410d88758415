/- What the statements of layer 20 ask first: an entry, and a log of two. Own work. -/
import Derived.Test.YtbphkbbidbjpmaaRpH
import Derived.Test.YtbphkbbidbjpmaaRpB
namespace Go.Proofs.Ytbphkbbidbjpmaa.Cw
open Go.RowKit
set_option linter.unusedVariables false
set_option linter.unusedSimpArgs false

theorem spk_bytes : enB ((1 : Nat) : Int) ((2 : Nat) : Int) ((3 : Nat) : Int) 1 0 0 ⟨#[47, 97]⟩ ⟨#[]⟩ ⟨#[]⟩ = [1, 2, 3, 2, 0, 0, 2, 47, 97, 0, 0] := by
  show uv 1 ++ uv 2 ++ uv 3 ++ uv 2 ++ uv 0 ++ uv 0 ++ (uv 2 ++ [47, 97]) ++ (uv 0 ++ []) ++ (uv 0 ++ []) = _
  rw [uv_small 1 (by decide), uv_small 2 (by decide), uv_small 3 (by decide), uv_small 0 (by decide)]
  rfl
theorem spk_rt : Rt 1 2 3 ⟨#[47, 97]⟩ ⟨#[]⟩ ⟨#[]⟩ := by unfold Rt; decide
theorem spk_enc (w : World) : Calls Try.prog 9 #[enV 1 2 3 1 0 0 ⟨#[47, 97]⟩ ⟨#[]⟩ ⟨#[]⟩] w fun e w' => e = .returned (.tuple #[.string ⟨#[1, 2, 3, 2, 0, 0, 2, 47, 97, 0, 0]⟩, .int .i64 0]) ∧ Fr w w' (fun _ => False) := by
  have h := encode_yes w 1 2 3 1 0 0 ⟨#[47, 97]⟩ ⟨#[]⟩ ⟨#[]⟩ spk_rt (by unfold i64; decide) (by unfold i64; decide) (by unfold i64; decide)
  rw [spk_bytes] at h
  exact h
theorem spk_dev : deV 1 2 3 2 0 0 ⟨#[47, 97]⟩ ⟨#[]⟩ ⟨#[]⟩ ⟨#[1, 2, 3, 2, 0, 0, 2, 47, 97, 0, 0, 120]⟩ ⟨#[120]⟩ 0 = .tuple #[enV 1 2 3 1 0 0 ⟨#[47, 97]⟩ ⟨#[]⟩ ⟨#[]⟩, .int .i64 11, .int .i64 0] := by
  unfold deV
  rw [if_pos rfl, if_pos (show Rt ((1 : Nat) : Int) ((2 : Nat) : Int) ((3 : Nat) : Int) ⟨#[47, 97]⟩ ⟨#[]⟩ ⟨#[]⟩ from spk_rt)]
  rfl
theorem spk_dec (w : World) : Calls Try.prog 11 #[.string ⟨#[1, 2, 3, 2, 0, 0, 2, 47, 97, 0, 0, 120]⟩] w fun e w' => e = .returned (.tuple #[enV 1 2 3 1 0 0 ⟨#[47, 97]⟩ ⟨#[]⟩ ⟨#[]⟩, .int .i64 11, .int .i64 0]) ∧ Fr w w' (fun _ => False) := by
  have h := decode_calls w ⟨#[1, 2, 3, 2, 0, 0, 2, 47, 97, 0, 0, 120]⟩ (by decide) 1 2 3 2 0 0 ⟨#[47, 97]⟩ ⟨#[]⟩ ⟨#[]⟩ 0 0 0 0 0 0 0 0 0
    ⟨#[2, 3, 2, 0, 0, 2, 47, 97, 0, 0, 120]⟩ ⟨#[3, 2, 0, 0, 2, 47, 97, 0, 0, 120]⟩ ⟨#[2, 0, 0, 2, 47, 97, 0, 0, 120]⟩ ⟨#[0, 0, 2, 47, 97, 0, 0, 120]⟩ ⟨#[0, 2, 47, 97, 0, 0, 120]⟩ ⟨#[2, 47, 97, 0, 0, 120]⟩ ⟨#[0, 0, 120]⟩ ⟨#[0, 120]⟩ ⟨#[120]⟩
    0 0 0 0 0 0 0 0 0 (by kernel_rfl) (by kernel_rfl) (by kernel_rfl) (by kernel_rfl) (by kernel_rfl) (by kernel_rfl) (by kernel_rfl) (by kernel_rfl) (by kernel_rfl)
  rw [spk_dev] at h
  exact h

def spkE : En := ⟨1, 2, 3, 1, 0, 0, ⟨#[47, 97]⟩, ⟨#[]⟩, ⟨#[]⟩⟩
theorem spk_app1 (w : World) (g : Nat) (v : Value) (h : Lg w g v []) : Calls Try.prog 22 #[.pointer (some ⟨g, 0, none⟩), .agg #[.int .i64 1, .int .i64 2, .int .i64 3, .int .i64 1, .int .i64 0, .int .i64 0, .string ⟨#[47, 97]⟩, .string ⟨#[]⟩, .string ⟨#[]⟩]] w fun e w' => e = .returned (.tuple #[.int .i64 1, .int .i64 0]) ∧ ∃ v', Lg w' g v' [spkE] ∧ Fr w w' (WS g v) ∧ Wn w v v' :=
  append_ok w g v [] spkE h spk_rt (by decide) (by decide)
theorem spk_app2 (w : World) (g : Nat) (v : Value) (h : Lg w g v [spkE]) : Calls Try.prog 22 #[.pointer (some ⟨g, 0, none⟩), .agg #[.int .i64 1, .int .i64 2, .int .i64 3, .int .i64 1, .int .i64 0, .int .i64 0, .string ⟨#[47, 97]⟩, .string ⟨#[]⟩, .string ⟨#[]⟩]] w fun e w' => e = .returned (.tuple #[.int .i64 2, .int .i64 0]) ∧ ∃ v', Lg w' g v' [spkE, spkE] ∧ Fr w w' (WS g v) ∧ Wn w v v' :=
  append_ok w g v [spkE] spkE h spk_rt (by decide) (by decide)

set_option maxRecDepth 100000 in
set_option maxHeartbeats 6400000 in
theorem speaks20_calls (w : World) : Calls Try.prog 13 #[] w fun e w' => e = .returned (.bool true) ∧ Fr w w' (fun _ => False) := by
  have SE := hid spk_enc
  have SD := hid spk_dec
  unfold enV at SE SD
  go_enter Try.func13, Try.ntmps13
  go_wp2_with fail
  refine (SE.out _).mono ?_
  rintro e w1 ⟨rfl, hf1⟩
  have hx1 := hf1.at_ (alloc_new w _) (fun x => x)
  have hA1 := ((Fr.refl w (fun _ => False)).alloc _).trans hf1
  clear hf1
  go_wp2_with fail
  refine (SD.out _).mono ?_
  rintro e w2 ⟨rfl, hf2⟩
  have hx2 := hf2.at_ hx1 (fun x => x)
  have hA2 := hA1.trans hf2
  clear hf2 hx1 hA1
  go_wp2_with fail
  have hx3 := ((Fr.refl w2 (fun _ => False)).alloc (.cells #[.int .i64 1, .int .i64 2, .int .i64 3, .int .i64 1, .int .i64 0, .int .i64 0, .string ⟨#[47, 97]⟩, .string ⟨#[]⟩, .string ⟨#[]⟩] 25)).at_ hx2 (fun x => x)
  have hD3 := alloc_new w2 (.cells #[.int .i64 1, .int .i64 2, .int .i64 3, .int .i64 1, .int .i64 0, .int .i64 0, .string ⟨#[47, 97]⟩, .string ⟨#[]⟩, .string ⟨#[]⟩] 25)
  have hA3 := hA2.alloc (.cells #[.int .i64 1, .int .i64 2, .int .i64 3, .int .i64 1, .int .i64 0, .int .i64 0, .string ⟨#[47, 97]⟩, .string ⟨#[]⟩, .string ⟨#[]⟩] 25)
  have hlt := hid (blk_lt hx3)
  have hlt2 := hid (blk_lt hD3)
  clear hx2 hA2
  generalize w2.heap.size = db at *
  generalize w2.alloc (.cells #[.int .i64 1, .int .i64 2, .int .i64 3, .int .i64 1, .int .i64 0, .int .i64 0, .string ⟨#[47, 97]⟩, .string ⟨#[]⟩, .string ⟨#[]⟩] 25) = w3 at *
  refine (new20_calls w3).mono ?_
  rintro e w4 ⟨rfl, h4, hf4⟩
  have n4 := Nw.nil w3
  have hx4 := hf4.at_ hx3 (fun x => x)
  have hD4 := hf4.at_ hD3 (fun x => x)
  have hA4 := hA3.trans hf4
  clear hx3 hD3 hA3
  generalize hg : w3.heap.size = g at *
  have HG := hid hg
  clear hg
  have c0 := cell_blk hx4 0
  have c1 := cell_blk hx4 1
  have c2 := cell_blk hx4 2
  have c3 := cell_blk hx4 3
  have c4 := cell_blk hx4 4
  have c5 := cell_blk hx4 5
  have c6 := cell_blk hx4 6
  have c7 := cell_blk hx4 7
  have c8 := cell_blk hx4 8
  simp only [List.getElem?_toArray, List.getElem?_cons_zero, List.getElem?_cons_succ] at c0 c1 c2 c3 c4 c5 c6 c7 c8
  go_wp2_with fail
  refine (spk_app1 w4 g _ h4).mono ?_
  rintro e w5 ⟨rfl, v5, h5, hf5, hn5⟩
  have hB5 := hf4.fresh hf5 (WS_fresh (by have := HG.out; omega) n4)
  have n5 := n4.next hf4.size hn5
  have hx5 := hf5.at_ hx4 (fun x => by have := WS_fresh (by have := HG.out; omega) n4 _ x; have := hlt.out; have := HG.out; omega)
  have hD5 := hf5.at_ hD4 (fun x => by have := WS_fresh (by have := HG.out; omega) n4 _ x; have := hlt2.out; have := HG.out; omega)
  have hA5 := hA4.fresh hf5 (fun i hi => by have := WS_fresh (by have := HG.out; omega) n4 _ hi; have := hlt.out; have := HG.out; omega)
  clear c0 c1 c2 c3 c4 c5 c6 c7 c8 hx4 hD4 hA4 hf4 hf5 hn5 n4 h4
  have c0 := cell_blk hx5 0
  have c1 := cell_blk hx5 1
  have c2 := cell_blk hx5 2
  have c3 := cell_blk hx5 3
  have c4 := cell_blk hx5 4
  have c5 := cell_blk hx5 5
  have c6 := cell_blk hx5 6
  have c7 := cell_blk hx5 7
  have c8 := cell_blk hx5 8
  simp only [List.getElem?_toArray, List.getElem?_cons_zero, List.getElem?_cons_succ] at c0 c1 c2 c3 c4 c5 c6 c7 c8
  go_wp2_with fail
  refine (spk_app2 w5 g _ h5).mono ?_
  rintro e w6 ⟨rfl, v6, h6, hf6, hn6⟩
  have hB6 := hB5.fresh hf6 (WS_fresh (by have := HG.out; omega) n5)
  have n6 := n5.next hB5.size hn6
  have hx6 := hf6.at_ hx5 (fun x => by have := WS_fresh (by have := HG.out; omega) n5 _ x; have := hlt.out; have := HG.out; omega)
  have hD6 := hf6.at_ hD5 (fun x => by have := WS_fresh (by have := HG.out; omega) n5 _ x; have := hlt2.out; have := HG.out; omega)
  have hA6 := hA5.fresh hf6 (fun i hi => by have := WS_fresh (by have := HG.out; omega) n5 _ hi; have := hlt.out; have := HG.out; omega)
  clear c0 c1 c2 c3 c4 c5 c6 c7 c8 hx5 hD5 hA5 hB5 hf6 hn6 n5 h5
  have c0 := cell_blk hx6 0
  have c1 := cell_blk hx6 1
  have c2 := cell_blk hx6 2
  have c3 := cell_blk hx6 3
  have c4 := cell_blk hx6 4
  have c5 := cell_blk hx6 5
  have c6 := cell_blk hx6 6
  have c7 := cell_blk hx6 7
  have c8 := cell_blk hx6 8
  simp only [List.getElem?_toArray, List.getElem?_cons_zero, List.getElem?_cons_succ] at c0 c1 c2 c3 c4 c5 c6 c7 c8
  have d0 := cell_blk hD6 0
  have d1 := cell_blk hD6 1
  have d2 := cell_blk hD6 2
  have d3 := cell_blk hD6 3
  have d4 := cell_blk hD6 4
  have d5 := cell_blk hD6 5
  have d6 := cell_blk hD6 6
  have d7 := cell_blk hD6 7
  have d8 := cell_blk hD6 8
  simp only [List.getElem?_toArray, List.getElem?_cons_zero, List.getElem?_cons_succ] at d0 d1 d2 d3 d4 d5 d6 d7 d8
  go_wp2_with fail
  refine (new20_calls w6).mono ?_
  rintro e w7 ⟨rfl, h7, hf7⟩
  have l7 := h6.heap hf7
  have hA7 := hA6.trans hf7
  clear c0 c1 c2 c3 c4 c5 c6 c7 c8 d0 d1 d2 d3 d4 d5 d6 d7 d8 hx6 hD6 hB6 n6 h6 hA6 hf7
  generalize w6.heap.size = g7 at *
  go_wp2_with fail
  refine (begins_none w7 g g7 _ _ _ l7 h7).mono ?_
  rintro e w8 ⟨rfl, rfl⟩
  go_wp2_with fail
  refine (new20_calls w7).mono ?_
  rintro e w9 ⟨rfl, h9, hf9⟩
  have l9 := l7.heap hf9
  have hA9 := hA7.trans hf9
  clear h7 l7 hA7 hf9
  generalize w7.heap.size = g9 at *
  go_wp2_with fail
  refine (begins_long w9 g9 g _ _ _ _ h9 l9 (by decide)).mono ?_
  rintro e w10 ⟨rfl, rfl⟩
  go_wp2_with fail
  go_ret
  exact ⟨rfl, hA9⟩
end Go.Proofs.Ytbphkbbidbjpmaa.Cw
