/- CodecWrites by a walk over contracts. Own work. -/
import Derived.Test.YtodlenagpconiaaCwS
import Derived.Test.YtodlenagpconiaaCrD
import Derived.Test.YtodlenagpconiaaItems
namespace Go.Proofs.Ytodlenagpconiaa.Cw
open Go.RowKit
set_option linter.unusedVariables false
set_option linter.unusedSimpArgs false

def It.B (x : It) : List UInt8 := itemB x.kind x.n x.size x.s
def outB (l : List It) (k : Nat) : List UInt8 := (l.take k).flatMap It.B
theorem outB_zero (l : List It) : outB l 0 = [] := rfl
theorem outB_succ (l : List It) (k : Nat) (x : It) (h : l[k]? = some x) : outB l (k + 1) = outB l k ++ x.B := by
  unfold outB
  obtain ⟨hk, rfl⟩ := List.getElem?_eq_some_iff.1 h
  rw [List.take_succ_eq_append_getElem hk, List.flatMap_append]
  simp
theorem outB_all (l : List It) (k : Nat) (h : l.length ≤ k) : outB l k = l.flatMap It.B := by
  unfold outB
  rw [List.take_of_length_le h]
theorem It.B_len (x : It) (h : x.Ok) : x.B.length ≤ 70000 := by
  obtain ⟨⟨h1, h2⟩, _, _⟩ := h
  unfold It.B itemB
  split
  · split
    · simp
    · have := uv_len10 x.n.toNat (by omega)
      omega
  · split
    · have := uv_len10 (zig x.n) (zig_lt x.n h1 h2)
      omega
    · split
      · split
        · rw [fixB_len]
          rename_i hf
          have := fit_cases hf
          omega
        · simp
      · split
        · simp
        · have := uv_len10 x.s.size (by omega)
          have : x.s.data.toList.length = x.s.size := by rw [Array.length_toList]; rfl
          rw [List.length_append]
          omega
theorem outB_len (l : List It) (hl : ∀ x ∈ l, x.Ok) (k : Nat) : (outB l k).length ≤ 70000 * l.length := by
  have : ∀ m : List It, (∀ x ∈ m, x.Ok) → (m.flatMap It.B).length ≤ 70000 * m.length := by
    intro m
    induction m with
    | nil => intro _; simp
    | cons x m ih =>
      intro h
      have h1 := It.B_len x (h x (by simp))
      have h2 := ih (fun y hy => h y (by simp [hy]))
      rw [List.flatMap_cons, List.length_append, List.length_cons]
      omega
  have h1 := this (l.take k) (fun x hx => hl x (List.mem_of_mem_take hx))
  have h2 : (l.take k).length ≤ l.length := by rw [List.length_take]; omega
  unfold outB
  omega

set_option maxRecDepth 100000 in
set_option maxHeartbeats 3200000 in
theorem codecWrites_calls (w : World) (A : Option Addr) (len cap : Nat) (l : List It) (hI : Items w w.heap.size A len l) (hlen : len ≤ 1048576) :
    Calls Try.prog 5 #[.slice A len cap] w fun e w' => e = .returned (.bool true) ∧ Fr w w' (fun _ => False) := by
  go_enter Try.func5, Try.ntmps5
  go_wp2_with fail
  refine (new_calls w).mono ?_
  rintro e w1 ⟨rfl, hn, hf1⟩
  have h1 := Wr.new hn
  clear hn
  have n1 := Nw.nil w
  generalize hgg : w.heap.size = g at h1 hI ⊢
  have HG := hid hgg
  clear hgg
  go_wp2_with fail
  have hwI := hid hI
  clear hI
  go_loopw [4, 14] (fun x i wr => ∃ (k : Nat) (v : Value), x = .string ⟨(outB l k).toArray⟩ ∧ i = .int .i64 k ∧ k ≤ len ∧ Wr wr g v (outB l k) ∧ Fr w wr (fun _ => False) ∧ Nw w v) (fun _ i _ => len - (intOf i).toNat)
  case atStart => exact ⟨0, _, rfl, rfl, by omega, h1, hf1, n1⟩
  case round =>
    obtain ⟨k, v, rfl, rfl, hk, hw, hA, hn⟩ := hrel
    have hol := hwI.out.1
    by_cases hlt : k < len
    · obtain ⟨b, o, rfl, hb, hc⟩ := hwI.out.2.2 (by omega)
      obtain ⟨x, hx⟩ : ∃ x, l[k]? = some x := ⟨_, List.getElem?_eq_getElem (by rw [hol]; exact hlt)⟩
      have hxo := hid (hwI.out.2.1 x (List.mem_of_getElem? hx))
      have hx0 := (hc k x hx).fr hA (by have := HG.out; omega) (fun x => x)
      have HL := hid (outB_len l hwI.out.2.1 k)
      have HS := hid (outB_succ l k x hx)
      obtain ⟨kind, n, size, xs⟩ := x
      obtain ⟨d0, d1, d2, d3⟩ := hx0
      simp only at d0 d1 d2 d3
      have HC := hid hc
      have HX := hid hx
      have HB := hid hb
      have HOL := hid hol
      clear hc hx hb hol
      have WA := hid (fun w => wants_calls w kind n size xs hxo.out.1.1 hxo.out.1.2 hxo.out.2.2)
      have WR := hid (fun (w : World) (h : Wr w g v (outB l k)) => writes_calls w g v (outB l k) kind n size xs hxo.out.1.1 hxo.out.1.2 hxo.out.2.2 h (by have := HL.out; have := HOL.out; unfold Len; omega))
      unfold itemV at *
      go_wp2_with fail
      refine (WA.out _).mono ?_
      rintro e w4 ⟨rfl, hf4⟩
      have hx4 := hf4.at_ (alloc_new wr (.cells #[.int .i64 kind, .int .i64 n, .int .i64 size, .string xs] 38)) (fun x => x)
      have hw4 := (hw.alloc _).fr hf4 (fun x => x) (fun _ _ x => x)
      have hA4 := (hA.alloc _).trans hf4
      have y0 := cell_blk hx4 0
      have y1 := cell_blk hx4 1
      have y2 := cell_blk hx4 2
      have y3 := cell_blk hx4 3
      simp only [List.getElem?_toArray, List.getElem?_cons_zero, List.getElem?_cons_succ] at y0 y1 y2 y3
      clear d0 d1 d2 d3 hA hf4 hw hx4
      go_wp2_with fail
      refine (WR.out _ hw4).mono ?_
      rintro e w5 ⟨rfl, v5, hw5, hf5, hn5⟩
      have hA5 := hA4.fresh hf5 (WS_fresh (by have := HG.out; omega) hn)
      have n5 := hn.next hA4.size hn5
      clear y0 y1 y2 y3 hA4 hf5 hw4 hn5 hn
      have hsum : (outB l k).length + (itemB kind n size xs).length ≤ 2 ^ 62 := by
        have h1 := HL.out
        have h2 := HOL.out
        have h3 := It.B_len _ hxo.out
        have h4 : (itemB kind n size xs).length ≤ 70000 := h3
        omega
      go_wp2_with fail
      all_goals try (exfalso; omega)
      go_roundw
      case rel => exact ⟨k + 1, v5, by rw [HS.out, ← str_app]; rfl, by go_num, by omega, by rw [HS.out]; exact hw5, hA5, n5⟩
      case measure => simp [intOf]; omega
    · have HO := hid (outB_all l k (by have := hwI.out.1; omega))
      go_wp2_with fail
      refine (wOut_calls wr g _ _ hw).mono ?_
      rintro e w5 ⟨rfl, rfl⟩
      go_wp2_with (go_at_call 11; refine (speaks_calls _).mono ?_; rintro e6 w6 ⟨rfl, hf6⟩)
      go_ret
      exact ⟨rfl, hA.trans hf6⟩
end Go.Proofs.Ytodlenagpconiaa.Cw
