/- The reference's Int. Own work. -/
import Derived.Test.YtmnmmmoeeapeiaaJai
import Derived.Deep.RegionWith
import Derived.IntWalk
namespace Go.Proofs.Ytmnmmmoeeapeiaa.Cw
open Go.RowKit
set_option linter.unusedVariables false
set_option linter.unusedSimpArgs false

/-- One byte in a block reads as a text of one byte. -/
theorem conv_cell {P : Program} {W : World} {t e g : Nat} {cs : Array Value} (hs : P.underlying t = some (.slice e)) (he : P.underlying e = some (.int .u8)) (b : UInt8) (y : Int) (hy : y = b.toNat) (h : W.heap[g]? = some (.cells #[.int .u8 y] e (0, 0))) :
    ∀ dst, P.underlying dst = some .string → (convert t dst (.slice (some ⟨g, 0, none⟩) 1 1)).run P W = .ok (.string ⟨#[b]⟩) W := by
  intro dst hd
  subst hy
  rw [run_convert_bytes_arg W t e hs he g 0 1 1 [(b.toNat : Int)] rfl (fun i hi => by
    obtain rfl : i = 0 := by omega
    exact (cell_blk h 0).trans rfl) dst hd]
  unfold strOfNums
  simp

theorem refUint_at (w : World) (x : Int) (n : Nat) (hx : x = n) (hn : n ≤ 2 ^ 63 - 1) :
    Calls Try.prog 28 #[.int .i64 x] w fun e w' => e = .returned (.string ⟨(uv n).toArray⟩) ∧ Fr w w' (fun _ => False) := by
  subst hx
  exact refUint_calls w n hn

theorem str_app (a b : List UInt8) : (⟨a.toArray⟩ : ByteArray) ++ ⟨b.toArray⟩ = ⟨(a ++ b).toArray⟩ := by
  apply ByteArray.ext
  simp

set_option maxRecDepth 100000 in
set_option maxHeartbeats 1600000 in
theorem refInt_neg (w : World) (n : Int) (m : Nat) (hm63 : m ≤ 2 ^ 63 - 1) (hnm : n = -(m : Int) - 1) :
    Calls Try.prog 49 #[.int .i64 n] w fun e w' => e = .returned (.string ⟨(uv (2 * m + 1)).toArray⟩) ∧ Fr w w' (fun _ => False) := by
  subst hnm
  have hneg : -(m : Int) - 1 < 0 := by omega
  have w1 : wrap64 (-(m : Int) - 1 + 1) = -(m : Int) := by unfold wrap64; omega
  by_cases hq : m < 64
  · have hqb : ((m : Int) / 64 == 0) = true := by rw [beq_iff_eq]; omega
    have hc : ∀ W : World, (convert 35 9 (.slice (some ⟨W.heap.size, 0, none⟩) 1 1)).run Try.prog (W.alloc (.cells #[.int .u8 ((m : Int) % 64 * 2 + 1)] 5)) = .ok (.string ⟨#[lo8 (2 * m + 1)]⟩) (W.alloc (.cells #[.int .u8 ((m : Int) % 64 * 2 + 1)] 5)) := fun W =>
      conv_cell (cs := #[]) Try.underlying35 Try.underlying5 (lo8 (2 * m + 1)) _ (by rw [lo8_toNat _ (by omega)]; omega) (alloc_new W _) 9 Try.underlying9
    have hu := hid (uv_small (2 * m + 1) (by omega))
    have hq64 : m < 64 := hq
    clear hq
    go_enter Try.func49, Try.ntmps49
    go_wp2
    go_ret
    rw [hu.out]
    exact ⟨rfl, (Fr.refl w _).alloc _⟩
  · have hqb : ((m : Int) / 64 == 0) = false := by rw [beq_eq_false_iff_ne]; omega
    have hc0 : ∀ W : World, (convert 35 9 (.slice (some ⟨W.heap.size, 0, none⟩) 1 1)).run Try.prog (W.alloc (.cells #[.int .u8 ((m : Int) % 64 * 2 + 1 + 128)] 5)) = .ok (.string ⟨#[hi8 (2 * m + 1)]⟩) (W.alloc (.cells #[.int .u8 ((m : Int) % 64 * 2 + 1 + 128)] 5)) := fun W =>
      conv_cell (cs := #[]) Try.underlying35 Try.underlying5 (hi8 (2 * m + 1)) _ (by rw [hi8_toNat]; omega) (alloc_new W _) 9 Try.underlying9
    have hc : ∀ W : World, (convert 35 9 (.slice (some ⟨W.heap.size, 0, none⟩) 1 1)).run Try.prog (W.alloc (.cells #[.int .u8 ((m : Int) % 64 * 2 + 1 + 128)] 5)).drew = .ok (.string ⟨#[hi8 (2 * m + 1)]⟩) (W.alloc (.cells #[.int .u8 ((m : Int) % 64 * 2 + 1 + 128)] 5)).drew := fun W =>
      conv_cell (cs := #[]) (W := (W.alloc (.cells #[.int .u8 ((m : Int) % 64 * 2 + 1 + 128)] 5)).drew) Try.underlying35 Try.underlying5 (hi8 (2 * m + 1)) _ (by rw [hi8_toNat]; omega) (alloc_new W _) 9 Try.underlying9
    have hu := hid (show (⟨#[hi8 (2 * m + 1)]⟩ : ByteArray) ++ ⟨(uv (m / 64)).toArray⟩ = ⟨(uv (2 * m + 1)).toArray⟩ by
      rw [uv_big (2 * m + 1) (by omega), show (2 * m + 1) / 128 = m / 64 by omega]
      exact str_app [hi8 (2 * m + 1)] (uv (m / 64)))
    have hl := uv_len10 (m / 64) (by omega)
    have w2 : IntKind.i64.wrap ((m : Int) % 64 * 2 + 1 + 128) = (m : Int) % 64 * 2 + 1 + 128 := IntWalk.i64_in _ (by omega)
    have w3 : IntKind.u8.wrap ((m : Int) % 64 * 2 + 1 + 128) = (m : Int) % 64 * 2 + 1 + 128 := by rw [IntKind.wrap_u8]; omega
    clear hq
    go_enter Try.func49, Try.ntmps49
    go_wp2
    go_region_with (go_at_call 28; refine (refUint_at _ _ (m / 64) (by omega) (by omega)).mono ?_; rintro e w4 ⟨rfl, hf4⟩; (try have hc4 := conv_cell (W := w4) (g := w.heap.size) (cs := #[]) Try.underlying35 Try.underlying5 (hi8 (2 * m + 1)) ((m : Int) % 64 * 2 + 1 + 128) (by rw [hi8_toNat]; omega) (hf4.at_ (alloc_new w (.cells #[.int .u8 ((m : Int) % 64 * 2 + 1 + 128)] 5)) (fun x => x)) 9 Try.underlying9))
    all_goals
      clear w2 w3 hc hc0
      (try clear hc4)
      go_wp2
      go_ret
      rw [hu.out]
      first
      | exact ⟨rfl, ((Fr.refl w _).alloc _).drew.trans hf4⟩
      | exact ⟨rfl, (((Fr.refl w _).drew).trans hf4).alloc _⟩
      | exact ⟨rfl, ((Fr.refl w _).drew).trans hf4⟩

set_option maxRecDepth 100000 in
set_option maxHeartbeats 1600000 in
theorem refInt_pos (w : World) (m : Nat) (hm63 : m ≤ 2 ^ 63 - 1) :
    Calls Try.prog 49 #[.int .i64 m] w fun e w' => e = .returned (.string ⟨(uv (2 * m)).toArray⟩) ∧ Fr w w' (fun _ => False) := by
  have hneg : 0 ≤ (m : Int) := by omega
  by_cases hq : m < 64
  · have hqb : ((m : Int) / 64 == 0) = true := by rw [beq_iff_eq]; omega
    have hc : ∀ W : World, (convert 35 9 (.slice (some ⟨W.heap.size, 0, none⟩) 1 1)).run Try.prog (W.alloc (.cells #[.int .u8 ((m : Int) % 64 * 2)] 5)) = .ok (.string ⟨#[lo8 (2 * m)]⟩) (W.alloc (.cells #[.int .u8 ((m : Int) % 64 * 2)] 5)) := fun W =>
      conv_cell (cs := #[]) Try.underlying35 Try.underlying5 (lo8 (2 * m)) _ (by rw [lo8_toNat _ (by omega)]; omega) (alloc_new W _) 9 Try.underlying9
    have hu := hid (uv_small (2 * m) (by omega))
    have hq64 : m < 64 := hq
    clear hq
    go_enter Try.func49, Try.ntmps49
    go_wp2
    go_ret
    rw [hu.out]
    exact ⟨rfl, (Fr.refl w _).alloc _⟩
  · have hqb : ((m : Int) / 64 == 0) = false := by rw [beq_eq_false_iff_ne]; omega
    have hc0 : ∀ W : World, (convert 35 9 (.slice (some ⟨W.heap.size, 0, none⟩) 1 1)).run Try.prog (W.alloc (.cells #[.int .u8 ((m : Int) % 64 * 2 + 128)] 5)) = .ok (.string ⟨#[hi8 (2 * m)]⟩) (W.alloc (.cells #[.int .u8 ((m : Int) % 64 * 2 + 128)] 5)) := fun W =>
      conv_cell (cs := #[]) Try.underlying35 Try.underlying5 (hi8 (2 * m)) _ (by rw [hi8_toNat]; omega) (alloc_new W _) 9 Try.underlying9
    have hc : ∀ W : World, (convert 35 9 (.slice (some ⟨W.heap.size, 0, none⟩) 1 1)).run Try.prog (W.alloc (.cells #[.int .u8 ((m : Int) % 64 * 2 + 128)] 5)).drew = .ok (.string ⟨#[hi8 (2 * m)]⟩) (W.alloc (.cells #[.int .u8 ((m : Int) % 64 * 2 + 128)] 5)).drew := fun W =>
      conv_cell (cs := #[]) (W := (W.alloc (.cells #[.int .u8 ((m : Int) % 64 * 2 + 128)] 5)).drew) Try.underlying35 Try.underlying5 (hi8 (2 * m)) _ (by rw [hi8_toNat]; omega) (alloc_new W _) 9 Try.underlying9
    have hu := hid (show (⟨#[hi8 (2 * m)]⟩ : ByteArray) ++ ⟨(uv (m / 64)).toArray⟩ = ⟨(uv (2 * m)).toArray⟩ by
      rw [uv_big (2 * m) (by omega), show (2 * m) / 128 = m / 64 by omega]
      exact str_app [hi8 (2 * m)] (uv (m / 64)))
    have hl := uv_len10 (m / 64) (by omega)
    have w2 : IntKind.i64.wrap ((m : Int) % 64 * 2 + 128) = (m : Int) % 64 * 2 + 128 := IntWalk.i64_in _ (by omega)
    have w3 : IntKind.u8.wrap ((m : Int) % 64 * 2 + 128) = (m : Int) % 64 * 2 + 128 := by rw [IntKind.wrap_u8]; omega
    clear hq
    go_enter Try.func49, Try.ntmps49
    go_wp2
    go_region_with (go_at_call 28; refine (refUint_at _ _ (m / 64) (by omega) (by omega)).mono ?_; rintro e w4 ⟨rfl, hf4⟩; (try have hc4 := conv_cell (W := w4) (g := w.heap.size) (cs := #[]) Try.underlying35 Try.underlying5 (hi8 (2 * m)) ((m : Int) % 64 * 2 + 128) (by rw [hi8_toNat]; omega) (hf4.at_ (alloc_new w (.cells #[.int .u8 ((m : Int) % 64 * 2 + 128)] 5)) (fun x => x)) 9 Try.underlying9))
    all_goals
      clear w2 w3 hc hc0
      (try clear hc4)
      go_wp2
      go_ret
      rw [hu.out]
      first
      | exact ⟨rfl, ((Fr.refl w _).alloc _).drew.trans hf4⟩
      | exact ⟨rfl, (((Fr.refl w _).drew).trans hf4).alloc _⟩
      | exact ⟨rfl, ((Fr.refl w _).drew).trans hf4⟩

theorem refInt_calls (w : World) (n : Int) (h1 : -9223372036854775808 ≤ n) (h2 : n < 9223372036854775808) :
    Calls Try.prog 49 #[.int .i64 n] w fun e w' => e = .returned (.string ⟨(uv (zig n)).toArray⟩) ∧ Fr w w' (fun _ => False) := by
  by_cases hn : n < 0
  · obtain ⟨m, hm⟩ := Int.eq_ofNat_of_zero_le (show 0 ≤ -n - 1 by omega)
    have hz : zig n = 2 * m + 1 := by unfold zig; rw [if_pos hn]; omega
    rw [hz]
    exact refInt_neg w n m (by omega) (by omega)
  · obtain ⟨m, rfl⟩ := Int.eq_ofNat_of_zero_le (show 0 ≤ n by omega)
    have hz : zig (m : Int) = 2 * m := by unfold zig; rw [if_neg hn]; omega
    rw [hz]
    exact refInt_pos w m (by omega)
end Go.Proofs.Ytmnmmmoeeapeiaa.Cw

