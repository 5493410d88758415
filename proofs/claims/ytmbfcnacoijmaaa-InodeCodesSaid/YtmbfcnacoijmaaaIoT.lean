/- Rename where it renames. Own work. -/
import Derived.Test.YtmbfcnacoijmaaaIoR
import Derived.Deep.RegionWith
namespace Go.Proofs.Ytmbfcnacoijmaaa.Cw
open Go.RowKit
set_option linter.unusedVariables false
set_option linter.unusedSimpArgs false

set_option maxRecDepth 100000 in
set_option maxHeartbeats 3200000 in
theorem refRename_yes (w : World) (b : ByteArray) (k tn : Nat) (hs : b.size = 128) (hk : k < 64) (ht : tn < 1024) :
    Calls Try.prog 24 #[.string b, .int .i64 k, .int .i64 tn] w fun e w' => e = .returned (.tuple #[.string (renB b k tn), .int .i64 0]) ∧ Fr w w' (fun _ => False) := by
  have AC := hid (fun w => refAsked_calls w b k 64 (by unfold maxLen; omega))
  rw [askE_in hs (by omega)] at AC
  have FC := hid (fun w => refFixed_calls w tn 2 (by omega) (by omega))
  have hl := fixB_len tn 2
  have HP : Hid (renB b k tn = b.extract 0 (2 * k) ++ ⟨(fixB tn 2).toArray⟩ ++ b.extract (2 * k + 2) b.size) := hid rfl
  rw [HP.out]
  generalize fixB tn 2 = l at *
  have i1 : (0 : Int) ≤ 2 * (k : Int) := by omega
  have i2 : 2 * (k : Int) ≤ (b.size : Int) := by omega
  have i3 : (0 : Int) ≤ 2 * (k : Int) + 2 := by omega
  have i4 : 2 * (k : Int) + 2 ≤ (b.size : Int) := by omega
  have t1 : (2 * (k : Int)).toNat = 2 * k := by omega
  have t2 : (2 * (k : Int) + 2).toNat = 2 * k + 2 := by omega
  have w1 : IntKind.i64.wrap (2 * (k : Int)) = 2 * (k : Int) := IntWalk.i64_in _ (by omega)
  have w3 : IntKind.i64.wrap (2 * (k : Int) + 2) = 2 * (k : Int) + 2 := IntWalk.i64_in _ (by omega)
  have z1 : (b.extract 0 (2 * k)).size = 2 * k := by rw [ByteArray.size_extract]; omega
  have z2 : (b.extract (2 * k + 2) b.size).size = b.size - (2 * k + 2) := by rw [ByteArray.size_extract]; omega
  generalize q1 : b.extract 0 (2 * k) = p1 at *
  generalize q2 : b.extract (2 * k + 2) b.size = p2 at *
  have s1 : ¬ 9223372036854775807 < p1.size + l.length := by omega
  have s2 : ¬ 9223372036854775807 < p1.size + l.length + p2.size := by omega
  have d1 : decide (1024 ≤ (tn : Int)) = false := decide_eq_false (by omega)
  have d2 : (0 : Int) ≤ (tn : Int) := by omega
  clear hs hl z1 z2
  go_enter Try.func24, Try.ntmps24
  go_wp2_with (go_at_call 39; refine (AC.out _).mono ?_; rintro e w' ⟨rfl, rfl⟩)
  go_region_with (go_at_call 32; refine (FC.out _).mono ?_; rintro e w' ⟨rfl, hf⟩)
  all_goals
    go_wp2
    go_ret2
    exact ⟨rfl, ((Fr.refl w _).drew).trans hf⟩

set_option maxRecDepth 100000 in
set_option maxHeartbeats 3200000 in
theorem rename_yes (w : World) (b : ByteArray) (k tn : Nat) (hs : b.size = 128) (hk : k < 64) (ht : tn < 1024) :
    Calls Try.prog 23 #[.string b, .int .i64 k, .int .i64 tn] w fun e w' => e = .returned (.tuple #[.string (renB b k tn), .int .i64 0]) ∧ Fr w w' (fun _ => False) := by
  have AC := hid (fun w => asked_calls w b k 64 (by unfold maxLen; omega))
  rw [askE_in hs (by omega)] at AC
  have BC := hid (fun w => block_yes w tn (by unfold Bk; omega))
  have i1 : (0 : Int) ≤ 2 * (k : Int) := by omega
  have i2 : 2 * (k : Int) ≤ (b.size : Int) := by omega
  have i3 : (0 : Int) ≤ 2 * (k : Int) + 2 := by omega
  have i4 : 2 * (k : Int) + 2 ≤ (b.size : Int) := by omega
  have t1 : (2 * (k : Int)).toNat = 2 * k := by omega
  have t2 : (2 * (k : Int) + 2).toNat = 2 * k + 2 := by omega
  have w1 : IntKind.i64.wrap (2 * (k : Int)) = 2 * (k : Int) := IntWalk.i64_in _ (by omega)
  have w3 : IntKind.i64.wrap (2 * (k : Int) + 2) = 2 * (k : Int) + 2 := IntWalk.i64_in _ (by omega)
  have z1 : (b.extract 0 (2 * k)).size = 2 * k := by rw [ByteArray.size_extract]; omega
  have z2 : (b.extract (2 * k + 2) b.size).size = b.size - (2 * k + 2) := by rw [ByteArray.size_extract]; omega
  have HP : Hid (renB b k tn = b.extract 0 (2 * k) ++ ⟨(fixB tn 2).toArray⟩ ++ b.extract (2 * k + 2) b.size) := hid rfl
  rw [HP.out]
  generalize q1 : b.extract 0 (2 * k) = p1 at *
  generalize q2 : b.extract (2 * k + 2) b.size = p2 at *
  have s1 : ¬ 9223372036854775807 < p1.size + 2 := by omega
  have s2 : ¬ 9223372036854775807 < p1.size + 2 + p2.size := by omega
  have d2 : (0 : Int) ≤ (tn : Int) := by omega
  have y0 := fix_byte tn 0
  have y1 := fix_byte tn 1
  rw [show (2 : Int) ^ (8 * 0) = 1 from rfl, Int.ediv_one] at y0
  rw [show (2 : Int) ^ (8 * 1) = 256 from rfl] at y1
  have hcv0 : ∀ W : World, (convert 64 9 (.slice (some ⟨W.heap.size, 0, none⟩) 2 2)).run Try.prog (W.alloc (.cells #[.int .u8 ((by8 tn 0).toNat : Int), .int .u8 ((by8 tn 1).toNat : Int)] 5)) = .ok (.string ⟨#[by8 tn 0, by8 tn 1]⟩) (W.alloc (.cells #[.int .u8 ((by8 tn 0).toNat : Int), .int .u8 ((by8 tn 1).toNat : Int)] 5)) := fun W => by
    rw [run_convert_bytes_arg _ 64 5 Try.underlying64 Try.underlying5 W.heap.size 0 2 2 [((by8 tn 0).toNat : Int), ((by8 tn 1).toNat : Int)] rfl (fun i hi => by
      rw [Nat.zero_add]
      refine (cell_blk (alloc_new W _) i).trans ?_
      rcases (show i = 0 ∨ i = 1 by omega) with rfl | rfl <;> rfl) 9 Try.underlying9]
    unfold strOfNums
    simp
  have hcv1 : ∀ W : World, (convert 64 9 (.slice (some ⟨W.heap.size, 0, none⟩) 2 2)).run Try.prog (W.alloc (.cells #[.int .u8 ((by8 tn 0).toNat : Int), .int .u8 ((by8 tn 1).toNat : Int)] 5)).drew = .ok (.string ⟨#[by8 tn 0, by8 tn 1]⟩) (W.alloc (.cells #[.int .u8 ((by8 tn 0).toNat : Int), .int .u8 ((by8 tn 1).toNat : Int)] 5)).drew := fun W => by
    rw [run_convert_bytes_arg _ 64 5 Try.underlying64 Try.underlying5 W.heap.size 0 2 2 [((by8 tn 0).toNat : Int), ((by8 tn 1).toNat : Int)] rfl (fun i hi => by
      rw [Nat.zero_add]
      refine (cell_blk (alloc_new W _) i).trans ?_
      rcases (show i = 0 ∨ i = 1 by omega) with rfl | rfl <;> rfl) 9 Try.underlying9]
    unfold strOfNums
    simp
  have HF : Hid ((⟨(fixB tn 2).toArray⟩ : ByteArray) = ⟨#[by8 tn 0, by8 tn 1]⟩) := hid rfl
  rw [HF.out]
  generalize by8 tn 0 = x0 at *
  generalize by8 tn 1 = x1 at *
  clear hs z1 z2
  go_enter Try.func23, Try.ntmps23
  go_wp2_with (first | (go_at_call 38; refine (AC.out _).mono ?_; rintro e w' ⟨rfl, rfl⟩) | (go_at_call 37; refine (BC.out _).mono ?_; rintro e w' ⟨rfl, rfl⟩))
  go_region_with (fail)
  all_goals
    go_wp2
    go_ret2
    exact ⟨rfl, by first | exact ((Fr.refl w _).alloc _).drew | exact ((Fr.refl w _).drew).alloc _⟩
end Go.Proofs.Ytmbfcnacoijmaaa.Cw
