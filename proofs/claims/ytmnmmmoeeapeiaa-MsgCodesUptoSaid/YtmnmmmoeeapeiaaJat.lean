/- What the statements of layer 20 ask first: an entry, and a log of two. Own work. -/
import Derived.Test.YtmnmmmoeeapeiaaJar
import Derived.Test.YtmnmmmoeeapeiaaJas
namespace Go.Proofs.Ytmnmmmoeeapeiaa.Cw
open Go.RowKit
set_option linter.unusedVariables false
set_option linter.unusedSimpArgs false

theorem spk_bytes : enB ((1 : Nat) : Int) ((2 : Nat) : Int) ((3 : Nat) : Int) 1 0 0 ⟨#[47, 97]⟩ ⟨#[]⟩ ⟨#[]⟩ = [1, 2, 3, 2, 0, 0, 2, 47, 97, 0, 0] := by
  show uv 1 ++ uv 2 ++ uv 3 ++ uv 2 ++ uv 0 ++ uv 0 ++ (uv 2 ++ [47, 97]) ++ (uv 0 ++ []) ++ (uv 0 ++ []) = _
  rw [uv_small 1 (by decide), uv_small 2 (by decide), uv_small 3 (by decide), uv_small 0 (by decide)]
  rfl
theorem spk_rt : Rt 1 2 3 ⟨#[47, 97]⟩ ⟨#[]⟩ ⟨#[]⟩ := by unfold Rt; decide
theorem spk_enc (w : World) : Calls Try.prog 34 #[enV 1 2 3 1 0 0 ⟨#[47, 97]⟩ ⟨#[]⟩ ⟨#[]⟩] w fun e w' => e = .returned (.tuple #[.string ⟨#[1, 2, 3, 2, 0, 0, 2, 47, 97, 0, 0]⟩, .int .i64 0]) ∧ Fr w w' (fun _ => False) := by
  have h := encode_yes w 1 2 3 1 0 0 ⟨#[47, 97]⟩ ⟨#[]⟩ ⟨#[]⟩ spk_rt (by unfold i64; decide) (by unfold i64; decide) (by unfold i64; decide)
  rw [spk_bytes] at h
  exact h
theorem spk_dev : deV 1 2 3 2 0 0 ⟨#[47, 97]⟩ ⟨#[]⟩ ⟨#[]⟩ ⟨#[1, 2, 3, 2, 0, 0, 2, 47, 97, 0, 0, 120]⟩ ⟨#[120]⟩ 0 = .tuple #[enV 1 2 3 1 0 0 ⟨#[47, 97]⟩ ⟨#[]⟩ ⟨#[]⟩, .int .i64 11, .int .i64 0] := by
  unfold deV
  rw [if_pos rfl, if_pos (show Rt ((1 : Nat) : Int) ((2 : Nat) : Int) ((3 : Nat) : Int) ⟨#[47, 97]⟩ ⟨#[]⟩ ⟨#[]⟩ from spk_rt)]
  rfl
theorem spk_dec (w : World) : Calls Try.prog 46 #[.string ⟨#[1, 2, 3, 2, 0, 0, 2, 47, 97, 0, 0, 120]⟩] w fun e w' => e = .returned (.tuple #[enV 1 2 3 1 0 0 ⟨#[47, 97]⟩ ⟨#[]⟩ ⟨#[]⟩, .int .i64 11, .int .i64 0]) ∧ Fr w w' (fun _ => False) := by
  have h := decode_calls w ⟨#[1, 2, 3, 2, 0, 0, 2, 47, 97, 0, 0, 120]⟩ (by decide) 1 2 3 2 0 0 ⟨#[47, 97]⟩ ⟨#[]⟩ ⟨#[]⟩ 0 0 0 0 0 0 0 0 0
    ⟨#[2, 3, 2, 0, 0, 2, 47, 97, 0, 0, 120]⟩ ⟨#[3, 2, 0, 0, 2, 47, 97, 0, 0, 120]⟩ ⟨#[2, 0, 0, 2, 47, 97, 0, 0, 120]⟩ ⟨#[0, 0, 2, 47, 97, 0, 0, 120]⟩ ⟨#[0, 2, 47, 97, 0, 0, 120]⟩ ⟨#[2, 47, 97, 0, 0, 120]⟩ ⟨#[0, 0, 120]⟩ ⟨#[0, 120]⟩ ⟨#[120]⟩
    0 0 0 0 0 0 0 0 0 (by kernel_rfl) (by kernel_rfl) (by kernel_rfl) (by kernel_rfl) (by kernel_rfl) (by kernel_rfl) (by kernel_rfl) (by kernel_rfl) (by kernel_rfl)
  rw [spk_dev] at h
  exact h

def spkE : En := ⟨1, 2, 3, 1, 0, 0, ⟨#[47, 97]⟩, ⟨#[]⟩, ⟨#[]⟩⟩
end Go.Proofs.Ytmnmmmoeeapeiaa.Cw

/- Are two entries the same; slices of entries in memory. Own work. -/
namespace Go.Proofs.Ytmnmmmoeeapeiaa.Cw
open Go.RowKit
set_option linter.unusedVariables false
set_option linter.unusedSimpArgs false

def eq9 (a0 a1 a2 a3 a4 a5 : Int) (p0 p1 p2 : ByteArray) (b0 b1 b2 b3 b4 b5 : Int) (q0 q1 q2 : ByteArray) : Bool := decide (a0 = b0 ∧ a1 = b1 ∧ a2 = b2 ∧ a3 = b3 ∧ a4 = b4 ∧ a5 = b5 ∧ p0 = q0 ∧ p1 = q1 ∧ p2 = q2)
theorem eq9_iff {a0 a1 a2 a3 a4 a5 : Int} {p0 p1 p2 : ByteArray} {b0 b1 b2 b3 b4 b5 : Int} {q0 q1 q2 : ByteArray} : eq9 a0 a1 a2 a3 a4 a5 p0 p1 p2 b0 b1 b2 b3 b4 b5 q0 q1 q2 = true ↔ (a0 = b0 ∧ a1 = b1 ∧ a2 = b2 ∧ a3 = b3 ∧ a4 = b4 ∧ a5 = b5 ∧ p0 = q0 ∧ p1 = q1 ∧ p2 = q2) := by unfold eq9; exact decide_eq_true_iff
theorem eq9_yes (a0 a1 a2 a3 a4 a5 : Int) (p0 p1 p2 : ByteArray) : eq9 a0 a1 a2 a3 a4 a5 p0 p1 p2 a0 a1 a2 a3 a4 a5 p0 p1 p2 = true := eq9_iff.2 ⟨rfl, rfl, rfl, rfl, rfl, rfl, rfl, rfl, rfl⟩
theorem ba_toList_inj {p q : ByteArray} (h : p.toList = q.toList) : p = q := by
  rw [ByteArray.toList_eq, ByteArray.toList_eq] at h
  apply ByteArray.ext
  exact Array.toList_inj.1 h
def eq6 (a3 a4 a5 : Int) (p0 p1 p2 : ByteArray) (b3 b4 b5 : Int) (q0 q1 q2 : ByteArray) : Bool := decide (a3 = b3 ∧ a4 = b4 ∧ a5 = b5 ∧ p0 = q0 ∧ p1 = q1 ∧ p2 = q2)
theorem eq6_iff {a3 a4 a5 : Int} {p0 p1 p2 : ByteArray} {b3 b4 b5 : Int} {q0 q1 q2 : ByteArray} : eq6 a3 a4 a5 p0 p1 p2 b3 b4 b5 q0 q1 q2 = true ↔ (a3 = b3 ∧ a4 = b4 ∧ a5 = b5 ∧ p0 = q0 ∧ p1 = q1 ∧ p2 = q2) := by unfold eq6; exact decide_eq_true_iff
set_option maxRecDepth 100000 in
set_option maxHeartbeats 1600000 in
theorem eqOp (d : Nat) (a3 a4 a5 : Int) (p0 p1 p2 : ByteArray) (b3 b4 b5 : Int) (q0 q1 q2 : ByteArray) (w : World) : (Op.equalIn (d + 2) 50 (.agg #[.int .i64 a3, .int .i64 a4, .int .i64 a5, .string p0, .string p1, .string p2]) (.agg #[.int .i64 b3, .int .i64 b4, .int .i64 b5, .string q0, .string q1, .string q2])).run Try.prog w = .ok (eq6 a3 a4 a5 p0 p1 p2 b3 b4 b5 q0 q1 q2) w := by
  have u3 := Try.underlying3
  have z3 := Try.sizeOf3
  have a33 := Try.isAgg3
  have u9 := Try.underlying9
  have z9 := Try.sizeOf9
  have a99 := Try.isAgg9
  have hS2 : Try.prog.underlying 50 = some (.struct (Try.prog.fieldsOf 50)) := by kernel_rfl
  have hp2 : Try.prog.stoodInHeld 50 = false := by kernel_rfl
  rw [show d + 2 = (d + 1) + 1 from rfl, run_equalIn_agg w (d + 1) 50 _ _ hS2 hp2]
  simp only [Program.fieldsOf, Try.underlying50]
  go_simp
  by_cases h : a3 = b3 ∧ a4 = b4 ∧ a5 = b5 ∧ p0 = q0 ∧ p1 = q1 ∧ p2 = q2
  · obtain ⟨rfl, rfl, rfl, rfl, rfl, rfl⟩ := h
    rw [show eq6 a3 a4 a5 p0 p1 p2 a3 a4 a5 p0 p1 p2 = true from eq6_iff.2 ⟨rfl, rfl, rfl, rfl, rfl, rfl⟩]
    simp
  · rw [show eq6 a3 a4 a5 p0 p1 p2 b3 b4 b5 q0 q1 q2 = false from decide_eq_false h]
    repeat' split
    all_goals first
      | rfl
      | (exfalso; apply h; refine ⟨?_, ?_, ?_, ?_, ?_, ?_⟩ <;> first | assumption | (apply ba_toList_inj; assumption))
set_option maxRecDepth 100000 in
set_option maxHeartbeats 1600000 in
theorem eqEn (a0 a1 a2 a3 a4 a5 : Int) (p0 p1 p2 : ByteArray) (b0 b1 b2 b3 b4 b5 : Int) (q0 q1 q2 : ByteArray) (w : World) : (Op.equalIn 10000 52 (.agg #[.int .i64 a0, .int .i64 a1, .int .i64 a2, .int .i64 a3, .int .i64 a4, .int .i64 a5, .string p0, .string p1, .string p2]) (.agg #[.int .i64 b0, .int .i64 b1, .int .i64 b2, .int .i64 b3, .int .i64 b4, .int .i64 b5, .string q0, .string q1, .string q2])).run Try.prog w = .ok (eq9 a0 a1 a2 a3 a4 a5 p0 p1 p2 b0 b1 b2 b3 b4 b5 q0 q1 q2) w := by
  have u3 := Try.underlying3
  have z3 := Try.sizeOf3
  have a33 := Try.isAgg3
  have hS : Try.prog.underlying 52 = some (.struct (Try.prog.fieldsOf 52)) := by kernel_rfl
  have hp : Try.prog.stoodInHeld 52 = false := by kernel_rfl
  have z24 := Try.sizeOf50
  have a24 := Try.isAgg50
  have hA := fun w => eqOp 9997 a3 a4 a5 p0 p1 p2 b3 b4 b5 q0 q1 q2 w
  rw [show (10000 : Nat) = 9999 + 1 from rfl, run_equalIn_agg w 9999 52 _ _ hS hp]
  simp only [Program.fieldsOf, Try.underlying52]
  go_simp
  by_cases h : a0 = b0 ∧ a1 = b1 ∧ a2 = b2 ∧ a3 = b3 ∧ a4 = b4 ∧ a5 = b5 ∧ p0 = q0 ∧ p1 = q1 ∧ p2 = q2
  · obtain ⟨rfl, rfl, rfl, rfl, rfl, rfl, rfl, rfl, rfl⟩ := h
    rw [eq9_yes, show eq6 a3 a4 a5 p0 p1 p2 a3 a4 a5 p0 p1 p2 = true from eq6_iff.2 ⟨rfl, rfl, rfl, rfl, rfl, rfl⟩]
    simp
  · rw [show eq9 a0 a1 a2 a3 a4 a5 p0 p1 p2 b0 b1 b2 b3 b4 b5 q0 q1 q2 = false from decide_eq_false h]
    by_cases h6 : eq6 a3 a4 a5 p0 p1 p2 b3 b4 b5 q0 q1 q2 = true
    · have h7 := eq6_iff.1 h6
      rw [h6]
      repeat' split
      all_goals first
        | rfl
        | (exfalso; apply h; refine ⟨?_, ?_, ?_, h7⟩ <;> assumption)
        | simp_all
    · rw [Bool.not_eq_true] at h6
      rw [h6]
      repeat' split
      all_goals first
        | rfl
        | simp_all
/-- Entries in memory, one behind the other. -/
def EsAt (w : World) (b off : Nat) (l : List En) : Prop := ∀ i x, l[i]? = some x → ∀ j u, x.cells[j]? = some u → w.cell? ⟨b, off + i * 9 + j, none⟩ = some u
theorem EsAt.fr {w w' : World} {b off : Nat} {l : List En} (h : EsAt w b off l) (hf : Fr w w' (fun _ => False)) : EsAt w' b off l := fun i x hx j u hu => cell_fr (h i x hx j u hu) hf
/-- A slice of these entries. -/
def Sv (w : World) (v : Value) (l : List En) : Prop := ∃ A cap, v = .slice A l.length cap ∧ l.length ≤ cap ∧ cap ≤ maxLen ∧ (l ≠ [] → ∃ b off, A = some ⟨b, off, none⟩ ∧ b < w.heap.size ∧ EsAt w b off l)
theorem Sv.fr {w w' : World} {v : Value} {l : List En} (h : Sv w v l) (hf : Fr w w' (fun _ => False)) : Sv w' v l := by
  obtain ⟨A, cap, h1, h2, h3, h4⟩ := h
  refine ⟨A, cap, h1, h2, h3, fun hn => ?_⟩
  obtain ⟨b, off, h5, h6, h7⟩ := h4 hn
  exact ⟨b, off, h5, Nat.lt_of_lt_of_le h6 hf.size, h7.fr hf⟩
end Go.Proofs.Ytmnmmmoeeapeiaa.Cw
