/- Open, both. Own work. -/
import Derived.Test.YtmnmmmoeeapeiaaJaz
namespace Go.Proofs.Ytmnmmmoeeapeiaa.Cw
open Go.RowKit
set_option linter.unusedVariables false
set_option linter.unusedSimpArgs false

/-- What Open answers. -/
def opE (s : ByteArray) : Int := if s.size < 4 then 20 else if sealS (s.extract 0 (s.size - 4)) = s then 0 else 30
def opS (s : ByteArray) : ByteArray := if opE s = 0 then s.extract 0 (s.size - 4) else ⟨#[]⟩
theorem part_two (s : ByteArray) (n : Nat) (h : n ≤ s.size) : s.extract 0 n ++ s.extract n s.size = s := by
  apply ByteArray.ext
  rw [ByteArray.data_append, ByteArray.data_extract, ByteArray.data_extract]
  apply Array.toList_inj.1
  rw [Array.toList_append, Array.toList_extract, Array.toList_extract]
  show (s.data.toList.drop 0).take (n - 0) ++ (s.data.toList.drop n).take (s.size - n) = _
  rw [List.drop_zero, Nat.sub_zero, List.take_of_length_le (l := s.data.toList.drop n) (by rw [List.length_drop, Array.length_toList]; exact Nat.le_refl _), List.take_append_drop]
theorem app_cancel {a b c : ByteArray} (h : a ++ b = a ++ c) : b = c := by
  have h1 := congrArg (fun x => x.data.toList) h
  simp only [ByteArray.data_append, Array.toList_append] at h1
  apply ByteArray.ext
  exact Array.toList_inj.1 (List.append_cancel_left h1)
theorem seal_iff (s : ByteArray) (n : Nat) (h : n ≤ s.size) : (sealS (s.extract 0 n) = s) ↔ s.extract n s.size = ⟨(fixB (crc (s.extract 0 n).data.toList) 4).toArray⟩ := by
  unfold sealS
  constructor
  · intro e
    have := part_two s n h
    exact app_cancel (this.trans e.symm)
  · intro e
    have := part_two s n h
    rw [e] at this
    exact this
theorem open_short (w : World) (s : ByteArray) (h : s.size < 4) :
    Calls Try.prog 40 #[.string s] w fun e w' => e = .returned (.tuple #[.string ⟨#[]⟩, .int .i64 20]) ∧ Fr w w' (fun _ => False) := by
  have d1 : decide ((s.size : Int) - 4 < 0) = true := decide_eq_true (by omega)
  generalize hz : s.size = z at *
  go_enter Try.func40, Try.ntmps40
  go_wp2_with fail
  go_ret2
  exact ⟨rfl, Fr.refl w _⟩
theorem refOpen_short (w : World) (s : ByteArray) (h : s.size < 4) :
    Calls Try.prog 31 #[.string s] w fun e w' => e = .returned (.tuple #[.string ⟨#[]⟩, .int .i64 20]) ∧ Fr w w' (fun _ => False) := by
  have d1 : decide ((s.size : Int) - 4 < 0) = true := decide_eq_true (by omega)
  go_enter Try.func31, Try.ntmps31
  go_wp2_with fail
  go_ret2
  exact ⟨rfl, Fr.refl w _⟩
set_option maxRecDepth 100000 in
theorem open_long (w : World) (s : ByteArray) (n : Nat) (h : s.size = n + 4) (hs : s.size ≤ 70368744177664) :
    Calls Try.prog 40 #[.string s] w fun e w' => e = .returned (.tuple #[.string (opS s), .int .i64 (opE s)]) ∧ Fr w w' (fun _ => False) := by
  have hp : s.extract 0 n = s.extract 0 (s.size - 4) := by rw [h]; rfl
  have hsz : (s.extract 0 n).size ≤ maxLen := by
    rw [ByteArray.size_extract]
    unfold maxLen
    omega
  have SO := hid (fun (W : World) => sumOf_calls W (s.extract 0 n) hsz)
  have FC := hid (fun (W : World) => fixed23_calls W (crc (s.extract 0 n).data.toList) (crc_lt _))
  have HI := hid (seal_iff s n (by omega))
  have HE : Hid (opE s = if sealS (s.extract 0 n) = s then 0 else 30) := hid (by
    unfold opE
    rw [if_neg (by omega), hp])
  have HS : Hid (opE s = 0 → opS s = s.extract 0 n) := hid (fun e => by unfold opS; rw [if_pos e, hp])
  have HZ : Hid (¬ opE s = 0 → opS s = ⟨#[]⟩) := hid (fun e => if_neg e)
  have hn0 : (0 : Int) ≤ (n : Int) := by omega
  have d1 : decide ((n : Int) < 0) = false := decide_eq_false (by omega)
  clear hp hsz
  generalize sealS (s.extract 0 n) = T at *
  generalize crc (s.extract 0 n).data.toList = q at *
  generalize (⟨(fixB q 4).toArray⟩ : ByteArray) = fx at *
  generalize opE s = E at *
  generalize opS s = O at *
  have hE2 : s.extract n s.size = s.extract n (n + 4) := by rw [h]
  have hb1 : (n : Int) ≤ (s.size : Int) := by omega
  have hb2 : n ≤ s.size := by omega
  by_cases hq : s.extract n s.size = fx
  · have e7 : ((s.extract n s.size).toList == fx.toList) = true := by rw [hq]; simp
    have e8 : ((s.extract n (n + 4)).toList == fx.toList) = true := by rw [← hE2]; exact e7
    have HR : Hid (E = 0 ∧ O = s.extract 0 n) := hid (by
      have h1 := HE.out
      rw [if_pos (HI.out.2 hq)] at h1
      exact ⟨h1, HS.out h1⟩)
    have hs9 : n ≤ 70368744177664 := by omega
    have b1 : (n : Int) ≤ (n : Int) + 4 := by omega
    have b2 : (0 : Int) ≤ (n : Int) + 4 := by omega
    have b3 : n ≤ n + 4 := by omega
    have b4 : ((n : Int) + 4).toNat = n + 4 := by omega
    have b5 : ¬ ((n : Int) + 4 < (n : Int)) := by omega
    have b6 : ¬ ((n : Int) < 0) := by omega
    clear hq hE2 hs
    generalize hz : s.size = z at *
    go_enter Try.func40, Try.ntmps40
    go_wp2_with fail
    go_region_held3 (fun W => Fr w W (fun _ => False)) (first | assumption | exact Fr.refl w _ | exact (Fr.refl w _).drew | exact Fr.trans (by assumption) (by assumption))
      (first
        | (go_at_call 39; refine (SO.out _).mono ?_; rintro e w' ⟨rfl, rfl⟩)
        | (go_at_call 38; refine (FC.out _).mono ?_; rintro e w3 ⟨rfl, hf3⟩))
    all_goals
      go_wp2_with fail
      go_ret2
      exact ⟨by rw [HR.out.1, HR.out.2]; rfl, by assumption⟩
  · have e7 : ((s.extract n s.size).toList == fx.toList) = false := by
      rw [beq_eq_false_iff_ne]
      intro e
      apply hq
      rw [ByteArray.toList_eq, ByteArray.toList_eq] at e
      exact ByteArray.ext (Array.toList_inj.1 e)
    have e8 : ((s.extract n (n + 4)).toList == fx.toList) = false := by rw [← hE2]; exact e7
    have HR : Hid (E = 30 ∧ O = ⟨#[]⟩) := hid (by
      have h1 := HE.out
      rw [if_neg (fun e => hq (HI.out.1 e))] at h1
      exact ⟨h1, HZ.out (by rw [h1]; decide)⟩)
    have hs9 : n ≤ 70368744177664 := by omega
    have b1 : (n : Int) ≤ (n : Int) + 4 := by omega
    have b2 : (0 : Int) ≤ (n : Int) + 4 := by omega
    have b3 : n ≤ n + 4 := by omega
    have b4 : ((n : Int) + 4).toNat = n + 4 := by omega
    have b5 : ¬ ((n : Int) + 4 < (n : Int)) := by omega
    have b6 : ¬ ((n : Int) < 0) := by omega
    clear hq hE2 hs
    generalize hz : s.size = z at *
    go_enter Try.func40, Try.ntmps40
    go_wp2_with fail
    go_region_held3 (fun W => Fr w W (fun _ => False)) (first | assumption | exact Fr.refl w _ | exact (Fr.refl w _).drew | exact Fr.trans (by assumption) (by assumption))
      (first
        | (go_at_call 39; refine (SO.out _).mono ?_; rintro e w' ⟨rfl, rfl⟩)
        | (go_at_call 38; refine (FC.out _).mono ?_; rintro e w3 ⟨rfl, hf3⟩))
    all_goals
      go_wp2_with fail
      go_ret2
      exact ⟨by rw [HR.out.1, HR.out.2]; rfl, by assumption⟩

set_option maxRecDepth 100000 in
theorem refOpen_long (w : World) (s : ByteArray) (n : Nat) (h : s.size = n + 4) (hs : s.size ≤ 70368744177664) :
    Calls Try.prog 31 #[.string s] w fun e w' => e = .returned (.tuple #[.string (opS s), .int .i64 (opE s)]) ∧ Fr w w' (fun _ => False) := by
  have hp : s.extract 0 n = s.extract 0 (s.size - 4) := by rw [h]; rfl
  have hsz : (s.extract 0 n).size ≤ 70368744177664 := by
    rw [ByteArray.size_extract]
    omega
  have FC := hid (fun (W : World) => refSeal_calls W (s.extract 0 n) hsz)
  have HE : Hid (opE s = if sealS (s.extract 0 n) = s then 0 else 30) := hid (by
    unfold opE
    rw [if_neg (by omega), hp])
  have HS : Hid (opE s = 0 → opS s = s.extract 0 n) := hid (fun e => by unfold opS; rw [if_pos e, hp])
  have HZ : Hid (¬ opE s = 0 → opS s = ⟨#[]⟩) := hid (fun e => if_neg e)
  have hn0 : (0 : Int) ≤ (n : Int) := by omega
  have d1 : decide ((n : Int) < 0) = false := decide_eq_false (by omega)
  clear hp hsz
  generalize sealS (s.extract 0 n) = T at *
  generalize opE s = E at *
  generalize opS s = O at *
  have hb1 : (n : Int) ≤ (s.size : Int) := by omega
  have hb2 : n ≤ s.size := by omega
  have hs9 : n ≤ 70368744177664 := by omega
  have b1 : (n : Int) ≤ (n : Int) + 4 := by omega
  have b2 : (0 : Int) ≤ (n : Int) + 4 := by omega
  have b3 : n ≤ n + 4 := by omega
  by_cases hq : T = s
  · have e7 : (T.toList == s.toList) = true := by rw [hq]; simp
    have HR : Hid (E = 0 ∧ O = s.extract 0 n) := hid (by
      have h1 := HE.out
      rw [if_pos hq] at h1
      exact ⟨h1, HS.out h1⟩)
    clear hq hs
    generalize hz : s.size = z at *
    go_enter Try.func31, Try.ntmps31
    go_wp2_with (first
      | (go_at_call 30; refine (FC.out _).mono ?_; rintro e w3 ⟨rfl, hf3⟩))
    go_ret2
    exact ⟨by rw [HR.out.1, HR.out.2]; rfl, hf3⟩
  · have e7 : (T.toList == s.toList) = false := by
      rw [beq_eq_false_iff_ne]
      intro e
      apply hq
      rw [ByteArray.toList_eq, ByteArray.toList_eq] at e
      exact ByteArray.ext (Array.toList_inj.1 e)
    have HR : Hid (E = 30 ∧ O = ⟨#[]⟩) := hid (by
      have h1 := HE.out
      rw [if_neg hq] at h1
      exact ⟨h1, HZ.out (by rw [h1]; decide)⟩)
    clear hq hs
    generalize hz : s.size = z at *
    go_enter Try.func31, Try.ntmps31
    go_wp2_with (first
      | (go_at_call 30; refine (FC.out _).mono ?_; rintro e w3 ⟨rfl, hf3⟩))
    go_ret2
    exact ⟨by rw [HR.out.1, HR.out.2]; rfl, hf3⟩
theorem open_calls (w : World) (s : ByteArray) (hs : s.size ≤ 70368744177664) :
    Calls Try.prog 40 #[.string s] w fun e w' => e = .returned (.tuple #[.string (opS s), .int .i64 (opE s)]) ∧ Fr w w' (fun _ => False) := by
  by_cases h : s.size < 4
  · have he : opE s = 20 := if_pos h
    have ho : opS s = ⟨#[]⟩ := by unfold opS; rw [he]; rfl
    rw [he, ho]
    exact open_short w s h
  · exact open_long w s (s.size - 4) (by omega) hs
theorem refOpen_calls (w : World) (s : ByteArray) (hs : s.size ≤ 70368744177664) :
    Calls Try.prog 31 #[.string s] w fun e w' => e = .returned (.tuple #[.string (opS s), .int .i64 (opE s)]) ∧ Fr w w' (fun _ => False) := by
  by_cases h : s.size < 4
  · have he : opE s = 20 := if_pos h
    have ho : opS s = ⟨#[]⟩ := by unfold opS; rw [he]; rfl
    rw [he, ho]
    exact refOpen_short w s h
  · exact refOpen_long w s (s.size - 4) (by omega) hs
end Go.Proofs.Ytmnmmmoeeapeiaa.Cw

