/- The reference's Split. Own work. -/
import Derived.Test.YthnigmbdacjlnaaCkF
namespace Go.Proofs.Ythnigmbdacjlnaa.Cw
open Go.RowKit
set_option linter.unusedVariables false
set_option linter.unusedSimpArgs false

theorem split_calls (w : World) (v : Value) (bs : List ByteArray) (h : Tv w v bs) :
    Calls Try.prog 9 #[v] w fun e w' => ∃ u, e = .returned (.tuple #[u, .int .i64 (splE bs)]) ∧ Cv w' u (splL bs) ∧ Fr w w' (fun _ => False) := by
  by_cases hb : bs.length < 1 ∨ 1024 < bs.length
  · have he : splE bs = 1 := if_pos hb
    unfold splL
    rw [he, if_neg (by decide)]
    exact (split_len w v bs h hb).mono fun _ w' q => ⟨_, q.1, Cv.nil w', q.2⟩
  · by_cases hall : ∀ b ∈ bs, b.size = 128
    · have he : splE bs = 0 := by
        unfold splE
        rw [if_neg hb, if_pos hall]
      unfold splL
      rw [he, if_pos rfl]
      exact split_ok w v bs h hb hall
    · have he : splE bs = 4 := by
        unfold splE
        rw [if_neg hb, if_neg hall]
      unfold splL
      rw [he, if_neg (by decide)]
      exact (split_form w v bs h hb hall).mono fun _ w' q => ⟨_, q.1, Cv.nil w', q.2⟩

theorem flat_drop {α : Type} (f : α → List UInt8) (k : Nat) : ∀ (i : Nat) (l : List α), (∀ x ∈ l, (f x).length = k) → (l.flatMap f).drop (k * i) = (l.drop i).flatMap f
  | 0, l, _ => by simp
  | i + 1, [], _ => by simp
  | i + 1, x :: r, h => by
    have h1 := h x (List.mem_cons_self)
    rw [List.flatMap_cons, List.drop_succ_cons, Nat.mul_succ, Nat.add_comm, ← List.drop_drop, List.drop_left' h1]
    exact flat_drop f k i r (fun y hy => h y (List.mem_cons_of_mem _ hy))
theorem flat_take {α : Type} (f : α → List UInt8) (k : Nat) : ∀ (i : Nat) (l : List α), (∀ x ∈ l, (f x).length = k) → (l.flatMap f).take (k * i) = (l.take i).flatMap f
  | 0, l, _ => by simp
  | i + 1, [], _ => by simp
  | i + 1, x :: r, h => by
    have h1 := h x (List.mem_cons_self)
    rw [List.flatMap_cons, List.take_succ_cons, List.flatMap_cons, Nat.mul_succ, Nat.add_comm, ← h1, List.take_append, h1]
    rw [List.take_of_length_le (by omega), show k + k * i - k = k * i by omega, flat_take f k i r (fun y hy => h y (List.mem_cons_of_mem _ hy))]
theorem jn_part {bs : List ByteArray} (h : ∀ b ∈ bs, b.size = 128) {j A m : Nat} (hA : A = 1024 * j) (hm : m = min 8 (bs.length - 8 * j)) : (jn bs).extract A (A + 128 * m) = jn (part bs j) := by
  have h2 : ∀ x ∈ bs, x.data.toList.length = 128 := fun x hx => by rw [Array.length_toList]; exact h x hx
  apply ByteArray.ext
  rw [ByteArray.data_extract]
  apply Array.toList_inj.1
  rw [Array.toList_extract]
  show ((bs.flatMap (·.data.toList)).toArray.toList.drop A).take (A + 128 * m - A) = ((part bs j).flatMap (·.data.toList)).toArray.toList
  rw [List.toList_toArray, List.toList_toArray, hA, show 1024 * j = 128 * (8 * j) by omega, flat_drop _ 128 _ _ h2, show 128 * (8 * j) + 128 * m - 128 * (8 * j) = 128 * m by omega, flat_take _ 128 _ _ (fun x hx => h2 x (List.mem_of_mem_drop hx))]
  congr 1
  unfold part
  rw [hm]
  rcases Nat.le_total 8 (bs.length - 8 * j) with h3 | h3
  · rw [Nat.min_eq_left h3]
  · rw [Nat.min_eq_right h3, List.take_of_length_le (by rw [List.length_drop]; omega), List.take_of_length_le (by rw [List.length_drop]; omega)]
theorem jn_snoc (l : List ByteArray) (x : ByteArray) : jn (l ++ [x]) = jn l ++ x := by
  apply ByteArray.ext
  rw [ByteArray.data_append]
  apply Array.toList_inj.1
  unfold jn
  simp
theorem jn_take {l : List ByteArray} {i : Nat} {x : ByteArray} (hx : l[i]? = some x) : jn (l.take (i + 1)) = jn (l.take i) ++ x := by
  obtain ⟨hi, e⟩ := List.getElem?_eq_some_iff.1 hx
  rw [List.take_succ_eq_append_getElem hi, jn_snoc, e]
theorem mn_in {N j : Nat} (h1 : 1 ≤ N) (h2 : N ≤ 1024) : mn (N : Int) (j : Int) = ((min 8 (N - 8 * j) : Nat) : Int) := by
  unfold mn
  split
  · omega
  · split <;> omega

theorem info_rck : (Try.prog.info? 35).map (fun i => (i.zero, i.size, i.bytes)) = some (some (.agg #[.int .i64 0, .int .i64 0, .int .i64 0, .string ByteArray.empty, .int .i64 0]), 5, 48) := by kernel_rfl

set_option maxRecDepth 100000 in
set_option maxHeartbeats 1600000 in
theorem rsplit_len (w : World) (v : Value) (bs : List ByteArray) (h : Tv w v bs) (hb : bs.length < 1 ∨ 1024 < bs.length) :
    Calls Try.prog 10 #[v] w fun e w' => e = .returned (.tuple #[.slice none 0 0, .int .i64 1]) ∧ Fr w w' (fun _ => False) := by
  obtain ⟨A, cap, rfl, h1, h2, h3⟩ := h
  simp only [List.length_map] at h1 ⊢
  clear h3
  have hN : bs.length ≤ 9223372036854775807 := by unfold maxLen at h2; omega
  generalize bs.length = N at *
  clear h1 h2
  by_cases c1 : N < 1
  · obtain rfl : N = 0 := by omega
    go_enter Try.func10, Try.ntmps10
    go_wp2
    go_ret2
    exact ⟨rfl, Fr.refl w _⟩
  · have c2 : 1024 < N := by omega
    have d1 : decide ((N : Int) < 1) = false := decide_eq_false (by omega)
    have d2 : decide ((1024 : Int) < N) = true := decide_eq_true (by omega)
    clear hb
    go_enter Try.func10, Try.ntmps10
    go_wp2
    go_ret2
    exact ⟨rfl, Fr.refl w _⟩

set_option maxRecDepth 100000 in
set_option maxHeartbeats 3200000 in
theorem rsplit_form (w : World) (v : Value) (bs : List ByteArray) (h : Tv w v bs) (hb : ¬ (bs.length < 1 ∨ 1024 < bs.length)) (hf : ¬ ∀ b ∈ bs, b.size = 128) :
    Calls Try.prog 10 #[v] w fun e w' => e = .returned (.tuple #[.slice none 0 0, .int .i64 4]) ∧ Fr w w' (fun _ => False) := by
  obtain ⟨A, cap, rfl, h1, h2, h3⟩ := h
  simp only [List.length_map] at h1 ⊢
  obtain ⟨b, off, rfl, hbl, hc⟩ := h3 (fun e => by rw [List.map_eq_nil_iff.1 e] at hb; simp at hb)
  have HA := hid hc
  have HX := hid (fun (i : Nat) (hi : i < bs.length) => (⟨_, List.getElem?_eq_getElem hi⟩ : ∃ x, bs[i]? = some x))
  have HE := hid (fun (h : ∀ y ∈ bs.take bs.length, y.size = 128) => (by rw [List.take_length] at h; exact hf h : False))
  clear h3 hc hf h2
  generalize bs.length = N at *
  have d1 : decide ((N : Int) < 1) = false := decide_eq_false (by omega)
  have d2 : decide ((1024 : Int) < N) = false := decide_eq_false (by omega)
  have d3 : decide (1024 < N) = false := decide_eq_false (by omega)
  have d4 : decide (N < 1) = false := decide_eq_false (by omega)
  have d6 : decide (N = 0) = false := decide_eq_false (by omega)
  go_enter Try.func10, Try.ntmps10
  go_wp2_with fail
  go_loopw [4, 22] (fun s t wr => ∃ i : Nat, i ≤ N ∧ t = .int .i64 i ∧ (∀ y ∈ bs.take i, y.size = 128) ∧ s = .string (jn (bs.take i)) ∧ Fr w wr (fun _ => False)) (fun _ t _ => N - (intOf t).toNat)
  case atStart => exact ⟨0, by omega, rfl, by intro y hy; simp at hy, by simp [jn], Fr.refl _ _⟩
  case round =>
    obtain ⟨i, hi, rfl, hs, rfl, hf⟩ := hrel
    by_cases hlt : i < N
    · obtain ⟨x, hx⟩ := HX.out i hlt
      have a0 := cell_keep (HA.out i _ (map_some hx)) hf
      have HF := hid hf
      by_cases hsz : x.size = 128
      · have HT := hid (all_step hx hsz hs)
        have HJ := hid (jn_take hx)
        have hss : (jn (bs.take i)).size ≤ 131072 := by rw [jn_size hs, List.length_take]; omega
        have hss2 : ¬ 9223372036854775807 < (jn (bs.take i)).size + x.size := by omega
        generalize jn (bs.take i) = L at *
        have e1 : ((x.size : Int) != 128) = false := by rw [hsz]; rfl
        clear hs hx hf hsz
        go_wp2_with fail
        go_roundw
        case rel => exact ⟨i + 1, by omega, by go_num, HT.out, by rw [HJ.out], HF.out⟩
        case measure => simp [intOf]; omega
      · have e1 : ((x.size : Int) != 128) = true := bne_iff_ne.2 (by omega)
        have e2 : ((x.size : Int) == 128) = false := beq_eq_false_iff_ne.2 (by omega)
        clear hs hx hf hsz
        go_wp2_with fail
        go_ret2
        exact ⟨rfl, HF.out⟩
    · have he : i = N := by omega
      subst he
      exact (HE.out hs).elim
end Go.Proofs.Ythnigmbdacjlnaa.Cw
