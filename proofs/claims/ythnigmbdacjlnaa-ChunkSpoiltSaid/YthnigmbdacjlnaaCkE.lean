/- The chunks of a snapshot: plain, and the program's Split. Own work. -/
import Derived.Test.YthnigmbdacjlnaaCkD
import Derived.Test.YthnigmbdacjlnaaSh
import Derived.Deep.AppendLies
namespace Go.Proofs.Ythnigmbdacjlnaa.Cw
open Go.RowKit
set_option linter.unusedVariables false
set_option linter.unusedSimpArgs false

def part (bs : List ByteArray) (i : Nat) : List ByteArray := (bs.drop (8 * i)).take 8
def ckAt (bs : List ByteArray) (i : Nat) : Ck := ⟨(crc (jn bs).data.toList : Nat), (bs.length : Nat), (i : Nat), jn (part bs i), (crc (jn (part bs i)).data.toList : Nat)⟩
/-- The chunks of a snapshot. -/
def spl (bs : List ByteArray) : List Ck := (List.range ((bs.length + 7) / 8)).map (ckAt bs)
def splE (bs : List ByteArray) : Int := if bs.length < 1 ∨ 1024 < bs.length then 1 else if ∀ b ∈ bs, b.size = 128 then 0 else 4
def splL (bs : List ByteArray) : List Ck := if splE bs = 0 then spl bs else []
theorem spl_len (bs : List ByteArray) : (spl bs).length = (bs.length + 7) / 8 := by simp [spl]
theorem spl_get {bs : List ByteArray} {i : Nat} (h : i < (bs.length + 7) / 8) : (spl bs)[i]? = some (ckAt bs i) := by
  unfold spl
  rw [List.getElem?_map, List.getElem?_range h]
  rfl
theorem spl_take {bs : List ByteArray} {i : Nat} (h : i < (bs.length + 7) / 8) : (spl bs).take (i + 1) = (spl bs).take i ++ [ckAt bs i] := by
  obtain ⟨h1, h2⟩ := List.getElem?_eq_some_iff.1 (spl_get h)
  rw [List.take_succ_eq_append_getElem h1, h2]
theorem part_len (bs : List ByteArray) (i : Nat) : (part bs i).length = min 8 (bs.length - 8 * i) := by
  unfold part
  rw [List.length_take, List.length_drop]
theorem part_size {bs : List ByteArray} (h : ∀ b ∈ bs, b.size = 128) (i : Nat) : (jn (part bs i)).size = (part bs i).length * 128 := jn_size (fun x hx => h x (List.mem_of_mem_drop (List.mem_of_mem_take hx)))

theorem join_calls (w : World) (b off c : Nat) (l : List ByteArray) (n : Nat) (hn : n = l.length) (hc : ∀ i x, l[i]? = some x → w.cell? ⟨b, off + i, none⟩ = some (.string x)) (hb : b < w.heap.size) (hcap : l.length ≤ c) (hl : l.length ≤ 100000) (hs : (jn l).size ≤ 140737488355328) :
    Calls Try.prog 24 #[.slice (some ⟨b, off, none⟩) n c, .string ⟨#[]⟩] w fun e w' => e = .returned (.string (jn l)) ∧ Fr w w' (fun _ => False) := by
  subst hn
  refine (Sh.join b off c l ⟨#[]⟩ w hc hb (by omega) hcap ?_).mono ?_
  · rw [join_jn, Array.length_toList]
    exact hs
  · rintro e w' ⟨rfl, h⟩
    refine ⟨?_, Fr.of_below h⟩
    rw [join_jn]

theorem info_ck : (Try.prog.info? 24).map (fun i => (i.zero, i.size, i.bytes)) = some (some (.agg #[.int .i64 0, .int .i64 0, .int .i64 0, .string ByteArray.empty, .int .i64 0]), 5, 48) := by kernel_rfl

set_option maxRecDepth 100000 in
set_option maxHeartbeats 1600000 in
theorem split_len (w : World) (v : Value) (bs : List ByteArray) (h : Tv w v bs) (hb : bs.length < 1 ∨ 1024 < bs.length) :
    Calls Try.prog 9 #[v] w fun e w' => e = .returned (.tuple #[.slice none 0 0, .int .i64 1]) ∧ Fr w w' (fun _ => False) := by
  obtain ⟨A, cap, rfl, h1, h2, h3⟩ := h
  simp only [List.length_map] at h1 ⊢
  clear h3
  have hN : bs.length ≤ 9223372036854775807 := by unfold maxLen at h2; omega
  generalize bs.length = N at *
  clear h1 h2
  by_cases c1 : N < 1
  · obtain rfl : N = 0 := by omega
    go_enter Try.func9, Try.ntmps9
    go_wp2
    go_ret2
    exact ⟨rfl, Fr.refl w _⟩
  · have c2 : 1024 < N := by omega
    have d1 : decide ((N : Int) < 1) = false := decide_eq_false (by omega)
    have d2 : decide ((1024 : Int) < N) = true := decide_eq_true (by omega)
    clear hb
    go_enter Try.func9, Try.ntmps9
    go_wp2
    go_ret2
    exact ⟨rfl, Fr.refl w _⟩

theorem all_step {α : Type} {p : α → Prop} {l : List α} {i : Nat} {x : α} (hx : l[i]? = some x) (hp : p x) (h : ∀ y ∈ l.take i, p y) : ∀ y ∈ l.take (i + 1), p y := by
  obtain ⟨hi, e⟩ := List.getElem?_eq_some_iff.1 hx
  intro y hy
  rw [List.take_succ_eq_append_getElem hi, List.mem_append, List.mem_singleton] at hy
  rcases hy with hy | hy
  · exact h y hy
  · rw [hy, e]; exact hp

set_option maxRecDepth 100000 in
set_option maxHeartbeats 3200000 in
theorem split_form (w : World) (v : Value) (bs : List ByteArray) (h : Tv w v bs) (hb : ¬ (bs.length < 1 ∨ 1024 < bs.length)) (hf : ¬ ∀ b ∈ bs, b.size = 128) :
    Calls Try.prog 9 #[v] w fun e w' => e = .returned (.tuple #[.slice none 0 0, .int .i64 4]) ∧ Fr w w' (fun _ => False) := by
  obtain ⟨A, cap, rfl, h1, h2, h3⟩ := h
  simp only [List.length_map] at h1 ⊢
  obtain ⟨b, off, rfl, hbl, hc⟩ := h3 (fun e => by rw [List.map_eq_nil_iff.1 e] at hb; simp at hb)
  have HA := hid hc
  have HX := hid (fun (i : Nat) (hi : i < bs.length) => (⟨_, List.getElem?_eq_getElem hi⟩ : ∃ x, bs[i]? = some x))
  have HE := hid (fun (h : ∀ y ∈ bs.take bs.length, y.size = 128) => (by rw [List.take_length] at h; exact hf h : False))
  clear h3 hc hf h2
  generalize bs.length = N at *
  have d1 : decide ((N : Int) < 1) = false := decide_eq_false (by omega)
  have d2 : decide ((1024 : Int) < N) = false := decide_eq_false (by omega)
  have d3 : decide (1024 < N) = false := decide_eq_false (by omega)
  have d4 : decide (N < 1) = false := decide_eq_false (by omega)
  have d5 : (N == 0) = false := beq_eq_false_iff_ne.2 (by omega)
  have d6 : decide (N = 0) = false := decide_eq_false (by omega)
  go_enter Try.func9, Try.ntmps9
  go_wp2_with fail
  go_loopw [23] (fun t wr => ∃ i : Nat, i ≤ N ∧ t = .int .i64 i ∧ (∀ y ∈ bs.take i, y.size = 128) ∧ Fr w wr (fun _ => False)) (fun t _ => N - (intOf t).toNat)
  case atStart => exact ⟨0, by omega, rfl, by intro y hy; simp at hy, Fr.refl _ _⟩
  case round =>
    obtain ⟨i, hi, rfl, hs, hf⟩ := hrel
    by_cases hlt : i < N
    · obtain ⟨x, hx⟩ := HX.out i hlt
      have a0 := cell_keep (HA.out i _ (map_some hx)) hf
      have HF := hid hf
      by_cases hsz : x.size = 128
      · have HT := hid (all_step hx hsz hs)
        have e1 : ((x.size : Int) != 128) = false := by rw [hsz]; rfl
        clear hs hx hf hsz
        go_wp2_with fail
        go_round
        case rel => exact ⟨i + 1, by omega, by go_num, HT.out, HF.out⟩
        case measure => simp [intOf]; omega
      · have e1 : ((x.size : Int) != 128) = true := bne_iff_ne.2 (by omega)
        have e2 : ((x.size : Int) == 128) = false := beq_eq_false_iff_ne.2 (by omega)
        clear hs hx hf hsz
        go_wp2_with fail
        go_ret2
        exact ⟨rfl, HF.out⟩
    · have he : i = N := by omega
      subst he
      exact (HE.out hs).elim
end Go.Proofs.Ythnigmbdacjlnaa.Cw
