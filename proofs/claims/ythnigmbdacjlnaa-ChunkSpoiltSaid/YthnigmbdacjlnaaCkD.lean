/- Slices of texts, of numbers, of chunks; plain comparisons; a chunk turned to the reference's. Own work. -/
import Derived.Test.YthnigmbdacjlnaaCkC
import Derived.Deep.MidRow
import Derived.Lib.Join
namespace Go.Proofs.Ythnigmbdacjlnaa.Cw
open Go.RowKit
set_option linter.unusedVariables false
set_option linter.unusedSimpArgs false

theorem cell_keep {w w' : World} {b o : Nat} {v : Value} (h : w.cell? ⟨b, o, none⟩ = some v) (hf : Fr w w' (fun _ => False)) : w'.cell? ⟨b, o, none⟩ = some v := by
  have hb : b < w.heap.size := by
    rcases Nat.lt_or_ge b w.heap.size with h1 | h1
    · exact h1
    · unfold World.cell? at h
      simp [Array.getElem?_eq_none h1] at h
  exact (World.cell?_of_block (hf.block b hb (fun x => x))).trans h
theorem ret_bool {x y : Bool} (h : x = y) : Ending.returned (.bool x) = .returned (.bool y) := by rw [h]
theorem Fr.of_below {w w' : World} (h : Below w.heap.size w w') : Fr w w' (fun _ => False) := ⟨h.os, h.tape, h.output, h.size, fun i hi _ => h.block i hi⟩

/-- A slice whose elements are these cells, one each. -/
def Ev (w : World) (v : Value) (l : List Value) : Prop := ∃ A cap, v = .slice A l.length cap ∧ l.length ≤ cap ∧ cap ≤ maxLen ∧ (l ≠ [] → ∃ b off, A = some ⟨b, off, none⟩ ∧ b < w.heap.size ∧ ∀ i x, l[i]? = some x → w.cell? ⟨b, off + i, none⟩ = some x)
theorem Ev.fr {w w' : World} {v : Value} {l : List Value} (h : Ev w v l) (hf : Fr w w' (fun _ => False)) : Ev w' v l := by
  obtain ⟨A, cap, h1, h2, h3, h4⟩ := h
  refine ⟨A, cap, h1, h2, h3, fun hn => ?_⟩
  obtain ⟨b, off, h5, h6, h7⟩ := h4 hn
  exact ⟨b, off, h5, Nat.lt_of_lt_of_le h6 hf.size, fun i x hx => cell_keep (h7 i x hx) hf⟩
theorem Ev.nil (w : World) : Ev w (.slice none 0 0) [] := ⟨none, 0, rfl, Nat.le_refl _, by unfold maxLen; omega, fun h => absurd rfl h⟩
theorem Ev.own {w : World} {t : TypeId} {v : Value} {l : List Value} (h : w.ownsRow 0 t 1 v l.length l) : Ev w v l := by
  have hc := fun (g : Nat) (hg : v.ownBlock = some g) => h.cells (g := g) hg
  rcases h.2 with ⟨rfl, h0⟩ | ⟨g, cap, cur, rfl, _, hg, h1, h2, h3, h4⟩
  · rw [List.eq_nil_of_length_eq_zero h0]
    exact Ev.nil w
  · refine ⟨_, cap, rfl, h1, h2, fun _ => ⟨g, 0, rfl, blk_lt hg, fun i x hx => ?_⟩⟩
    have := hc g rfl i x hx
    rw [Addr.add_mid, Nat.zero_add] at this
    rw [Nat.zero_add]
    exact this
abbrev Tv (w : World) (v : Value) (l : List ByteArray) : Prop := Ev w v (l.map Value.string)
abbrev Nv (w : World) (v : Value) (l : List Int) : Prop := Ev w v (l.map (Value.int .i64))

/-- A slice of chunks. -/
def Cv (w : World) (v : Value) (l : List Ck) : Prop := ∃ A cap, v = .slice A l.length cap ∧ l.length ≤ cap ∧ cap ≤ maxLen ∧ (l ≠ [] → ∃ b off, A = some ⟨b, off, none⟩ ∧ b < w.heap.size ∧ ∀ i x, l[i]? = some x → ∀ j u, x.cells[j]? = some u → w.cell? ⟨b, off + i * 5 + j, none⟩ = some u)
theorem Cv.fr {w w' : World} {v : Value} {l : List Ck} (h : Cv w v l) (hf : Fr w w' (fun _ => False)) : Cv w' v l := by
  obtain ⟨A, cap, h1, h2, h3, h4⟩ := h
  refine ⟨A, cap, h1, h2, h3, fun hn => ?_⟩
  obtain ⟨b, off, h5, h6, h7⟩ := h4 hn
  exact ⟨b, off, h5, Nat.lt_of_lt_of_le h6 hf.size, fun i x hx j u hu => cell_keep (h7 i x hx j u hu) hf⟩
theorem Cv.nil (w : World) : Cv w (.slice none 0 0) [] := ⟨none, 0, rfl, Nat.le_refl _, by unfold maxLen; omega, fun h => absurd rfl h⟩
theorem ck_flat (es : List Ck) : ∀ (i : Nat) (x : Ck) (j : Nat), es[i]? = some x → j < 5 → (es.flatMap Ck.cells)[i * 5 + j]? = x.cells[j]? := by
  induction es with
  | nil => intro i x j h; cases h
  | cons y r ih =>
    intro i x j h hj
    rw [List.flatMap_cons]
    have hl : y.cells.length = 5 := rfl
    cases i with
    | zero =>
      simp only [List.getElem?_cons_zero, Option.some.injEq] at h
      subst h
      rw [List.getElem?_append_left (by omega), Nat.zero_mul, Nat.zero_add]
    | succ i =>
      rw [List.getElem?_cons_succ] at h
      rw [List.getElem?_append_right (by omega), hl, show (i + 1) * 5 + j - 5 = i * 5 + j by omega]
      exact ih i x j h hj
theorem Cv.own {w : World} {t : TypeId} {v : Value} {l : List Ck} (h : w.ownsRow 0 t 5 v l.length (l.flatMap Ck.cells)) : Cv w v l := by
  have hc := fun (g : Nat) (hg : v.ownBlock = some g) => h.cells (g := g) hg
  rcases h.2 with ⟨rfl, h0⟩ | ⟨g, cap, cur, rfl, _, hg, h1, h2, h3, h4⟩
  · rw [List.eq_nil_of_length_eq_zero h0]
    exact Cv.nil w
  · refine ⟨_, cap, rfl, h1, h2, fun _ => ⟨g, 0, rfl, blk_lt hg, fun i x hx j u hu => ?_⟩⟩
    have hj : j < 5 := (List.getElem?_eq_some_iff.1 hu).1
    have := hc g rfl (i * 5 + j) u ((ck_flat l i x j hx hj).trans hu)
    rw [Addr.add_mid, Nat.zero_add] at this
    rw [Nat.zero_add]
    exact this

/-- The texts, one behind the other. -/
def jn (l : List ByteArray) : ByteArray := ⟨(l.flatMap (·.data.toList)).toArray⟩
theorem join_empty (l : List (List UInt8)) : Lib.join l [] = l.flatten := by
  cases l with
  | nil => rfl
  | cons x r =>
    rw [Lib.join_cons]
    unfold Lib.joinTail
    simp
theorem join_jn (l : List ByteArray) : Lib.join (l.map (·.data.toList)) (ByteArray.mk #[]).data.toList = (jn l).data.toList := by
  show Lib.join _ [] = _
  rw [join_empty]
  unfold jn
  rw [List.flatMap_def]
theorem jn_size {l : List ByteArray} {m : Nat} (h : ∀ x ∈ l, x.size = m) : (jn l).size = l.length * m := by
  show (l.flatMap (·.data.toList)).toArray.size = _
  rw [List.size_toArray, List.length_flatMap]
  have : l.map (fun x => x.data.toList.length) = List.replicate l.length m := by
    apply List.ext_getElem
    · simp
    · intro i h1 h2
      simp only [List.getElem_map, List.getElem_replicate, Array.length_toList]
      exact h _ (List.getElem_mem (by simpa using h1))
  rw [this, List.sum_replicate_nat]

theorem take_same {α : Type} {l m : List α} {i : Nat} {x y : α} (hx : l[i]? = some x) (hy : m[i]? = some y) (h : l.take i = m.take i) : (l.take (i + 1) = m.take (i + 1)) ↔ x = y := by
  obtain ⟨hl, hx⟩ := List.getElem?_eq_some_iff.1 hx
  obtain ⟨hm, hy⟩ := List.getElem?_eq_some_iff.1 hy
  rw [List.take_succ_eq_append_getElem hl, List.take_succ_eq_append_getElem hm, h, hx, hy]
  simp
theorem map_some {α β : Type} {f : α → β} {l : List α} {i : Nat} {x : α} (h : l[i]? = some x) : (l.map f)[i]? = some (f x) := by rw [List.getElem?_map, h]; rfl

set_option maxRecDepth 100000 in
set_option maxHeartbeats 3200000 in
theorem texts_calls (w : World) (v u : Value) (l m : List ByteArray) (hl : Tv w v l) (hm : Tv w u m) :
    Calls Try.prog 22 #[v, u] w fun e w' => e = .returned (.bool (decide (l = m))) ∧ Fr w w' (fun _ => False) := by
  obtain ⟨A, cap, rfl, h1, h2, h3⟩ := hl
  obtain ⟨B, cap2, rfl, k1, k2, k3⟩ := hm
  have b1 : l.length ≤ 9223372036854775807 := by rw [List.length_map] at h1; unfold maxLen at h2; omega
  have b2 : m.length ≤ 9223372036854775807 := by rw [List.length_map] at k1; unfold maxLen at k2; omega
  simp only [List.length_map] at h1 k1 ⊢
  by_cases hlen : l.length = m.length
  · have HA := hid h3
    have HB := hid k3
    have HL := hid hlen
    have HX := hid (fun (i : Nat) (hi : i < l.length) => (⟨_, List.getElem?_eq_getElem hi⟩ : ∃ x, l[i]? = some x))
    have HY := hid (fun (i : Nat) (hi : i < m.length) => (⟨_, List.getElem?_eq_getElem hi⟩ : ∃ x, m[i]? = some x))
    have HE := hid (fun (h : l.take l.length = m.take l.length) => (by rwa [List.take_length, hlen, List.take_length] at h : l = m))
    have HNE := hid (fun (i : Nat) (x : ByteArray) (hx : l[i]? = some x) => (fun e => by
      have : l = [] := List.map_eq_nil_iff.1 e
      rw [this] at hx
      simp at hx : ¬ l.map Value.string = []))
    have HNE2 := hid (fun (i : Nat) (x : ByteArray) (hx : m[i]? = some x) => (fun e => by
      have : m = [] := List.map_eq_nil_iff.1 e
      rw [this] at hx
      simp at hx : ¬ m.map Value.string = []))
    generalize hQ : decide (l = m) = Q at *
    have HQ := hid hQ
    clear hQ h3 k3
    rw [← hlen] at k1 HY b2 ⊢
    clear hlen h1 h2 k1 k2
    generalize hN : l.length = N at *
    have HN := hid hN
    clear hN
    go_enter Try.func22, Try.ntmps22
    go_wp2_with fail
    go_loopw [13] (fun t wr => ∃ i : Nat, i ≤ N ∧ t = .int .i64 i ∧ l.take i = m.take i ∧ Fr w wr (fun _ => False)) (fun t _ => N - (intOf t).toNat)
    case atStart => exact ⟨0, by omega, rfl, by simp, Fr.refl w _⟩
    case round =>
      obtain ⟨i, hi, rfl, ht, hf⟩ := hrel
      by_cases hlt : i < N
      · obtain ⟨x, hx⟩ := HX.out i hlt
        obtain ⟨y, hy⟩ := HY.out i hlt
        obtain ⟨b, off, rfl, hb, HA1⟩ := HA.out (HNE.out i x hx)
        obtain ⟨b2', off2, rfl, hb2, HB1⟩ := HB.out (HNE2.out i y hy)
        have a0 := cell_keep (HA1 i _ (map_some hx)) hf
        have c0 := cell_keep (HB1 i _ (map_some hy)) hf
        clear HA1 HB1
        have HF := hid hf
        by_cases hxy : x = y
        · have HT := hid ((take_same hx hy ht).2 hxy)
          subst hxy
          clear ht hx hy hf
          go_wp2_with fail
          go_quiet (fail)
          all_goals go_wp2_with fail
          all_goals
            go_round
            case rel => exact ⟨i + 1, by omega, by go_num, HT.out, by first | exact HF.out | exact HF.out.drewN _⟩
            case measure => simp [intOf]; omega
        · have HQ2 : Hid (Q = false) := hid (by
            have h9 := HQ.out
            rw [← h9]
            refine decide_eq_false ?_
            intro e
            apply hxy
            rw [e] at hx
            exact Option.some.inj (hx.symm.trans hy))
          have hne2 : ¬ x.toList = y.toList := fun e => hxy (by
            rw [ByteArray.toList_eq, ByteArray.toList_eq] at e
            exact ByteArray.ext (Array.toList_inj.1 e))
          have hne3 : (x.toList == y.toList) = false := beq_eq_false_iff_ne.2 hne2
          clear ht hx hy hf hxy hne2
          go_wp2_with fail
          go_quiet (fail)
          go_wp2_with fail
          go_ret
          exact ⟨ret_bool HQ2.out.symm, by first | exact HF.out | exact HF.out.drewN _⟩
      · have he : i = N := by omega
        subst he
        have HQ2 : Hid (Q = true) := hid (by rw [← HQ.out]; exact decide_eq_true (HE.out ht))
        have HF := hid hf
        clear ht hf
        go_wp2_with fail
        go_ret
        exact ⟨ret_bool HQ2.out.symm, HF.out⟩
  · have hq : decide (l = m) = false := decide_eq_false (fun e => hlen (by rw [e]))
    have hd : ((l.length : Int) == m.length) = false := by rw [beq_eq_false_iff_ne]; omega
    have hd2 : (l.length == m.length) = false := by rw [beq_eq_false_iff_ne]; omega
    rw [hq]
    clear h3 k3 h1 h2 k1 k2
    generalize l.length = N at *
    generalize m.length = M at *
    go_enter Try.func22, Try.ntmps22
    go_wp2_with fail
    go_ret
    exact ⟨rfl, Fr.refl w _⟩
set_option maxRecDepth 100000 in
set_option maxHeartbeats 3200000 in
theorem ints_calls (w : World) (v u : Value) (l m : List Int) (hl : Nv w v l) (hm : Nv w u m) :
    Calls Try.prog 19 #[v, u] w fun e w' => e = .returned (.bool (decide (l = m))) ∧ Fr w w' (fun _ => False) := by
  obtain ⟨A, cap, rfl, h1, h2, h3⟩ := hl
  obtain ⟨B, cap2, rfl, k1, k2, k3⟩ := hm
  have b1 : l.length ≤ 9223372036854775807 := by rw [List.length_map] at h1; unfold maxLen at h2; omega
  have b2 : m.length ≤ 9223372036854775807 := by rw [List.length_map] at k1; unfold maxLen at k2; omega
  simp only [List.length_map] at h1 k1 ⊢
  by_cases hlen : l.length = m.length
  · have HA := hid h3
    have HB := hid k3
    have HL := hid hlen
    have HX := hid (fun (i : Nat) (hi : i < l.length) => (⟨_, List.getElem?_eq_getElem hi⟩ : ∃ x, l[i]? = some x))
    have HY := hid (fun (i : Nat) (hi : i < m.length) => (⟨_, List.getElem?_eq_getElem hi⟩ : ∃ x, m[i]? = some x))
    have HE := hid (fun (h : l.take l.length = m.take l.length) => (by rwa [List.take_length, hlen, List.take_length] at h : l = m))
    have HNE := hid (fun (i : Nat) (x : Int) (hx : l[i]? = some x) => (fun e => by
      have : l = [] := List.map_eq_nil_iff.1 e
      rw [this] at hx
      simp at hx : ¬ l.map (Value.int .i64) = []))
    have HNE2 := hid (fun (i : Nat) (x : Int) (hx : m[i]? = some x) => (fun e => by
      have : m = [] := List.map_eq_nil_iff.1 e
      rw [this] at hx
      simp at hx : ¬ m.map (Value.int .i64) = []))
    generalize hQ : decide (l = m) = Q at *
    have HQ := hid hQ
    clear hQ h3 k3
    rw [← hlen] at k1 HY b2 ⊢
    clear hlen h1 h2 k1 k2
    generalize hN : l.length = N at *
    have HN := hid hN
    clear hN
    go_enter Try.func19, Try.ntmps19
    go_wp2_with fail
    go_loopw [13] (fun t wr => ∃ i : Nat, i ≤ N ∧ t = .int .i64 i ∧ l.take i = m.take i ∧ Fr w wr (fun _ => False)) (fun t _ => N - (intOf t).toNat)
    case atStart => exact ⟨0, by omega, rfl, by simp, Fr.refl w _⟩
    case round =>
      obtain ⟨i, hi, rfl, ht, hf⟩ := hrel
      by_cases hlt : i < N
      · obtain ⟨x, hx⟩ := HX.out i hlt
        obtain ⟨y, hy⟩ := HY.out i hlt
        obtain ⟨b, off, rfl, hb, HA1⟩ := HA.out (HNE.out i x hx)
        obtain ⟨b2', off2, rfl, hb2, HB1⟩ := HB.out (HNE2.out i y hy)
        have a0 := cell_keep (HA1 i _ (map_some hx)) hf
        have c0 := cell_keep (HB1 i _ (map_some hy)) hf
        clear HA1 HB1
        have HF := hid hf
        by_cases hxy : x = y
        · have HT := hid ((take_same hx hy ht).2 hxy)
          subst hxy
          clear ht hx hy hf
          go_wp2_with fail
          go_quiet (fail)
          all_goals go_wp2_with fail
          all_goals
            go_round
            case rel => exact ⟨i + 1, by omega, by go_num, HT.out, by first | exact HF.out | exact HF.out.drewN _⟩
            case measure => simp [intOf]; omega
        · have HQ2 : Hid (Q = false) := hid (by
            have h9 := HQ.out
            rw [← h9]
            refine decide_eq_false ?_
            intro e
            apply hxy
            rw [e] at hx
            exact Option.some.inj (hx.symm.trans hy))
          have hne2 : (x == y) = false := beq_eq_false_iff_ne.2 hxy
          have hne3 : (x != y) = true := bne_iff_ne.2 hxy
          clear ht hx hy hf hxy
          go_wp2_with fail
          go_quiet (fail)
          go_wp2_with fail
          go_ret
          exact ⟨ret_bool HQ2.out.symm, by first | exact HF.out | exact HF.out.drewN _⟩
      · have he : i = N := by omega
        subst he
        have HQ2 : Hid (Q = true) := hid (by rw [← HQ.out]; exact decide_eq_true (HE.out ht))
        have HF := hid hf
        clear ht hf
        go_wp2_with fail
        go_ret
        exact ⟨ret_bool HQ2.out.symm, HF.out⟩
  · have hq : decide (l = m) = false := decide_eq_false (fun e => hlen (by rw [e]))
    have hd : ((l.length : Int) == m.length) = false := by rw [beq_eq_false_iff_ne]; omega
    have hd2 : (l.length == m.length) = false := by rw [beq_eq_false_iff_ne]; omega
    rw [hq]
    clear h3 k3 h1 h2 k1 k2
    generalize l.length = N at *
    generalize m.length = M at *
    go_enter Try.func19, Try.ntmps19
    go_wp2_with fail
    go_ret
    exact ⟨rfl, Fr.refl w _⟩
end Go.Proofs.Ythnigmbdacjlnaa.Cw
