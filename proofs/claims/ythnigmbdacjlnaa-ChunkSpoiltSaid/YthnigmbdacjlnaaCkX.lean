/- What a collector of one snapshot's chunks has: plain. Own work. -/
import Derived.Test.YthnigmbdacjlnaaCkP
namespace Go.Proofs.Ythnigmbdacjlnaa.Cw
open Go.RowKit
set_option linter.unusedVariables false
set_option linter.unusedSimpArgs false

/-- A snapshot that can be split. -/
def Vs (bs : List ByteArray) : Prop := ¬ (bs.length < 1 ∨ 1024 < bs.length) ∧ ∀ b ∈ bs, b.size = 128
def mch (bs : List ByteArray) : Nat := (bs.length + 7) / 8
def Sub (bs : List ByteArray) (ks : List Nat) : List Ck := ks.map (ckAt bs)
theorem vs_of {bs : List ByteArray} (h : splE bs = 0) : Vs bs := by
  unfold splE at h
  split at h
  · cases h
  · rename_i h1
    split at h
    · exact ⟨h1, by assumption⟩
    · cases h
theorem splL_of {bs : List ByteArray} (h : splE bs = 0) : splL bs = spl bs := if_pos h
theorem splL_no {bs : List ByteArray} (h : ¬ splE bs = 0) : splL bs = [] := if_neg h
theorem spl_no {bs : List ByteArray} (h : Vs bs) : splE bs = 0 := by
  unfold splE
  rw [if_neg h.1, if_pos h.2]
theorem ckAt_right {bs : List ByteArray} (h : Vs bs) {k : Nat} (hk : k < mch bs) : ckB (ckAt bs k) = true := by
  unfold ckB
  refine decide_eq_true ?_
  have h1 := h.1
  unfold mch at hk
  have hm : mn (ckAt bs k).t (ckAt bs k).n = ((min 8 (bs.length - 8 * k) : Nat) : Int) := mn_in (by omega) (by omega)
  rw [hm]
  refine ⟨by omega, ?_, rfl⟩
  show ((jn (part bs k)).size : Int) = _
  rw [part_size h.2, part_len]
  omega
theorem sub_gd {bs : List ByteArray} (h : Vs bs) {ks : List Nat} (hk : ∀ k ∈ ks, k < mch bs) : Gd25 (Sub bs ks) := by
  intro c hc
  obtain ⟨k, h1, rfl⟩ := List.mem_map.1 hc
  refine ⟨ckAt_right h (hk k h1), ?_⟩
  intro e he
  obtain ⟨j, _, rfl⟩ := List.mem_map.1 he
  exact ⟨rfl, rfl⟩
theorem sub_hs {bs : List ByteArray} (ks : List Nat) (i : Nat) : hs (Sub bs ks) ((i : Nat) : Int) = if i ∈ ks then some (jn (part bs i)) else none := by
  induction ks with
  | nil => rfl
  | cons k r ih =>
    unfold hs Sub at *
    rw [List.map_cons]
    by_cases he : k = i
    · subst he
      rw [List.find?_cons_of_pos (by simp [ckAt]), if_pos (List.mem_cons_self)]
      rfl
    · rw [List.find?_cons_of_neg (by simp [ckAt]; omega), ih]
      by_cases hr : i ∈ r
      · rw [if_pos hr, if_pos (List.mem_cons_of_mem _ hr)]
      · rw [if_neg hr, if_neg (by rw [List.mem_cons]; rintro (e | e); exact he e.symm; exact hr e)]
theorem sub_adE {bs : List ByteArray} (h : Vs bs) {ks : List Nat} {k : Nat} (hk : k < mch bs) : adE (Sub bs ks) (ckAt bs k) = 0 := by
  unfold adE
  rw [if_neg (by rw [ckAt_right h hk]; decide)]
  cases ks with
  | nil => rfl
  | cons j r => exact if_neg (by rintro (e | e) <;> exact e rfl)
theorem sub_adB {bs : List ByteArray} (h : Vs bs) {ks : List Nat} {k : Nat} (hk : k < mch bs) : adB (Sub bs ks) (ckAt bs k) = !decide (k ∈ ks) := by
  unfold adB
  rw [sub_adE h hk]
  rw [show hs (Sub bs ks) (ckAt bs k).n = _ from sub_hs ks k]
  by_cases hm : k ∈ ks
  · rw [if_pos hm, decide_eq_true hm]; rfl
  · rw [if_neg hm, decide_eq_false hm]; rfl
theorem sub_adL {bs : List ByteArray} (h : Vs bs) {ks : List Nat} {k : Nat} (hk : k < mch bs) : adL (Sub bs ks) (ckAt bs k) = Sub bs (if k ∈ ks then ks else ks ++ [k]) := by
  unfold adL
  rw [sub_adB h hk]
  by_cases hm : k ∈ ks
  · rw [if_pos hm, decide_eq_true hm]; rfl
  · rw [if_neg hm, decide_eq_false hm]
    unfold Sub
    rw [List.map_append]
    rfl
theorem sub_chs {bs : List ByteArray} {ks : List Nat} (hne : ks ≠ []) : hdT (Sub bs ks) = bs.length ∧ chs (Sub bs ks) = mch bs ∧ hdD (Sub bs ks) = ((crc (jn bs).data.toList : Nat) : Int) := by
  cases ks with
  | nil => exact absurd rfl hne
  | cons k r =>
    have h1 : hdT (Sub bs (k :: r)) = bs.length := Int.toNat_natCast _
    refine ⟨h1, ?_, rfl⟩
    unfold chs mch
    rw [h1]
theorem filter_split (l : List Nat) (p : Nat → Bool) : l.length = (l.filter p).length + (l.filter (fun i => !p i)).length := by
  induction l with
  | nil => rfl
  | cons x r ih =>
    cases hp : p x with
    | true => rw [List.filter_cons_of_pos hp, List.filter_cons_of_neg (by rw [hp]; decide), List.length_cons, List.length_cons]; omega
    | false => rw [List.filter_cons_of_neg (by rw [hp]; decide), List.filter_cons_of_pos (by rw [hp]; rfl), List.length_cons, List.length_cons]; omega
theorem filter_count {M : Nat} {ks : List Nat} (hn : ks.Nodup) (hk : ∀ k ∈ ks, k < M) : ((List.range M).filter (fun i => decide (i ∈ ks))).length = ks.length := by
  refine List.Perm.length_eq ((List.perm_ext_iff_of_nodup (List.Pairwise.filter _ List.nodup_range) hn).2 fun a => ?_)
  rw [List.mem_filter, List.mem_range, decide_eq_true_eq]
  exact ⟨fun e => e.2, fun e => ⟨hk a e, e⟩⟩
theorem sub_ms {bs : List ByteArray} {ks : List Nat} (hne : ks ≠ []) (hn : ks.Nodup) (hk : ∀ k ∈ ks, k < mch bs) : (msL (Sub bs ks)).length = mch bs - ks.length := by
  unfold msL
  rw [(sub_chs hne).2.1]
  unfold ms
  rw [List.length_map]
  have h1 : (List.range (mch bs)).filter (fun i => (hs (Sub bs ks) ((i : Nat) : Int)).isNone) = (List.range (mch bs)).filter (fun i => !decide (i ∈ ks)) := by
    apply List.filter_congr
    intro i _
    rw [sub_hs]
    by_cases hm : i ∈ ks
    · rw [if_pos hm, decide_eq_true hm]; rfl
    · rw [if_neg hm, decide_eq_false hm]; rfl
  rw [h1]
  have h2 := filter_split (List.range (mch bs)) (fun i => decide (i ∈ ks))
  rw [filter_count hn hk, List.length_range] at h2
  omega
theorem sub_full {bs : List ByteArray} {ks : List Nat} (hn : ks.Nodup) (hk : ∀ k ∈ ks, k < mch bs) : ks.length ≤ mch bs := by
  have := filter_count hn hk
  have h2 := List.length_filter_le (fun i => decide (i ∈ ks)) (List.range (mch bs))
  rw [List.length_range] at h2
  omega
theorem part_snoc (bs : List ByteArray) (k : Nat) : bs.take (8 * (k + 1)) = bs.take (8 * k) ++ part bs k := by
  unfold part
  rw [show 8 * (k + 1) = 8 * k + 8 by omega, List.take_add]
theorem jn_app (l m : List ByteArray) : jn (l ++ m) = jn l ++ jn m := by
  apply ByteArray.ext
  rw [ByteArray.data_append]
  apply Array.toList_inj.1
  unfold jn
  simp
theorem sub_up {bs : List ByteArray} {ks : List Nat} (M : Nat) (hall : ∀ i, i < M → i ∈ ks) : up M (Sub bs ks) = jn (bs.take (8 * M)) := by
  induction M with
  | zero => rfl
  | succ k ih =>
    rw [up_succ, ih (fun i hi => hall i (by omega)), sub_hs, if_pos (hall k (by omega)), Option.getD_some, part_snoc, jn_app]
theorem full_all {bs : List ByteArray} {ks : List Nat} (hn : ks.Nodup) (hk : ∀ k ∈ ks, k < mch bs) (hf : ks.length = mch bs) : ∀ i, i < mch bs → i ∈ ks := by
  intro i hi
  refine Classical.byContradiction fun hni => ?_
  have h1 := sub_full (bs := bs) (ks := i :: ks) (List.nodup_cons.2 ⟨hni, hn⟩) (fun k hk2 => by
    rcases List.mem_cons.1 hk2 with rfl | h
    · exact hi
    · exact hk k h)
  rw [List.length_cons] at h1
  omega
theorem cut_jn {bs : List ByteArray} (h : ∀ b ∈ bs, b.size = 128) : cut8 bs.length (jn bs) = bs := by
  unfold cut8
  apply List.ext_getElem?
  intro i
  rw [List.getElem?_map]
  rcases Nat.lt_or_ge i bs.length with hi | hi
  · rw [List.getElem?_range hi, List.getElem?_eq_getElem hi]
    simp only [Option.map_some, Option.some.injEq]
    have h2 : ∀ x ∈ bs, x.data.toList.length = 128 := fun x hx => by rw [Array.length_toList]; exact h x hx
    apply ByteArray.ext
    rw [ByteArray.data_extract]
    apply Array.toList_inj.1
    rw [Array.toList_extract]
    show ((bs.flatMap (·.data.toList)).toArray.toList.drop (128 * i)).take (128 * i + 128 - 128 * i) = _
    rw [List.toList_toArray, flat_drop _ 128 _ _ h2, show 128 * i + 128 - 128 * i = 128 * 1 by omega, flat_take _ 128 1 _ (fun x hx => h2 x (List.mem_of_mem_drop hx))]
    rw [List.drop_eq_getElem_cons hi, List.take_succ_cons, List.take_zero]
    simp
  · rw [List.getElem?_eq_none (by simpa using hi), List.getElem?_eq_none (by simpa using hi)]
    rfl
/-- The blocks are told when none is missing, and are the snapshot's. -/
theorem sub_all {bs : List ByteArray} (h : Vs bs) {ks : List Nat} (hne : ks ≠ []) (hn : ks.Nodup) (hk : ∀ k ∈ ks, k < mch bs) (hf : ks.length = mch bs) : blE (Sub bs ks) = 0 ∧ blL (Sub bs ks) = bs := by
  have h1 := sub_ms hne hn hk
  obtain ⟨c1, c2, c3⟩ := sub_chs (bs := bs) hne
  have hu : up (chs (Sub bs ks)) (Sub bs ks) = jn bs := by
    rw [c2, sub_up _ (full_all hn hk hf), List.take_of_length_le (by unfold mch; omega)]
  have he : blE (Sub bs ks) = 0 := by
    unfold blE
    rw [if_neg (by
      rintro (e | e)
      · unfold Sub at e
        rw [List.length_map] at e
        exact hne (List.eq_nil_of_length_eq_zero e)
      · omega), hu, c3, if_pos rfl]
  refine ⟨he, ?_⟩
  unfold blL
  rw [if_pos he, hu, c1, cut_jn h.2]
theorem sub_some {bs : List ByteArray} {ks : List Nat} (hne : ks ≠ []) (hn : ks.Nodup) (hk : ∀ k ∈ ks, k < mch bs) (hf : ¬ ks.length = mch bs) : blE (Sub bs ks) = 7 := by
  have h1 := sub_ms hne hn hk
  have h2 := sub_full hn hk
  unfold blE
  rw [if_pos (.inr (by omega))]
end Go.Proofs.Ythnigmbdacjlnaa.Cw
