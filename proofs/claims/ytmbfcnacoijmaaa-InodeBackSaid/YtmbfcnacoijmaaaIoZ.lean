/- What is put is told there, and all else is as it was. Plain. Own work. -/
import Derived.Test.YtmbfcnacoijmaaaIoV
namespace Go.Proofs.Ytmbfcnacoijmaaa.Cw
set_option linter.unusedVariables false

theorem byt_app (a b : ByteArray) (j : Nat) : byt (a ++ b) j = if j < a.size then byt a j else byt b (j - a.size) := by
  unfold byt
  by_cases h : j < a.size
  · rw [if_pos h, dif_pos (show j < (a ++ b).size by rw [ByteArray.size_append]; omega), dif_pos h, ByteArray.getElem_append_left h]
  · rw [if_neg h]
    by_cases h2 : j - a.size < b.size
    · rw [dif_pos (show j < (a ++ b).size by rw [ByteArray.size_append]; omega), dif_pos h2, ByteArray.getElem_append_right (by omega)]
    · rw [dif_neg (show ¬ j < (a ++ b).size by rw [ByteArray.size_append]; omega), dif_neg h2]
theorem byt_cut (b : ByteArray) (lo hi j : Nat) (h : lo + j < hi) (h2 : hi ≤ b.size) : byt (b.extract lo hi) j = byt b (lo + j) := by
  unfold byt
  rw [dif_pos (show lo + j < b.size by omega), dif_pos (show j < (b.extract lo hi).size by rw [ByteArray.size_extract]; omega), ByteArray.getElem_extract]
theorem ba_ext {a b : ByteArray} (h : a.size = b.size) (k : ∀ j, j < a.size → byt a j = byt b j) : a = b := by
  apply ByteArray.ext_getElem h
  intro j h1 h2
  have := k j h1
  rw [byt_eq a j h1, byt_eq b j h2] at this
  exact UInt8.toNat_inj.1 this
theorem fix2_byt (t : Nat) : byt ⟨(fixB t 2).toArray⟩ 0 = t % 256 ∧ byt ⟨(fixB t 2).toArray⟩ 1 = t / 256 % 256 := by
  constructor
  · rw [byt_list _ 0 (by8 t 0) rfl, by8_toNat]
    simp
  · rw [byt_list _ 1 (by8 t 1) rfl, by8_toNat]
theorem renB_size (b : ByteArray) (k t : Nat) (hb : b.size = 128) (hk : k < 64) : (renB b k t).size = 128 := by
  unfold renB
  rw [ByteArray.size_append, ByteArray.size_append, ByteArray.size_extract, ByteArray.size_extract]
  have : (⟨(fixB t 2).toArray⟩ : ByteArray).size = 2 := rfl
  omega
theorem renB_byt (b : ByteArray) (k t : Nat) (hb : b.size = 128) (hk : k < 64) (j : Nat) (hj : j < 128) :
    byt (renB b k t) j = if j = 2 * k then t % 256 else if j = 2 * k + 1 then t / 256 % 256 else byt b j := by
  unfold renB
  have z1 : (b.extract 0 (2 * k)).size = 2 * k := by rw [ByteArray.size_extract]; omega
  have z2 : (⟨(fixB t 2).toArray⟩ : ByteArray).size = 2 := rfl
  rw [byt_app, byt_app, ByteArray.size_append, z1, z2]
  by_cases h1 : j < 2 * k
  · rw [if_pos (by omega), if_pos h1, if_neg (by omega), if_neg (by omega), byt_cut b 0 (2 * k) j (by omega) (by omega), Nat.zero_add]
  · by_cases h2 : j < 2 * k + 2
    · rw [if_pos h2, if_neg h1]
      rcases (show j = 2 * k ∨ j = 2 * k + 1 by omega) with rfl | rfl
      · rw [if_pos rfl, Nat.sub_self]
        exact (fix2_byt t).1
      · rw [if_neg (by omega), if_pos rfl, show 2 * k + 1 - 2 * k = 1 by omega]
        exact (fix2_byt t).2
    · rw [if_neg h2, if_neg (by omega), if_neg (by omega), byt_cut b (2 * k + 2) b.size _ (by omega) (by omega)]
      congr 1
      omega
theorem renB_two (b : ByteArray) (k t : Nat) (hb : b.size = 128) (hk : k < 64) (ht : t < 1024) (i : Nat) (hi : i < 64) : two (renB b k t) (2 * i) = if i = k then t else two b (2 * i) := by
  unfold two
  rw [renB_byt b k t hb hk _ (by omega), renB_byt b k t hb hk _ (by omega)]
  by_cases h : i = k
  · subst h
    rw [if_pos rfl, if_neg (by omega), if_pos rfl, if_pos rfl]
    omega
  · rw [if_neg (by omega), if_neg (by omega), if_neg (by omega), if_neg (by omega), if_neg h]
theorem putB_size (b : ByteArray) (k : Nat) (x : Nd) (hb : b.size = 128) (hk : k < 4) : (putB b k x).size = 128 := by
  unfold putB
  rw [ByteArray.size_append, ByteArray.size_append, ByteArray.size_extract, ByteArray.size_extract]
  have : (⟨(ndB x).toArray⟩ : ByteArray).size = 32 := by
    show (ndB x).toArray.size = 32
    rw [List.size_toArray]
    exact ndB_len x
  omega
theorem putB_cut (b : ByteArray) (k : Nat) (x : Nd) (hb : b.size = 128) (hk : k < 4) (i : Nat) (hi : i < 4) : cut32 (putB b k x) i = if i = k then ⟨(ndB x).toArray⟩ else cut32 b i := by
  have hp := putB_size b k x hb hk
  have z2 : (⟨(ndB x).toArray⟩ : ByteArray).size = 32 := by
    show (ndB x).toArray.size = 32
    rw [List.size_toArray]
    exact ndB_len x
  have z1 : (b.extract 0 (32 * k)).size = 32 * k := by rw [ByteArray.size_extract]; omega
  have hc : (cut32 (putB b k x) i).size = 32 := cut32_size _ i hp hi
  have hbt : ∀ m, m < 128 → byt (putB b k x) m = if m < 32 * k then byt b m else if m < 32 * k + 32 then byt ⟨(ndB x).toArray⟩ (m - 32 * k) else byt b m := by
    intro m hm
    unfold putB
    rw [byt_app, byt_app, ByteArray.size_append, z1, z2]
    by_cases h1 : m < 32 * k
    · rw [if_pos (by omega), if_pos h1, if_pos h1, byt_cut b 0 (32 * k) m (by omega) (by omega), Nat.zero_add]
    · by_cases h2 : m < 32 * k + 32
      · rw [if_pos h2, if_neg h1, if_neg h1, if_pos h2]
      · rw [if_neg h2, if_neg h1, if_neg h2, byt_cut b (32 * k + 32) b.size _ (by omega) (by omega)]
        congr 1
        omega
  by_cases h : i = k
  · subst h
    rw [if_pos rfl]
    refine ba_ext (by rw [hc, z2]) fun j hj => ?_
    rw [hc] at hj
    unfold cut32
    rw [byt_cut _ (32 * i) (32 * i + 32) j (by omega) (by omega), hbt _ (by omega), if_neg (by omega), if_pos (by omega)]
    congr 1
    omega
  · rw [if_neg h]
    refine ba_ext (by rw [hc, cut32_size b i hb hi]) fun j hj => ?_
    rw [hc] at hj
    unfold cut32
    rw [byt_cut _ (32 * i) (32 * i + 32) j (by omega) (by omega), byt_cut b (32 * i) (32 * i + 32) j (by omega) (by omega), hbt _ (by omega)]
    by_cases h1 : 32 * i + j < 32 * k
    · rw [if_pos h1]
    · rw [if_neg h1, if_neg (by omega)]
theorem place_apart (a b : Int) (ha : Ix a) (hb : Ix b) (h : a ≠ b) : ¬ (plL a = plL b ∧ plA a = plA b ∧ plB a = plB b) := by
  unfold Ix at ha hb
  unfold plL plA plB
  intro hh
  split at hh <;> split at hh <;> (try split at hh) <;> (try split at hh) <;> omega
end Go.Proofs.Ytmbfcnacoijmaaa.Cw
