/- There and back: what was written is read. Plain. Own work. -/
import Derived.Test.YtmnmmmoeeapeiaaJah
import Derived.Test.YtmnmmmoeeapeiaaJai
import Derived.Test.YtmnmmmoeeapeiaaJar
namespace Go.Proofs.Ytmnmmmoeeapeiaa.Cw
set_option linter.unusedVariables false

theorem get_drop (s : ByteArray) (k : Nat) (b : UInt8) (r : List UInt8) (h : s.data.toList.drop k = b :: r) : ∃ hk : k < s.size, s[k] = b ∧ s.data.toList.drop (k + 1) = r := by
  have hlen : k < s.data.toList.length := by
    rcases Nat.lt_or_ge k s.data.toList.length with h1 | h1
    · exact h1
    · rw [List.drop_eq_nil_of_le h1] at h
      cases h
  have hk : k < s.size := by rw [Array.length_toList] at hlen; exact hlen
  rw [List.drop_eq_getElem_cons hlen] at h
  injection h with h1 h2
  exact ⟨hk, h1, h2⟩

/-- A number's bytes are read as that number, whatever is behind them. -/
theorem sv_uv (s : ByteArray) (top : Nat) (ht : top ≤ 127) : ∀ (f k m r : Nat) (rest : List UInt8), s.data.toList.drop k = uv r ++ rest → r < 128 ^ f * (top + 1) → (0 < k → 0 < r) →
    sv s (k + (f + 1)) top (f + 1) k m = (m + r * 128 ^ k, k + (uv r).length, 0) := by
  intro f
  induction f with
  | zero =>
    intro k m r rest h hr h0
    have h127 : r ≤ 127 := by simp at hr; omega
    rw [uv_small r h127] at h
    obtain ⟨hk, hb, _⟩ := get_drop s k _ _ h
    have hn : s[k].toNat = r := by rw [hb, lo8_toNat r h127]
    rw [sv_last _ _ _ _ _ _ hk (by rw [hn]; intro x; simp at hr; omega) (by omega), hn, uv_small r h127, Nat.mod_eq_of_lt (by omega)]
    rfl
  | succ f ih =>
    intro k m r rest h hr h0
    by_cases h127 : r ≤ 127
    · rw [uv_small r h127] at h
      obtain ⟨hk, hb, _⟩ := get_drop s k _ _ h
      have hn : s[k].toNat = r := by rw [hb, lo8_toNat r h127]
      rw [sv_last _ _ _ _ _ _ hk (by rw [hn]; intro x; omega) (by omega), hn, uv_small r h127, Nat.mod_eq_of_lt (by omega)]
      rfl
    · rw [uv_big r h127, List.cons_append] at h
      obtain ⟨hk, hb, hd⟩ := get_drop s k _ _ h
      have hn : s[k].toNat = r % 128 + 128 := by rw [hb, hi8_toNat]
      have hr2 : r / 128 < 128 ^ f * (top + 1) := by
        rw [Nat.pow_succ, Nat.mul_right_comm] at hr
        omega
      have hi := ih (k + 1) (m + r % 128 * 128 ^ k) (r / 128) rest hd hr2 (by omega)
      rw [sv_more _ _ _ _ _ _ hk (by rw [hn]; intro x; omega) (by omega), hn, show (r % 128 + 128) % 128 = r % 128 by omega, show k + (f + 1 + 1) = k + 1 + (f + 1) by omega, hi, uv_big r h127]
      refine Prod.ext ?_ (Prod.ext ?_ rfl)
      · show m + r % 128 * 128 ^ k + r / 128 * 128 ^ (k + 1) = m + r * 128 ^ k
        rw [Nat.pow_succ, Nat.mul_comm (128 ^ k) 128, ← Nat.mul_assoc, Nat.add_assoc, ← Nat.add_mul]
        congr 2
        omega
      · show k + 1 + (uv (r / 128)).length = k + (hi8 r :: uv (r / 128)).length
        rw [List.length_cons]
        omega

theorem ext_rest (a b : List UInt8) : (⟨(a ++ b).toArray⟩ : ByteArray).extract a.length (⟨(a ++ b).toArray⟩ : ByteArray).size = ⟨b.toArray⟩ := by
  apply ByteArray.ext
  rw [ByteArray.data_extract]
  show ((a ++ b).toArray).extract a.length (a ++ b).toArray.size = b.toArray
  simp

theorem rdN_uv (f top r : Nat) (rest : List UInt8) (ht : top ≤ 127) (hr : r < 128 ^ f * (top + 1)) : rdN (f + 1) top ⟨(uv r ++ rest).toArray⟩ 0 = (r, 0, ⟨rest.toArray⟩, 0) := by
  have h := sv_uv ⟨(uv r ++ rest).toArray⟩ top ht f 0 0 r rest (by simp) hr (by omega)
  rw [Nat.zero_add, Nat.zero_add, Nat.zero_add] at h
  rw [rdN_ok _ _ _ (by rw [h]), h]
  refine Prod.ext ?_ (Prod.ext rfl (Prod.ext ?_ rfl))
  · show r * 128 ^ 0 = r
    omega
  · exact ext_rest (uv r) rest

theorem rd_uint (n : Nat) (rest : List UInt8) (hn : n ≤ 2 ^ 63 - 1) : rdN 9 127 ⟨(uv n ++ rest).toArray⟩ 0 = (n, 0, ⟨rest.toArray⟩, 0) := rdN_uv 8 127 n rest (by omega) (by omega)
theorem rd_int (n : Int) (rest : List UInt8) (h1 : -9223372036854775808 ≤ n) (h2 : n < 9223372036854775808) : rdN 10 1 ⟨(uv (zig n) ++ rest).toArray⟩ 0 = (zig n, 0, ⟨rest.toArray⟩, 0) :=
  rdN_uv 9 1 (zig n) rest (by omega) (by have := zig_lt n h1 h2; omega)

theorem by8_toNat (n k : Nat) : (by8 n k).toNat = n / 256 ^ k % 256 := by
  unfold by8
  rw [UInt8.toNat_ofNat']
  omega
theorem fixB_get (n : Nat) : ∀ (k j : Nat), j < k → (fixB n k)[j]? = some (by8 n j) := by
  intro k
  induction k with
  | zero => intro j h; omega
  | succ k ih =>
    intro j h
    rw [fixB_succ]
    by_cases hj : j < k
    · rw [List.getElem?_append_left (by rw [fixB_len]; exact hj)]
      exact ih j hj
    · have : j = k := by omega
      subst this
      rw [List.getElem?_append_right (by rw [fixB_len]; omega), fixB_len]
      simp
theorem byt_list (l : List UInt8) (j : Nat) (b : UInt8) (h : l[j]? = some b) : byt ⟨l.toArray⟩ j = b.toNat := by
  obtain ⟨hj, hb⟩ := List.getElem?_eq_some_iff.1 h
  have hj2 : j < (⟨l.toArray⟩ : ByteArray).size := by show j < l.toArray.size; simpa using hj
  rw [byt_eq _ _ hj2, ← hb]
  rfl
theorem le_fix (n size : Nat) (rest : List UInt8) : ∀ j, j ≤ size → le ⟨(fixB n size ++ rest).toArray⟩ j = n % 256 ^ j := by
  intro j
  induction j with
  | zero => intro _; simp [le]; omega
  | succ j ih =>
    intro h
    have hg : (fixB n size ++ rest)[j]? = some (by8 n j) := by
      rw [List.getElem?_append_left (by rw [fixB_len]; omega)]
      exact fixB_get n size j (by omega)
    show le _ j + byt _ j * 256 ^ j = _
    rw [ih (by omega), byt_list _ _ _ hg, by8_toNat, Nat.pow_succ, Nat.mod_mul, Nat.mul_comm (256 ^ j)]
theorem rd_fix (n size : Nat) (rest : List UInt8) (hn : n ≤ 2 ^ 63 - 1) (hf : n < 256 ^ size) : rdF size ⟨(fixB n size ++ rest).toArray⟩ 0 = (n, 0, ⟨rest.toArray⟩, 0) := by
  have hle : le ⟨(fixB n size ++ rest).toArray⟩ size = n := by rw [le_fix n size rest size (Nat.le_refl _), Nat.mod_eq_of_lt hf]
  have hsz : (⟨(fixB n size ++ rest).toArray⟩ : ByteArray).size = size + rest.length := by
    show (fixB n size ++ rest).toArray.size = _
    simp [fixB_len]
  rw [rdF_ok _ _ (by rw [hsz]; omega) (by rw [hle]; omega), hle]
  refine Prod.ext rfl (Prod.ext rfl (Prod.ext ?_ rfl))
  have := ext_rest (fixB n size) rest
  rw [fixB_len] at this
  exact this

theorem rd_textN (most : Nat) (x : ByteArray) (rest : List UInt8) (hx : x.size ≤ 65535) (hm : x.size ≤ most) : rdT (most : Int) ⟨((uv x.size ++ x.data.toList) ++ rest).toArray⟩ 0 = (x, 0, ⟨rest.toArray⟩, 0) := by
  have hl : x.data.toList.length = x.size := by rw [Array.length_toList]; rfl
  have hs : (⟨((uv x.size ++ x.data.toList) ++ rest).toArray⟩ : ByteArray).size = (uv x.size).length + x.size + rest.length := by
    show ((uv x.size ++ x.data.toList) ++ rest).toArray.size = _
    simp only [List.size_toArray, List.length_append, hl]
  have h := sv_uv ⟨((uv x.size ++ x.data.toList) ++ rest).toArray⟩ 127 (by omega) 8 0 0 x.size (x.data.toList ++ rest) (by simp) (by omega) (by omega)
  rw [Nat.zero_add, Nat.zero_add, Nat.zero_add] at h
  unfold rdT
  rw [if_neg (by omega), if_pos rfl, h]
  simp only [Nat.pow_zero, Nat.mul_one]
  rw [if_pos trivial, if_neg (by omega), if_neg (by rw [hs]; omega)]
  refine Prod.ext ?_ (Prod.ext rfl (Prod.ext ?_ rfl))
  · apply ByteArray.ext
    show (ByteArray.extract _ _ _).data = _
    rw [ByteArray.data_extract]
    apply Array.toList_inj.1
    show (((uv x.size ++ x.data.toList) ++ rest).toArray.extract (uv x.size).length ((uv x.size).length + x.size)).toList = _
    simp only [Array.toList_extract, List.extract_eq_take_drop]
    rw [List.append_assoc, List.drop_left, show (uv x.size).length + x.size - (uv x.size).length = x.data.toList.length by rw [hl]; omega, List.take_left]
  · have := ext_rest (uv x.size ++ x.data.toList) rest
    rw [List.length_append, hl] at this
    exact this

theorem rd_text (x : ByteArray) (rest : List UInt8) (hx : x.size ≤ 65535) : rdT 65535 ⟨((uv x.size ++ x.data.toList) ++ rest).toArray⟩ 0 = (x, 0, ⟨rest.toArray⟩, 0) := rd_textN 65535 x rest hx hx

/-- A number's number, back. -/
theorem zz_zig (n : Int) : zz (zig n) = n := by
  unfold zz zig
  split
  · rw [if_pos (by omega)]
    omega
  · rw [if_neg (by omega)]
    omega
end Go.Proofs.Ytmnmmmoeeapeiaa.Cw

