/- What codec reads and writes, as plain functions; no program here. Own work. -/
import Derived.Laws.BitsLemmas
namespace Go.Proofs.Ytmnmmmoeeapeiaa.Cw

/-- The number that some bytes are, seven bits a byte: the number, how many bytes, what is wrong. -/
def sv (s : ByteArray) (most top : Nat) : Nat → Nat → Nat → Nat × Nat × Nat
  | 0, _, _ => (0, 0, 4)
  | f + 1, k, m =>
    if h : k < s.size then
      if (k + 1 = most ∧ top < s[k].toNat) ∨ (0 < k ∧ s[k].toNat = 0) then (0, 0, 4)
      else if s[k].toNat < 128 then (m + s[k].toNat % 128 * 128 ^ k, k + 1, 0)
      else sv s most top f (k + 1) (m + s[k].toNat % 128 * 128 ^ k)
    else (0, 0, 20)

theorem wrap_u64 (n : Int) : IntKind.u64.wrap n = n % 18446744073709551616 := by simp [IntKind.wrap, IntKind.bits, IntKind.signed]
theorem wraps_u64 (n : Int) (h₀ : 0 ≤ n) (h₁ : n < 2 ^ 64) : IntKind.u64.wrap n = n := by rw [wrap_u64]; omega

theorem and127 (c : Nat) (h : c < 256) : bits .and .u8 (c : Int) 127 = ((c % 128 : Nat) : Int) := by
  have := bits_mask .u8 8 (by decide) wraps_u8 7 (by decide) (c : Int) (by omega) (by omega)
  simpa using this

/-- One byte more, seven bits further up. -/
theorem step_or (k m c : Nat) (hm : m < 128 ^ k) (hc : c < 256) (hk : k ≤ 8 ∨ k = 9 ∧ c % 128 ≤ 1) :
    bits .or .u64 (m : Int) (IntKind.u64.wrap (IntKind.u64.wrap (bits .and .u8 (c : Int) 127) * 2 ^ (7 * k))) = ((m + c % 128 * 128 ^ k : Nat) : Int) := by
  have e2 : (2 : Nat) ^ (7 * k) = 128 ^ k := by rw [Nat.pow_mul]
  have e : (2 : Int) ^ (7 * k) = ((128 ^ k : Nat) : Int) := by rw [← e2]; simp
  have hp : 0 < 128 ^ k := Nat.pow_pos (by decide)
  have hb : c % 128 * 128 ^ k < 2 ^ 64 := by
    rcases hk with h | ⟨rfl, h⟩
    · have : 128 ^ k ≤ 128 ^ 8 := Nat.pow_le_pow_right (by decide) h
      have : c % 128 * 128 ^ k ≤ 127 * 128 ^ 8 := Nat.mul_le_mul (by omega) this
      omega
    · omega
  have hk2 : 128 ^ k ≤ 128 ^ 9 := Nat.pow_le_pow_right (by decide) (by omega)
  rw [and127 c hc, e, wraps_u64 ((c % 128 : Nat) : Int) (by omega) (by omega), ← Int.natCast_mul, wraps_u64 _ (by omega) (by exact_mod_cast hb)]
  rw [(bits_nat .u64 64 (by decide) wraps_u64 _ _ (by omega) hb).2, Nat.or_comm, Nat.mul_comm, ← e2, ← Nat.two_pow_add_eq_or_of_lt (by rw [e2]; exact hm), Nat.add_comm]

theorem step_lt (k m c : Nat) (hm : m < 128 ^ k) : m + c % 128 * 128 ^ k < 128 ^ (k + 1) := by
  have : c % 128 * 128 ^ k ≤ 127 * 128 ^ k := Nat.mul_le_mul (by omega) (Nat.le_refl _)
  rw [Nat.pow_succ]; omega

theorem sv_end (s : ByteArray) (most top f k m : Nat) (h : ¬ k < s.size) : sv s most top (f + 1) k m = (0, 0, 20) := by simp only [sv]; rw [dif_neg h]
theorem sv_bad (s : ByteArray) (most top f k m : Nat) (h : k < s.size) (hb : (k + 1 = most ∧ top < s[k].toNat) ∨ (0 < k ∧ s[k].toNat = 0)) : sv s most top (f + 1) k m = (0, 0, 4) := by simp only [sv]; rw [dif_pos h, if_pos hb]
theorem sv_last (s : ByteArray) (most top f k m : Nat) (h : k < s.size) (hb : ¬ ((k + 1 = most ∧ top < s[k].toNat) ∨ (0 < k ∧ s[k].toNat = 0))) (hc : s[k].toNat < 128) :
    sv s most top (f + 1) k m = (m + s[k].toNat % 128 * 128 ^ k, k + 1, 0) := by simp only [sv]; rw [dif_pos h, if_neg hb, if_pos hc]
theorem sv_more (s : ByteArray) (most top f k m : Nat) (h : k < s.size) (hb : ¬ ((k + 1 = most ∧ top < s[k].toNat) ∨ (0 < k ∧ s[k].toNat = 0))) (hc : ¬ s[k].toNat < 128) :
    sv s most top (f + 1) k m = sv s most top f (k + 1) (m + s[k].toNat % 128 * 128 ^ k) := by conv => lhs; unfold sv; rw [dif_pos h, if_neg hb, if_neg hc]

theorem sv_facts (s : ByteArray) (most top : Nat) : ∀ f k m, m < 128 ^ k → k + f = most → (sv s most top f k m).2.2 = 0 → (sv s most top f k m).2.1 ≤ s.size ∧ k < (sv s most top f k m).2.1 ∧ (sv s most top f k m).2.1 ≤ most ∧ (sv s most top f k m).1 < 128 ^ (sv s most top f k m).2.1 := by
  intro f
  induction f with
  | zero => intro k m hp hk h; simp [sv] at h
  | succ f ih =>
    intro k m hp hk h
    by_cases h1 : k < s.size
    · by_cases h2 : (k + 1 = most ∧ top < s[k].toNat) ∨ (0 < k ∧ s[k].toNat = 0)
      · rw [sv_bad _ _ _ _ _ _ h1 h2] at h; simp at h
      · by_cases h3 : s[k].toNat < 128
        · rw [sv_last _ _ _ _ _ _ h1 h2 h3]
          exact ⟨h1, by simp, by simp; omega, step_lt k m _ hp⟩
        · rw [sv_more _ _ _ _ _ _ h1 h2 h3] at h ⊢
          have := ih (k + 1) _ (step_lt k m s[k].toNat hp) (by omega) h
          exact ⟨this.1, by omega, this.2.2⟩
    · rw [sv_end _ _ _ _ _ _ h1] at h; simp at h

/-- A number is read: the number, what is wrong, what is left, what is wrong from now on. -/
def rdN (most top : Nat) (s : ByteArray) (e : Nat) : Nat × Nat × ByteArray × Nat :=
  if e = 0 then
    if (sv s most top most 0 0).2.2 = 0 then ((sv s most top most 0 0).1, 0, s.extract (sv s most top most 0 0).2.1 s.size, 0)
    else (0, (sv s most top most 0 0).2.2, s, (sv s most top most 0 0).2.2)
  else (0, e, s, e)
theorem rdN_failed (most top : Nat) (s : ByteArray) (e : Nat) (h : ¬ e = 0) : rdN most top s e = (0, e, s, e) := if_neg h
theorem rdN_wrong (most top : Nat) (s : ByteArray) (h : ¬ (sv s most top most 0 0).2.2 = 0) : rdN most top s 0 = (0, (sv s most top most 0 0).2.2, s, (sv s most top most 0 0).2.2) := by unfold rdN; rw [if_pos rfl, if_neg h]
theorem rdN_ok (most top : Nat) (s : ByteArray) (h : (sv s most top most 0 0).2.2 = 0) : rdN most top s 0 = ((sv s most top most 0 0).1, 0, s.extract (sv s most top most 0 0).2.1 s.size, 0) := by unfold rdN; rw [if_pos rfl, if_pos h]

/-- A byte of a number that is not its last one; the last one. -/
def hi8 (n : Nat) : UInt8 := UInt8.ofNat (n % 128 + 128)
def lo8 (n : Nat) : UInt8 := UInt8.ofNat n
/-- A number's bytes, seven bits a byte. -/
def uv (n : Nat) : List UInt8 := if n ≤ 127 then [lo8 n] else hi8 n :: uv (n / 128)
termination_by n
decreasing_by omega
theorem uv_small (n : Nat) (h : n ≤ 127) : uv n = [lo8 n] := by rw [uv, if_pos h]
theorem uv_big (n : Nat) (h : ¬ n ≤ 127) : uv n = hi8 n :: uv (n / 128) := by rw [uv, if_neg h]
theorem uv_len (n : Nat) : ∀ k, n < 128 ^ (k + 1) → (uv n).length ≤ k + 1 := by
  intro k
  induction k generalizing n with
  | zero =>
    intro h
    rw [uv_small n (by omega)]
    simp
  | succ k ih =>
    intro h
    by_cases hs : n ≤ 127
    · rw [uv_small n hs]
      simp
    · rw [uv_big n hs]
      rw [Nat.pow_succ] at h
      have := ih (n / 128) (by omega)
      simp only [List.length_cons]
      omega
theorem uv_len10 (n : Nat) (h : n < 18446744073709551616) : (uv n).length ≤ 10 := uv_len n 9 (Nat.lt_of_lt_of_le h (by decide))
theorem uv_pos (n : Nat) : 1 ≤ (uv n).length := by
  by_cases hs : n ≤ 127
  · rw [uv_small n hs]; simp
  · rw [uv_big n hs]; simp

theorem u8n (n : Nat) (h : n < 256) : ((UInt8.ofNat n).toNat : Int) = (n : Int) := by
  rw [UInt8.toNat_ofNat', Nat.mod_eq_of_lt h]
theorem or128 (n : Nat) : bits .or .u8 (IntKind.u8.wrap (n : Int)) 128 = ((hi8 n).toNat : Int) := by
  unfold hi8
  rw [u8n _ (by omega), IntKind.wrap_u8]
  have e : ((n : Int) % 256) = ((n % 256 : Nat) : Int) := by simp
  rw [e]
  have h := (bits_nat .u8 8 (by decide) wraps_u8 (n % 256) 128 (by omega) (by omega)).2
  have h2 : (n % 256) ||| 128 = n % 128 + 128 := by
    have h3 := Nat.two_pow_add_eq_or_of_lt (i := 7) (b := n % 128) (by omega) 1
    have h4 : n % 256 = n % 128 ∨ n % 256 = 128 + n % 128 := by omega
    rcases h4 with h4 | h4
    · rw [h4, Nat.or_comm]; rw [show 2 ^ 7 * 1 = 128 by rfl] at h3; omega
    · rw [h4, show 128 + n % 128 = 128 ||| n % 128 from h3, Nat.or_comm 128 (n % 128), Nat.or_assoc, Nat.or_self, Nat.or_comm, ← h3]; omega
  rw [show ((128 : Nat) : Int) = 128 from rfl] at h
  rw [h, h2]
theorem low8 (n : Nat) (h : n ≤ 127) : IntKind.u8.wrap (n : Int) = ((lo8 n).toNat : Int) := by
  unfold lo8
  rw [u8n _ (by omega), IntKind.wrap_u8]
  omega

theorem uv_mono (a : Nat) : ∀ b, a ≤ b → (uv a).length ≤ (uv b).length := by
  induction a using Nat.strongRecOn with
  | ind a ih =>
    intro b h
    by_cases ha : a ≤ 127
    · rw [uv_small a ha]
      exact uv_pos b
    · rw [uv_big a ha, uv_big b (by omega)]
      simp only [List.length_cons]
      have := ih (a / 128) (by omega) (b / 128) (by omega)
      omega

theorem hi8_toNat (n : Nat) : (hi8 n).toNat = n % 128 + 128 := by
  unfold hi8
  rw [UInt8.toNat_ofNat']
  omega
theorem lo8_toNat (n : Nat) (h : n ≤ 127) : (lo8 n).toNat = n := by
  unfold lo8
  rw [UInt8.toNat_ofNat']
  omega

/-- Of two unlike numbers neither's bytes begin with the other's. -/
theorem uv_prefix (a : Nat) : ∀ (b : Nat) (r : List UInt8), uv b = uv a ++ r → a = b ∧ r = [] := by
  induction a using Nat.strongRecOn with
  | ind a ih =>
    intro b r h
    by_cases ha : a ≤ 127
    · by_cases hb : b ≤ 127
      · rw [uv_small a ha, uv_small b hb] at h
        simp only [List.cons_append, List.nil_append, List.cons.injEq] at h
        have := congrArg UInt8.toNat h.1
        rw [lo8_toNat a ha, lo8_toNat b hb] at this
        exact ⟨this.symm, h.2.symm⟩
      · rw [uv_small a ha, uv_big b hb] at h
        simp only [List.cons_append, List.nil_append, List.cons.injEq] at h
        have := congrArg UInt8.toNat h.1
        rw [lo8_toNat a ha, hi8_toNat b] at this
        omega
    · by_cases hb : b ≤ 127
      · rw [uv_big a ha, uv_small b hb] at h
        simp only [List.cons_append, List.cons.injEq] at h
        have := congrArg UInt8.toNat h.1
        rw [hi8_toNat a, lo8_toNat b hb] at this
        omega
      · rw [uv_big a ha, uv_big b hb] at h
        simp only [List.cons_append, List.cons.injEq] at h
        have h1 := congrArg UInt8.toNat h.1
        rw [hi8_toNat a, hi8_toNat b] at h1
        obtain ⟨h2, h3⟩ := ih (a / 128) (by omega) (b / 128) r h.2
        exact ⟨by omega, h3⟩

/-- What is read as a number is, byte by byte, what that number is written as. -/
theorem sv_bytes (s : ByteArray) (most top : Nat) : ∀ f k m, (sv s most top f k m).2.2 = 0 →
    ∃ r, (sv s most top f k m).1 = m + r * 128 ^ k ∧ uv r = (s.data.toList.drop k).take ((sv s most top f k m).2.1 - k) ∧ (0 < k → 0 < r) ∧ k < (sv s most top f k m).2.1 ∧ (sv s most top f k m).2.1 ≤ s.size := by
  intro f
  induction f with
  | zero => intro k m h; simp [sv] at h
  | succ f ih =>
    intro k m h
    by_cases h1 : k < s.size
    · have hlen : k < s.data.toList.length := by rw [Array.length_toList]; exact h1
      have hd : s.data.toList.drop k = s[k] :: s.data.toList.drop (k + 1) := by
        rw [List.drop_eq_getElem_cons hlen]
        rfl
      by_cases h2 : (k + 1 = most ∧ top < s[k].toNat) ∨ (0 < k ∧ s[k].toNat = 0)
      · rw [sv_bad _ _ _ _ _ _ h1 h2] at h; simp at h
      · by_cases h3 : s[k].toNat < 128
        · rw [sv_last _ _ _ _ _ _ h1 h2 h3]
          refine ⟨s[k].toNat, by rw [Nat.mod_eq_of_lt h3], ?_, fun hk => ?_, Nat.lt_succ_self k, h1⟩
          · rw [uv_small _ (by omega), hd, show (k + 1) - k = 1 by omega]
            simp only [List.take_succ_cons, List.take_zero]
            unfold lo8
            rw [UInt8.ofNat_toNat]
          · rcases Nat.eq_zero_or_pos s[k].toNat with h4 | h4
            · exact absurd (.inr ⟨hk, h4⟩) h2
            · exact h4
        · rw [sv_more _ _ _ _ _ _ h1 h2 h3] at h ⊢
          obtain ⟨r, e1, e2, e3, e4, e5⟩ := ih (k + 1) _ h
          have hr := e3 (by omega)
          have hc : s[k].toNat < 256 := UInt8.toNat_lt _
          refine ⟨s[k].toNat % 128 + 128 * r, ?_, ?_, fun _ => by omega, by omega, e5⟩
          · rw [e1, Nat.pow_succ, Nat.add_mul, Nat.add_assoc]
            congr 2
            rw [Nat.mul_comm (128 ^ k) 128, ← Nat.mul_assoc, Nat.mul_comm r 128]
          · rw [uv_big _ (by omega), show (s[k].toNat % 128 + 128 * r) / 128 = r by omega, e2, hd]
            have hj : (sv s most top f (k + 1) (m + s[k].toNat % 128 * 128 ^ k)).2.1 - k = ((sv s most top f (k + 1) (m + s[k].toNat % 128 * 128 ^ k)).2.1 - (k + 1)) + 1 := by omega
            rw [hj, List.take_succ_cons]
            congr 1
            unfold hi8
            rw [show (s[k].toNat % 128 + 128 * r) % 128 + 128 = s[k].toNat by omega, UInt8.ofNat_toNat]
    · rw [sv_end _ _ _ _ _ _ h1] at h; simp at h

/-- The same of a reader's number. -/
theorem rdN_bytes (most top : Nat) (s : ByteArray) (h : (rdN most top s 0).2.1 = 0) :
    uv (rdN most top s 0).1 = s.data.toList.take (s.size - (rdN most top s 0).2.2.1.size) ∧ (rdN most top s 0).2.2.1.size ≤ s.size := by
  by_cases hw : (sv s most top most 0 0).2.2 = 0
  · rw [rdN_ok _ _ _ hw]
    obtain ⟨r, e1, e2, _, _, e5⟩ := sv_bytes s most top most 0 0 hw
    have er : (sv s most top most 0 0).1 = r := by rw [e1]; simp
    have hsz : (s.extract (sv s most top most 0 0).2.1 s.size).size = s.size - (sv s most top most 0 0).2.1 := by simp
    simp only [hsz]
    refine ⟨?_, by omega⟩
    rw [er, e2, show s.size - (s.size - (sv s most top most 0 0).2.1) = (sv s most top most 0 0).2.1 by omega]
    simp
  · rw [rdN_wrong _ _ _ hw] at h
    exact absurd h hw
theorem rdN_stay (most top : Nat) (s : ByteArray) (h : ¬ (rdN most top s 0).2.1 = 0) : (rdN most top s 0).2.2.1 = s := by
  by_cases hw : (sv s most top most 0 0).2.2 = 0
  · rw [rdN_ok _ _ _ hw] at h
    exact absurd rfl h
  · rw [rdN_wrong _ _ _ hw]
end Go.Proofs.Ytmnmmmoeeapeiaa.Cw

