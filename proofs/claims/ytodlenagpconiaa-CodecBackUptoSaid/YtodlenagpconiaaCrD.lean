/- An item's bytes: what the statements' helpers wants and writes do. Own work. -/
import Derived.Test.YtodlenagpconiaaCrC
namespace Go.Proofs.Ytodlenagpconiaa.Cw
open Go.RowKit
set_option linter.unusedVariables false
set_option linter.unusedSimpArgs false

instance fitDec (n size : Int) : Decidable (Fit n size) := by
  unfold Fit
  infer_instance

/-- An item's bytes. -/
def itemB (kind n size : Int) (s : ByteArray) : List UInt8 :=
  if kind = 0 then (if n < 0 then [] else uv n.toNat)
  else if kind = 1 then uv (zig n)
  else if kind = 2 then (if Fit n size then fixB n.toNat size.toNat else [])
  else if 65535 < s.size then [] else uv s.size ++ s.data.toList
/-- What is wrong with an item. -/
def itemE (kind n size : Int) (s : ByteArray) : Nat :=
  if kind = 0 then (if n < 0 then 1 else 0)
  else if kind = 1 then 0
  else if kind = 2 then (if Fit n size then 0 else 1)
  else if 65535 < s.size then 2 else 0

/-- An item as a value. -/
def itemV (kind n size : Int) (s : ByteArray) : Value := .agg #[.int .i64 kind, .int .i64 n, .int .i64 size, .string s]

theorem item0n (n size : Int) (s : ByteArray) (h : n < 0) : itemB 0 n size s = [] ∧ itemE 0 n size s = 1 := by
  unfold itemB itemE; rw [if_pos rfl, if_pos h, if_pos rfl, if_pos h]; exact ⟨rfl, rfl⟩
theorem item0p (n : Nat) (size : Int) (s : ByteArray) : itemB 0 n size s = uv n ∧ itemE 0 n size s = 0 := by
  unfold itemB itemE; rw [if_pos rfl, if_neg (by omega), if_pos rfl, if_neg (by omega)]; exact ⟨rfl, rfl⟩
theorem item1 (n size : Int) (s : ByteArray) : itemB 1 n size s = uv (zig n) ∧ itemE 1 n size s = 0 := ⟨rfl, rfl⟩
theorem item2n (n size : Int) (s : ByteArray) (h : ¬ Fit n size) : itemB 2 n size s = [] ∧ itemE 2 n size s = 1 := by
  unfold itemB itemE; rw [if_neg (by decide), if_neg (by decide), if_pos rfl, if_neg h, if_neg (by decide), if_neg (by decide), if_pos rfl, if_neg h]; exact ⟨rfl, rfl⟩
theorem item2p (n size : Nat) (s : ByteArray) (h : Fit n size) : itemB 2 n size s = fixB n size ∧ itemE 2 n size s = 0 := by
  unfold itemB itemE; rw [if_neg (by decide), if_neg (by decide), if_pos rfl, if_pos h, if_neg (by decide), if_neg (by decide), if_pos rfl, if_pos h]; exact ⟨rfl, rfl⟩
theorem item3l (kind n size : Int) (s : ByteArray) (h0 : ¬ kind = 0) (h1 : ¬ kind = 1) (h2 : ¬ kind = 2) (h : 65535 < s.size) : itemB kind n size s = [] ∧ itemE kind n size s = 2 := by
  unfold itemB itemE; rw [if_neg h0, if_neg h1, if_neg h2, if_pos h, if_neg h0, if_neg h1, if_neg h2, if_pos h]; exact ⟨rfl, rfl⟩
theorem item3 (kind n size : Int) (s : ByteArray) (h0 : ¬ kind = 0) (h1 : ¬ kind = 1) (h2 : ¬ kind = 2) (h : ¬ 65535 < s.size) : itemB kind n size s = uv s.size ++ s.data.toList ∧ itemE kind n size s = 0 := by
  unfold itemB itemE; rw [if_neg h0, if_neg h1, if_neg h2, if_neg h, if_neg h0, if_neg h1, if_neg h2, if_neg h]; exact ⟨rfl, rfl⟩

theorem fit_nat {n size : Int} (hmax : n < 9223372036854775808) (h : Fit n size) : ∃ a b : Nat, n = a ∧ size = b ∧ (b = 1 ∨ b = 2 ∨ b = 4 ∨ b = 8) ∧ a ≤ 2 ^ 63 - 1 ∧ a < 256 ^ b := by
  obtain ⟨hz, h0, h1⟩ := h
  obtain ⟨a, rfl⟩ := Int.eq_ofNat_of_zero_le h0
  obtain ⟨b, rfl⟩ := Int.eq_ofNat_of_zero_le (show 0 ≤ size by omega)
  refine ⟨a, b, rfl, rfl, by omega, by omega, ?_⟩
  rw [Int.toNat_natCast] at h1
  have e : (256 : Int) ^ b = ((256 ^ b : Nat) : Int) := by rw [Int.natCast_pow]; rfl
  rw [e] at h1
  exact Int.ofNat_lt.mp h1

theorem rets {s t : List UInt8} {b d : Int} (h1 : s = t) (h2 : b = d) : Ending.returned (.tuple #[.string ⟨s.toArray⟩, .int .i64 b]) = .returned (.tuple #[.string ⟨t.toArray⟩, .int .i64 d]) := by subst h1; subst h2; rfl

set_option maxRecDepth 100000 in
set_option maxHeartbeats 1600000 in
theorem wants_calls (w : World) (kind n size : Int) (s : ByteArray) (h1 : -9223372036854775808 ≤ n) (h2 : n < 9223372036854775808) (hs : s.size ≤ maxLen) :
    Calls Try.prog 19 #[itemV kind n size s] w fun e w' => e = .returned (.tuple #[.string ⟨(itemB kind n size s).toArray⟩, .int .i64 (itemE kind n size s)]) ∧ Fr w w' (fun _ => False) := by
  unfold itemV
  unfold maxLen at hs
  have HN := hid (And.intro h1 h2)
  clear h1 h2
  by_cases k0 : kind = 0
  · subst k0
    by_cases hn : n < 0
    · have I := hid (item0n n size s hn)
      go_enter Try.func19, Try.ntmps19
      go_wp2
      go_ret2
      rw [I.out.1, I.out.2]
      exact ⟨rfl, (Fr.refl w _).alloc _⟩
    · obtain ⟨m, rfl⟩ := Int.eq_ofNat_of_zero_le (show 0 ≤ n by omega)
      have I := hid (item0p m size s)
      clear hn
      go_enter Try.func19, Try.ntmps19
      go_wp2_with (go_at_call 16; refine (refUint_calls _ m (by have := HN.out; omega)).mono ?_; rintro e w4 ⟨rfl, hf4⟩)
      go_ret2
      rw [I.out.1, I.out.2]
      exact ⟨rfl, ((Fr.refl w _).alloc _).trans hf4⟩
  by_cases k1 : kind = 1
  · subst k1
    have I := hid (item1 n size s)
    clear k0
    go_enter Try.func19, Try.ntmps19
    go_wp2_with (go_at_call 18; refine (refInt_calls _ n HN.out.1 HN.out.2).mono ?_; rintro e w4 ⟨rfl, hf4⟩)
    go_ret2
    rw [I.out.1, I.out.2]
    exact ⟨rfl, ((Fr.refl w _).alloc _).trans hf4⟩
  by_cases k2 : kind = 2
  · subst k2
    clear k0 k1
    by_cases hf : Fit n size
    · obtain ⟨a, b, rfl, rfl, hb, ha, hab⟩ := fit_nat HN.out.2 hf
      have I := hid (item2p a b s hf)
      have HB := hid hb
      have HF := hid hf
      have HA := hid ha
      clear hb hf ha hab
      go_enter Try.func19, Try.ntmps19
      go_wp2_with (first | (go_at_call 34; refine (refFits_yes _ _ _ HF.out).mono ?_; rintro e w4 ⟨rfl, rfl⟩) | (go_at_call 35; refine (refFixed_calls _ a b HA.out (by have := HB.out; omega)).mono ?_; rintro e w4 ⟨rfl, hf4⟩))
      go_ret2
      rw [I.out.1, I.out.2]
      exact ⟨rfl, ((Fr.refl w _).alloc _).trans hf4⟩
    · have I := hid (item2n n size s hf)
      have HF := hid hf
      clear hf
      go_enter Try.func19, Try.ntmps19
      go_wp2_with (go_at_call 34; refine (refFits_no _ _ _ HN.out.2 HF.out).mono ?_; rintro e w4 ⟨rfl, rfl⟩)
      go_ret2
      rw [I.out.1, I.out.2]
      exact ⟨rfl, (Fr.refl w _).alloc _⟩
  have b0 : (kind == 0) = false := by rw [beq_eq_false_iff_ne]; exact k0
  have b1 : (kind == 1) = false := by rw [beq_eq_false_iff_ne]; exact k1
  have b2 : (kind == 2) = false := by rw [beq_eq_false_iff_ne]; exact k2
  by_cases hl : 65535 < s.size
  · have I := hid (item3l kind n size s k0 k1 k2 hl)
    clear k0 k1 k2
    go_enter Try.func19, Try.ntmps19
    go_wp2
    go_ret2
    rw [I.out.1, I.out.2]
    exact ⟨rfl, (Fr.refl w _).alloc _⟩
  · have I := hid (item3 kind n size s k0 k1 k2 hl)
    have hl2 : s.size ≤ 65535 := by omega
    clear k0 k1 k2 hl
    go_enter Try.func19, Try.ntmps19
    go_wp2_with (go_at_call 36; refine (refText_calls _ s hl2).mono ?_; rintro e w4 ⟨rfl, hf4⟩)
    go_ret2
    rw [I.out.1, I.out.2]
    exact ⟨rfl, ((Fr.refl w _).alloc _).trans hf4⟩

set_option maxRecDepth 100000 in
set_option maxHeartbeats 1600000 in
theorem writes_calls (w : World) (g : Nat) (v : Value) (bs : List UInt8) (kind n size : Int) (s : ByteArray) (h1 : -9223372036854775808 ≤ n) (h2 : n < 9223372036854775808) (hs : s.size ≤ maxLen) (h : Wr w g v bs) (hl : Len bs 70000) :
    Calls Try.prog 20 #[.pointer (some ⟨g, 0, none⟩), itemV kind n size s] w fun e w' => e = .returned (.int .i64 (itemE kind n size s)) ∧ Wrote w w' g v (bs ++ itemB kind n size s) := by
  unfold itemV
  have hs2 := hs
  have HS := hid hs
  unfold maxLen at hs2
  clear hs
  have HN := hid (And.intro h1 h2)
  have HL := hid hl
  have HL10 := hid (show Len bs 10 by unfold Len at *; omega)
  clear h1 h2 hl
  by_cases k0 : kind = 0
  · subst k0
    by_cases hn : n < 0
    · have I := hid (item0n n size s hn)
      go_enter Try.func20, Try.ntmps20
      go_wp2_with (go_at_call 10; refine (wUint_neg _ _ n hn).mono ?_; rintro e w4 ⟨rfl, rfl⟩)
      go_ret
      rw [I.out.1, I.out.2, List.append_nil]
      exact ⟨rfl, v, h.alloc _, (Fr.refl w _).alloc _, Wn.refl w v⟩
    · obtain ⟨m, rfl⟩ := Int.eq_ofNat_of_zero_le (show 0 ≤ n by omega)
      have I := hid (item0p m size s)
      clear hn
      go_enter Try.func20, Try.ntmps20
      go_wp2_with (go_at_call 10; refine (wUint_calls _ g v bs m (h.alloc _) (by have := HN.out; omega) HL10.out).mono ?_; rintro e w4 ⟨rfl, v4, x4, hf4, hw4⟩)
      go_ret
      rw [I.out.1, I.out.2]
      exact ⟨rfl, v4, x4, ((Fr.refl w _).alloc _).trans hf4, hw4.alloc⟩
  by_cases k1 : kind = 1
  · subst k1
    have I := hid (item1 n size s)
    clear k0
    go_enter Try.func20, Try.ntmps20
    go_wp2_with (go_at_call 31; refine (wInt_calls _ g v bs n HN.out.1 HN.out.2 (h.alloc _) HL10.out).mono ?_; rintro e w4 ⟨rfl, v4, x4, hf4, hw4⟩)
    go_ret
    rw [I.out.1, I.out.2]
    exact ⟨rfl, v4, x4, ((Fr.refl w _).alloc _).trans hf4, hw4.alloc⟩
  by_cases k2 : kind = 2
  · subst k2
    clear k0 k1
    by_cases hf : Fit n size
    · obtain ⟨a, b, rfl, rfl, hb, ha, hab⟩ := fit_nat HN.out.2 hf
      have I := hid (item2p a b s hf)
      have HB := hid hb
      have HA := hid ha
      have HAB := hid hab
      clear hb hf ha hab
      go_enter Try.func20, Try.ntmps20
      go_wp2_with (go_at_call 37; refine (wFixed_calls _ g v bs a b HB.out HA.out HAB.out (h.alloc _) HL10.out).mono ?_; rintro e w4 ⟨rfl, v4, x4, hf4, hw4⟩)
      go_ret
      rw [I.out.1, I.out.2]
      exact ⟨rfl, v4, x4, ((Fr.refl w _).alloc _).trans hf4, hw4.alloc⟩
    · have I := hid (item2n n size s hf)
      have HF := hid hf
      clear hf
      go_enter Try.func20, Try.ntmps20
      go_wp2_with (go_at_call 37; refine (wFixed_bad _ _ _ _ HN.out.2 HF.out).mono ?_; rintro e w4 ⟨rfl, rfl⟩)
      go_ret
      rw [I.out.1, I.out.2, List.append_nil]
      exact ⟨rfl, v, h.alloc _, (Fr.refl w _).alloc _, Wn.refl w v⟩
  have b0 : (kind == 0) = false := by rw [beq_eq_false_iff_ne]; exact k0
  have b1 : (kind == 1) = false := by rw [beq_eq_false_iff_ne]; exact k1
  have b2 : (kind == 2) = false := by rw [beq_eq_false_iff_ne]; exact k2
  by_cases hl : 65535 < s.size
  · have I := hid (item3l kind n size s k0 k1 k2 hl)
    clear k0 k1 k2
    go_enter Try.func20, Try.ntmps20
    go_wp2_with (go_at_call 32; refine (wText_long _ _ s hl HS.out).mono ?_; rintro e w4 ⟨rfl, rfl⟩)
    go_ret
    rw [I.out.1, I.out.2, List.append_nil]
    exact ⟨rfl, v, h.alloc _, (Fr.refl w _).alloc _, Wn.refl w v⟩
  · have I := hid (item3 kind n size s k0 k1 k2 hl)
    have hl2 : s.size ≤ 65535 := by omega
    clear k0 k1 k2 hl
    go_enter Try.func20, Try.ntmps20
    go_wp2_with (go_at_call 32; refine (wText_calls _ g v bs s (h.alloc _) hl2 HL.out).mono ?_; rintro e w4 ⟨rfl, v4, x4, hf4, hw4⟩)
    go_ret
    rw [I.out.1, I.out.2]
    exact ⟨rfl, v4, x4, ((Fr.refl w _).alloc _).trans hf4, hw4.alloc⟩
end Go.Proofs.Ytodlenagpconiaa.Cw
