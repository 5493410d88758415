/- Are lists of entries the same; which begins with which. Own work. -/
import Derived.Test.YtmnmmmoeeapeiaaJau
import Derived.BigQuiet
import Derived.Test.YtmnmmmoeeapeiaaJam
import Derived.WalkKit
import Derived.Lib.Hide
namespace Go.Proofs.Ytmnmmmoeeapeiaa.Cw
open Go.RowKit
set_option linter.unusedVariables false
set_option linter.unusedSimpArgs false

deriving instance DecidableEq for En
/-- The nine cells of an entry in memory. -/
theorem EsAt.nine {w : World} {b off : Nat} {l : List En} (h : EsAt w b off l) {i : Nat} {x : En} (hx : l[i]? = some x) :
    w.cell? ⟨b, off + i * 9, none⟩ = some (.int .i64 x.a) ∧ w.cell? ⟨b, off + i * 9 + 1, none⟩ = some (.int .i64 x.b) ∧ w.cell? ⟨b, off + i * 9 + 2, none⟩ = some (.int .i64 x.c) ∧ w.cell? ⟨b, off + i * 9 + 3, none⟩ = some (.int .i64 x.k) ∧ w.cell? ⟨b, off + i * 9 + 4, none⟩ = some (.int .i64 x.t) ∧ w.cell? ⟨b, off + i * 9 + 5, none⟩ = some (.int .i64 x.n) ∧ w.cell? ⟨b, off + i * 9 + 6, none⟩ = some (.string x.p) ∧ w.cell? ⟨b, off + i * 9 + 7, none⟩ = some (.string x.q) ∧ w.cell? ⟨b, off + i * 9 + 8, none⟩ = some (.string x.r) :=
  ⟨h i x hx 0 _ rfl, h i x hx 1 _ rfl, h i x hx 2 _ rfl, h i x hx 3 _ rfl, h i x hx 4 _ rfl, h i x hx 5 _ rfl, h i x hx 6 _ rfl, h i x hx 7 _ rfl, h i x hx 8 _ rfl⟩

theorem take_step {l m : List En} {i : Nat} {x y : En} (hx : l[i]? = some x) (hy : m[i]? = some y) (h : l.take i = m.take i) : (l.take (i + 1) = m.take (i + 1)) ↔ x = y := by
  obtain ⟨hl, hx⟩ := List.getElem?_eq_some_iff.1 hx
  obtain ⟨hm, hy⟩ := List.getElem?_eq_some_iff.1 hy
  rw [List.take_succ_eq_append_getElem hl, List.take_succ_eq_append_getElem hm, h, hx, hy]
  simp

theorem eq9_of {x y : En} (h : x ≠ y) : eq9 x.a x.b x.c x.k x.t x.n x.p x.q x.r y.a y.b y.c y.k y.t y.n y.p y.q y.r = false := by
  refine decide_eq_false ?_
  intro h2
  apply h
  obtain ⟨a, b, c, k, t, n, p, q, r⟩ := x
  obtain ⟨a', b', c', k', t', n', p', q', r'⟩ := y
  simp only at h2
  obtain ⟨rfl, rfl, rfl, rfl, rfl, rfl, rfl, rfl, rfl⟩ := h2
  rfl

attribute [local go_sem ↓ high] eqEn
set_option maxRecDepth 100000 in
set_option maxHeartbeats 6400000 in
theorem entries_calls (w : World) (v u : Value) (l m : List En) (hl : Sv w v l) (hm : Sv w u m) (hn : l.length ≤ 4611686018427387904) (hn2 : m.length ≤ 4611686018427387904) :
    Calls Try.prog 26 #[v, u] w fun e w' => e = .returned (.bool (decide (l = m))) ∧ Fr w w' (fun _ => False) := by
  obtain ⟨A, cap, rfl, h1, h2, h3⟩ := hl
  obtain ⟨B, cap2, rfl, k1, k2, k3⟩ := hm
  by_cases hlen : l.length = m.length
  · by_cases h0 : l.length = 0
    · have e1 : l = [] := List.eq_nil_of_length_eq_zero h0
      have e2 : m = [] := List.eq_nil_of_length_eq_zero (by omega)
      subst e1 e2
      clear h1 h2 h3 k1 k2 k3
      simp only [List.length_nil]
      go_enter Try.func26, Try.ntmps26
      go_wp2_with fail
      refine wp_loop_rounds 1 ?_
      rw [rounds_succ]
      go_wp2_with fail
      go_ret
      exact ⟨rfl, Fr.refl w _⟩
    · obtain ⟨b, off, rfl, hb, HA⟩ := h3 (fun e => h0 (by rw [e]; rfl))
      obtain ⟨b2, off2, rfl, hb2, HB⟩ := k3 (fun e => h0 (by rw [hlen, e]; rfl))
      have HA := hid HA
      have HB := hid HB
      have HL := hid hlen
      have HX := hid (fun (i : Nat) (hi : i < l.length) => (⟨_, List.getElem?_eq_getElem hi⟩ : ∃ x, l[i]? = some x))
      have HY := hid (fun (i : Nat) (hi : i < m.length) => (⟨_, List.getElem?_eq_getElem hi⟩ : ∃ x, m[i]? = some x))
      have HE := hid (fun (h : l.take l.length = m.take l.length) => (by rwa [List.take_length, hlen, List.take_length] at h : l = m))
      generalize hQ : decide (l = m) = Q at *
      have HQ := hid hQ
      clear hQ h3 k3 h0
      rw [← hlen] at k1 HY hn2 ⊢
      clear hlen
      generalize hN : l.length = N at *
      have HN := hid hN
      clear hN
      go_enter Try.func26, Try.ntmps26
      go_wp2_with fail
      go_loopw [13] (fun t wr => ∃ i : Nat, i ≤ N ∧ t = .int .i64 i ∧ l.take i = m.take i ∧ Fr w wr (fun _ => False)) (fun t _ => N - (intOf t).toNat)
      case atStart => exact ⟨0, by omega, rfl, by simp, Fr.refl w _⟩
      case round =>
        obtain ⟨i, hi, rfl, ht, hf⟩ := hrel
        by_cases hlt : i < N
        · obtain ⟨x, hx⟩ := HX.out i hlt
          obtain ⟨y, hy⟩ := HY.out i hlt
          obtain ⟨a0, a1, a2, a3, a4, a5, a6, a7, a8⟩ := (HA.out.fr hf).nine hx
          obtain ⟨c0, c1, c2, c3, c4, c5, c6, c7, c8⟩ := (HB.out.fr hf).nine hy
          by_cases hxy : x = y
          · have HT := hid ((take_step hx hy ht).2 hxy)
            have HF := hid hf
            subst hxy
            clear ht hx hy hf
            obtain ⟨a, b, c, k, t, n, p, q, r⟩ := x
            simp only at a0 a1 a2 a3 a4 a5 a6 a7 a8 c0 c1 c2 c3 c4 c5 c6 c7 c8
            have E9 := eq9_yes a b c k t n p q r
            go_wp2_with fail
            go_quiet (fail)
            go_wp2_with fail
            go_round
            case rel => exact ⟨i + 1, by omega, by go_num, HT.out, by first | exact HF.out | exact HF.out.drewN _⟩
            case measure => simp [intOf]; omega
          · have HQ2 : Hid (Q = false) := hid (by
              have h9 := HQ.out
              rw [← h9]
              refine decide_eq_false ?_
              intro e
              apply hxy
              rw [e] at hx
              exact Option.some.inj (hx.symm.trans hy))
            have E9 := eq9_of hxy
            have HF := hid hf
            clear ht hx hy hf hxy
            obtain ⟨a, b, c, k, t, n, p, q, r⟩ := x
            obtain ⟨a', b', c', k', t', n', p', q', r'⟩ := y
            simp only at a0 a1 a2 a3 a4 a5 a6 a7 a8 c0 c1 c2 c3 c4 c5 c6 c7 c8 E9
            go_wp2_with fail
            go_quiet (fail)
            go_wp2_with fail
            go_ret
            exact ⟨ret_b HQ2.out.symm, by first | exact HF.out | exact HF.out.drewN _⟩
        · have he : i = N := by omega
          subst he
          have HQ2 : Hid (Q = true) := hid (by rw [← HQ.out]; exact decide_eq_true (HE.out ht))
          have HF := hid hf
          clear ht hf
          go_wp2_with fail
          go_ret
          exact ⟨ret_b HQ2.out.symm, HF.out⟩
  · have hq : decide (l = m) = false := decide_eq_false (fun e => hlen (by rw [e]))
    have hd : ((l.length : Int) == m.length) = false := by rw [beq_eq_false_iff_ne]; omega
    rw [hq]
    generalize l.length = N at *
    generalize m.length = M at *
    clear h3 k3
    go_enter Try.func26, Try.ntmps26
    go_wp2_with fail
    go_ret
    exact ⟨rfl, Fr.refl w _⟩
end Go.Proofs.Ytmnmmmoeeapeiaa.Cw

/- The sum of some bytes: plain, and the walks of both. Own work. -/
namespace Go.Proofs.Ytmnmmmoeeapeiaa.Cw
open Go.RowKit
set_option linter.unusedVariables false
set_option linter.unusedSimpArgs false

def crS (n : Nat) : Nat := if n % 2 = 1 then (n / 2) ^^^ 2197175160 else n / 2
def crI : Nat → Nat → Nat
  | 0, x => x
  | k + 1, x => crS (crI k x)
def crB (n : Nat) (b : UInt8) : Nat := crI 8 (n ^^^ b.toNat)
def crL (n : Nat) (l : List UInt8) : Nat := l.foldl crB n
/-- The sum. -/
def crc (l : List UInt8) : Nat := crL 4294967295 l ^^^ 4294967295

theorem crS_lt {n : Nat} (h : n < 4294967296) : crS n < 4294967296 := by
  unfold crS
  split
  · exact Nat.xor_lt_two_pow (n := 32) (by omega) (by decide)
  · omega
theorem crI_lt {n : Nat} (h : n < 4294967296) : ∀ k, crI k n < 4294967296
  | 0 => h
  | k + 1 => crS_lt (crI_lt h k)
theorem u8_lt (b : UInt8) : b.toNat < 256 := b.toNat_lt
theorem xb_lt {n : Nat} (h : n < 4294967296) (b : UInt8) : n ^^^ b.toNat < 4294967296 := Nat.xor_lt_two_pow (n := 32) h (by have := u8_lt b; omega)
theorem crB_lt {n : Nat} (h : n < 4294967296) (b : UInt8) : crB n b < 4294967296 := crI_lt (xb_lt h b) 8
theorem crL_lt {n : Nat} (h : n < 4294967296) (l : List UInt8) : crL n l < 4294967296 := by
  induction l generalizing n with
  | nil => exact h
  | cons b r ih => exact ih (crB_lt h b)
theorem crc_lt (l : List UInt8) : crc l < 4294967296 := Nat.xor_lt_two_pow (n := 32) (crL_lt (by decide) l) (by decide)
theorem crL_snoc (n : Nat) (l : List UInt8) (b : UInt8) : crL n (l ++ [b]) = crB (crL n l) b := by
  unfold crL
  rw [List.foldl_append]
  rfl

theorem xor_left_inj {a b c : Nat} (h : a ^^^ b = a ^^^ c) : b = c := by
  have := congrArg (fun x => a ^^^ x) h
  simpa [← Nat.xor_assoc] using this
theorem crS_inj {a b : Nat} (ha : a < 4294967296) (hb : b < 4294967296) (h : crS a = crS b) : a = b := by
  have top : ∀ n, n < 4294967296 → (crS n).testBit 31 = decide (n % 2 = 1) := by
    intro n hn
    unfold crS
    have h2 : (n / 2).testBit 31 = false := Nat.testBit_lt_two_pow (by omega)
    split
    · rename_i h1
      rw [Nat.testBit_xor, h2, decide_eq_true h1]
      decide
    · rename_i h1
      rw [h2, decide_eq_false h1]
  have h1 := top a ha
  rw [h, top b hb] at h1
  have h3 := decide_eq_decide.1 h1
  unfold crS at h
  by_cases h4 : a % 2 = 1
  · rw [if_pos h4, if_pos (h3.2 h4)] at h
    rw [Nat.xor_comm, Nat.xor_comm (b / 2)] at h
    have := xor_left_inj h
    have := h3.2 h4
    omega
  · rw [if_neg h4, if_neg (fun e => h4 (h3.1 e))] at h
    have : ¬ b % 2 = 1 := fun e => h4 (h3.1 e)
    omega
theorem crI_inj {a b : Nat} (ha : a < 4294967296) (hb : b < 4294967296) : ∀ k, crI k a = crI k b → a = b
  | 0, h => h
  | k + 1, h => crI_inj ha hb k (crS_inj (crI_lt ha k) (crI_lt hb k) h)
theorem crL_inj (l : List UInt8) : ∀ {a b : Nat}, a < 4294967296 → b < 4294967296 → crL a l = crL b l → a = b := by
  induction l with
  | nil => intro a b _ _ h; exact h
  | cons x r ih =>
    intro a b ha hb h
    have h1 := ih (crB_lt ha x) (crB_lt hb x) h
    have h2 := crI_inj (xb_lt ha x) (xb_lt hb x) 8 h1
    rw [Nat.xor_comm, Nat.xor_comm b] at h2
    exact xor_left_inj h2
/-- A byte that is turned changes the sum. -/
theorem crc_turned {l : List UInt8} {i : Nat} {b : UInt8} (hi : i < l.length) (hb : b ≠ l[i]) : crc (l.set i b) ≠ crc l := by
  intro h
  unfold crc at h
  rw [Nat.xor_comm, Nat.xor_comm (crL 4294967295 l)] at h
  have h := xor_left_inj h
  have e1 : l.set i b = l.take i ++ b :: l.drop (i + 1) := List.set_eq_take_append_cons_drop.trans (if_pos hi)
  have e2 : l = l.take i ++ l[i] :: l.drop (i + 1) := by rw [List.getElem_cons_drop, List.take_append_drop]
  rw [e1] at h
  conv at h => rhs; rw [e2]
  unfold crL at h
  rw [List.foldl_append, List.foldl_append, List.foldl_cons, List.foldl_cons] at h
  have hA : (l.take i).foldl crB 4294967295 < 4294967296 := crL_lt (by decide) _
  have h1 := crL_inj (l.drop (i + 1)) (crB_lt hA b) (crB_lt hA _) h
  have h2 := crI_inj (xb_lt hA _) (xb_lt hA _) 8 h1
  have h3 := xor_left_inj h2
  exact hb (UInt8.toNat_inj.1 h3)

theorem bits_xor_u32 {x y : Nat} (hx : x < 4294967296) (hy : y < 4294967296) : bits .xor .u32 (x : Int) (y : Int) = ((x ^^^ y : Nat) : Int) := by
  have h := Nat.xor_lt_two_pow (n := 32) hx hy
  have ex : (BitVec.ofInt 32 (x : Int)).toNat = x := by rw [BitVec.ofInt_natCast, BitVec.toNat_ofNat]; exact Nat.mod_eq_of_lt hx
  have ey : (BitVec.ofInt 32 (y : Int)).toNat = y := by rw [BitVec.ofInt_natCast, BitVec.toNat_ofNat]; exact Nat.mod_eq_of_lt hy
  show IntKind.u32.wrap ((BitVec.ofInt 32 (x : Int) ^^^ BitVec.ofInt 32 (y : Int)).toNat : Int) = _
  rw [BitVec.toNat_xor, ex, ey]
  generalize x ^^^ y = z at *
  simp [IntKind.wrap, IntKind.bits, IntKind.signed]
  omega
theorem bits_xor_i64 {x y : Nat} (hx : x < 4294967296) (hy : y < 4294967296) : bits .xor .i64 (x : Int) (y : Int) = ((x ^^^ y : Nat) : Int) := by
  have h := Nat.xor_lt_two_pow (n := 32) hx hy
  have ex : (BitVec.ofInt 64 (x : Int)).toNat = x := by rw [BitVec.ofInt_natCast, BitVec.toNat_ofNat]; exact Nat.mod_eq_of_lt (by omega)
  have ey : (BitVec.ofInt 64 (y : Int)).toNat = y := by rw [BitVec.ofInt_natCast, BitVec.toNat_ofNat]; exact Nat.mod_eq_of_lt (by omega)
  show IntKind.i64.wrap ((BitVec.ofInt 64 (x : Int) ^^^ BitVec.ofInt 64 (y : Int)).toNat : Int) = _
  rw [BitVec.toNat_xor, ex, ey]
  generalize x ^^^ y = z at *
  rw [IntKind.wrap_i64]
  omega
theorem bits_and_one {x : Nat} (hx : x < 4294967296) : bits .and .u32 (x : Int) 1 = ((x % 2 : Nat) : Int) := by
  have ex : (BitVec.ofInt 32 (x : Int)).toNat = x := by rw [BitVec.ofInt_natCast, BitVec.toNat_ofNat]; exact Nat.mod_eq_of_lt hx
  show IntKind.u32.wrap ((BitVec.ofInt 32 (x : Int) &&& BitVec.ofInt 32 1).toNat : Int) = _
  rw [BitVec.toNat_and, ex, show (BitVec.ofInt 32 1).toNat = 1 from rfl, Nat.and_one_is_mod]
  simp [IntKind.wrap, IntKind.bits, IntKind.signed]
  omega
end Go.Proofs.Ytmnmmmoeeapeiaa.Cw
