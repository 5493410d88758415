/- The writer's calls, each by its contract. Own work. -/
import Derived.Test.YtmnmmmoeeapeiaaJac
import Derived.Laws.BytesArg
namespace Go.Proofs.Ytmnmmmoeeapeiaa.Cw
open Go.RowKit
set_option linter.unusedVariables false
set_option linter.unusedSimpArgs false

/-- The one cell of a new block. -/
theorem cell_new1 (w : World) (x y : Value) (t : TypeId) (h : x = y) : ∀ j u, [y][j]? = some u → (w.alloc (.cells #[x] t)).cell? ((⟨w.heap.size, 0, none⟩ : Addr).add j) = some u := by
  intro j u hj
  subst h
  match j, hj with
  | 0, hj =>
    simp only [List.getElem?_cons_zero, Option.some.injEq] at hj
    subst hj
    show (w.alloc (.cells #[x] t)).cell? ((⟨w.heap.size, 0, none⟩ : Addr).add 0) = some x
    rw [show (⟨w.heap.size, 0, none⟩ : Addr).add 0 = ⟨w.heap.size, 0, none⟩ by simp [Addr.add]]
    exact (cell_blk (alloc_new w _) 0).trans rfl

theorem one_u8 (x : Int) : ∀ u ∈ [Value.int .u8 x], u.oneCell' = true := by
  intro u hu
  simp only [List.mem_singleton] at hu
  subst hu
  rfl

theorem val_u8 {x y : Int} (h : x = y) : Value.int .u8 x = Value.int .u8 y := by rw [h]

theorem info_u8 : (Try.prog.info? 5).map (fun i => (i.zero, i.size, i.bytes)) = some (some (.int .u8 0), 1, 1) := by kernel_rfl

/-- A writer behind a call: its own row is v', it bears bs. -/
def Wrote (w w' : World) (g : Nat) (v : Value) (bs : List UInt8) : Prop := ∃ v', Wr w' g v' bs ∧ Fr w w' (WS g v) ∧ Wn w v v'

theorem Wrote.refl {w : World} {g : Nat} {v : Value} {bs : List UInt8} (h : Wr w g v bs) : Wrote w w g v bs := ⟨v, h, Fr.refl w _, Wn.refl w v⟩

def Len (bs : List UInt8) (n : Nat) : Prop := bs.length + n ≤ 70368744177664

set_option maxRecDepth 100000 in
set_option maxHeartbeats 1600000 in
theorem put_calls (w : World) (g : Nat) (v : Value) (bs : List UInt8) (n : Nat) (h : Wr w g v bs) (hn : n < 18446744073709551616) (hl : Len bs 10) :
    Calls Try.prog 37 #[.pointer (some ⟨g, 0, none⟩), .int .u64 n] w fun e w' => e = .returned (.tuple #[]) ∧ Wrote w w' g v (bs ++ uv n) := by
  have hlen := uv_len10 n hn
  have HL := hid hl
  clear hl hn
  obtain ⟨i0, hi, hz0, hz1, hz2⟩ := info_parts info_u8
  have c0 := h.c0
  have f0 := h.f0
  go_enter Try.func37, Try.ntmps37
  go_wp2
  go_loopw [1] (fun x wr => ∃ (m : Nat) (ds : List UInt8) (v1 : Value), x = .int .u64 m ∧ Hid (ds ++ uv m = uv n) ∧ Wr wr g v1 (bs ++ ds) ∧ Fr w wr (WS g v) ∧ Wn w v v1) (fun x _ => (intOf x).toNat)
  case atStart => exact ⟨n, [], v, rfl, rfl, by simpa using h, Fr.refl w _, Wn.refl w v⟩
  case round =>
    obtain ⟨m, ds, v1, rfl, hm, h1, hf, hw⟩ := hrel
    clear c0 f0
    have c0 := h1.c0
    have f0 := h1.f0
    by_cases hlt : 127 < m
    · have hb : Hid (bs.length + ds.length + 1 ≤ 140737488355328) := hid (by
        have h2 := HL.out
        have h3 := congrArg List.length hm.out
        unfold Len at h2
        simp only [List.length_append] at h3
        omega)
      have hnew := hid (uv_big m (by omega))
      go_wp2_with (at_builtin; refine wpList_append_own2 _ rfl _ _ 35 rfl 0 5 i0 (.int .u8 0) 1 1 Try.underlying35 hi hz0 hz1 hz2 rfl (by decide) _ _ _ rfl (h1.2.alloc _) ⟨wr.heap.size, 0, none⟩ 1 1 (cellsOf [hi8 m]) rfl rfl ?c1 ?c2 ?c3 ?c4 ?c5 ?_)
      case c1 => exact cell_new1 wr _ _ _ (val_u8 (or128 m))
      case c2 => exact one_u8 _
      case c3 => have := hb.out; simp only [List.length_append]; unfold maxLen; omega
      case c4 => have := hb.out; simp only [List.length_append]; omega
      case c5 => omega
      · intro v' w1 hown' hgrow hwn
        have R := h1.step hf hw (by simp) hown' hgrow hwn
        obtain ⟨c1, f1⟩ := h1.grown_c0 hgrow
        obtain ⟨gn, capn, rfl⟩ := own_shape hown' (by omega)
        clear hown' hgrow hwn c0 f0
        go_wp2
        go_roundw
        case rel => exact ⟨m / 128, ds ++ [hi8 m], _, by simp, hid (by rw [List.append_assoc]; have := hm.out; rw [hnew.out] at this; exact this), by rw [← List.append_assoc]; exact R.1, R.2.1, R.2.2⟩
        case measure => simp [intOf]; omega
    · have hb : Hid (bs.length + ds.length + 1 ≤ 140737488355328) := hid (by
        have h2 := HL.out
        have h3 := congrArg List.length hm.out
        have h4 := uv_pos m
        unfold Len at h2
        simp only [List.length_append] at h3
        omega)
      have hle : m ≤ 127 := by omega
      have hnew := hid (uv_small m hle)
      go_wp2_with (at_builtin; refine wpList_append_own2 _ rfl _ _ 35 rfl 0 5 i0 (.int .u8 0) 1 1 Try.underlying35 hi hz0 hz1 hz2 rfl (by decide) _ _ _ rfl (h1.2.alloc _) ⟨wr.heap.size, 0, none⟩ 1 1 (cellsOf [lo8 m]) rfl rfl ?d1 ?d2 ?d3 ?d4 ?d5 ?_)
      case d1 => exact cell_new1 wr _ _ _ (val_u8 (u8n m (by omega)).symm)
      case d2 => exact one_u8 _
      case d3 => have := hb.out; simp only [List.length_append]; unfold maxLen; omega
      case d4 => have := hb.out; simp only [List.length_append]; omega
      case d5 => omega
      · intro v' w1 hown' hgrow hwn
        have R := h1.step hf hw (by simp) hown' hgrow hwn
        obtain ⟨c1, f1⟩ := h1.grown_c0 hgrow
        obtain ⟨gn, capn, rfl⟩ := own_shape hown' (by omega)
        clear hown' hgrow hwn c0 f0
        go_wp2
        go_end0
        refine ⟨rfl, _, ?_, R.2.1, R.2.2⟩
        have := R.1
        rw [List.append_assoc, ← hnew.out, hm.out] at this
        exact this

/-- The number that a writer writes for n with its sign. -/
def zig (n : Int) : Nat := if n < 0 then 2 * (-n - 1).toNat + 1 else 2 * n.toNat

set_option maxRecDepth 100000 in
set_option maxHeartbeats 1600000 in
theorem wUint_neg (w : World) (p : Option Addr) (n : Int) (hn : n < 0) :
    Calls Try.prog 21 #[.pointer p, .int .i64 n] w fun e w' => e = .returned (.int .i64 1) ∧ w = w' := by
  go_enter Try.func21, Try.ntmps21
  go_wp2
  go_ret
  exact ⟨rfl, rfl⟩

set_option maxRecDepth 100000 in
set_option maxHeartbeats 1600000 in
theorem wUint_calls (w : World) (g : Nat) (v : Value) (bs : List UInt8) (n : Nat) (h : Wr w g v bs) (hn : n ≤ 2 ^ 63 - 1) (hl : Len bs 10) :
    Calls Try.prog 21 #[.pointer (some ⟨g, 0, none⟩), .int .i64 n] w fun e w' => e = .returned (.int .i64 0) ∧ Wrote w w' g v (bs ++ uv n) := by
  have HP := hid (put_calls w g v bs n h (by omega) hl)
  go_enter Try.func21, Try.ntmps21
  go_wp2_with (go_at_call 37; refine HP.out.mono ?_; rintro e w' ⟨rfl, hw⟩)
  go_ret
  exact ⟨rfl, hw⟩

theorem zig_bits (n : Int) (h1 : -9223372036854775808 ≤ n) (h2 : n < 9223372036854775808) :
    bits .xor .u64 (IntKind.u64.wrap (IntKind.u64.wrap n * 2)) (IntKind.u64.wrap (n / 9223372036854775808)) = (zig n : Nat) := by
  unfold zig
  rw [wrap_u64, wrap_u64, wrap_u64]
  by_cases hn : n < 0
  · rw [if_pos hn, show n / 9223372036854775808 % 18446744073709551616 = 18446744073709551615 by omega]
    obtain ⟨a, ha⟩ := Int.eq_ofNat_of_zero_le (show 0 ≤ n % 18446744073709551616 * 2 % 18446744073709551616 by omega)
    have ha2 : a < 18446744073709551616 := by omega
    rw [ha]
    have e3 : (BitVec.ofInt 64 (a : Int)).toNat = a := by rw [BitVec.ofInt_natCast, BitVec.toNat_ofNat]; exact Nat.mod_eq_of_lt (by omega)
    show IntKind.u64.wrap ((BitVec.ofInt 64 (a : Int) ^^^ BitVec.ofInt 64 18446744073709551615).toNat : Int) = _
    rw [show BitVec.ofInt 64 18446744073709551615 = BitVec.allOnes 64 by decide, BitVec.xor_allOnes, BitVec.toNat_not, e3, wrap_u64]
    omega
  · rw [if_neg hn, show n / 9223372036854775808 % 18446744073709551616 = 0 by omega]
    obtain ⟨a, ha⟩ := Int.eq_ofNat_of_zero_le (show 0 ≤ n % 18446744073709551616 * 2 % 18446744073709551616 by omega)
    have ha2 : a < 18446744073709551616 := by omega
    rw [ha]
    have e3 : (BitVec.ofInt 64 (a : Int)).toNat = a := by rw [BitVec.ofInt_natCast, BitVec.toNat_ofNat]; exact Nat.mod_eq_of_lt (by omega)
    show IntKind.u64.wrap ((BitVec.ofInt 64 (a : Int) ^^^ BitVec.ofInt 64 0).toNat : Int) = _
    rw [show BitVec.ofInt 64 0 = 0#64 by decide, BitVec.xor_zero, e3, wrap_u64]
    omega
theorem zig_lt (n : Int) (h1 : -9223372036854775808 ≤ n) (h2 : n < 9223372036854775808) : zig n < 18446744073709551616 := by
  unfold zig
  split <;> omega

set_option maxRecDepth 100000 in
set_option maxHeartbeats 1600000 in
theorem wInt_calls (w : World) (g : Nat) (v : Value) (bs : List UInt8) (n : Int) (h1 : -9223372036854775808 ≤ n) (h2 : n < 9223372036854775808) (h : Wr w g v bs) (hl : Len bs 10) :
    Calls Try.prog 57 #[.pointer (some ⟨g, 0, none⟩), .int .i64 n] w fun e w' => e = .returned (.int .i64 0) ∧ Wrote w w' g v (bs ++ uv (zig n)) := by
  have HP := hid (put_calls w g v bs (zig n) h (zig_lt n h1 h2) hl)
  have HZ := hid (zig_bits n h1 h2)
  clear h1 h2
  go_enter Try.func57, Try.ntmps57
  go_wp2_with fail
  rw [HZ.out]
  refine HP.out.mono ?_
  rintro e w' ⟨rfl, hw⟩
  go_wp2
  go_ret
  exact ⟨rfl, hw⟩

theorem conv_own {P : Program} {w : World} {base t e : Nat} {v : Value} {bs : List UInt8} (hs : P.underlying t = some (.slice e)) (he : P.underlying e = some (.int .u8)) (h : w.ownsRow base e 1 v bs.length (cellsOf bs)) :
    ∀ dst, P.underlying dst = some .string → (convert t dst v).run P w = .ok (.string ⟨bs.toArray⟩) w := by
  intro dst hd
  rcases h.2 with ⟨rfl, h0⟩ | ⟨g, cap, cur, rfl, _, _⟩
  · rw [run_convert_bytes_nil w t e hs he 0 0 dst hd, List.eq_nil_of_length_eq_zero h0]
    rfl
  · have hc := h.cells (g := g) rfl
    rw [run_convert_bytes_arg w t e hs he g 0 bs.length cap (bs.map fun b => (b.toNat : Int)) (by simp) (fun i hi => by
      have := hc i (.int .u8 bs[i].toNat) (by unfold cellsOf; simp [hi])
      rw [Addr.add_lit] at this
      rw [this]
      simp [List.getD, hi]) dst hd]
    unfold strOfNums
    have hid2 : ((fun n : Int => UInt8.ofNat n.toNat) ∘ fun b : UInt8 => (b.toNat : Int)) = id := by
      funext b
      simp
    rw [List.map_map, hid2, List.map_id]

theorem wOut_calls (w : World) (g : Nat) (v : Value) (bs : List UInt8) (h : Wr w g v bs) :
    Calls Try.prog 22 #[.pointer (some ⟨g, 0, none⟩)] w fun e w' => e = .returned (.string ⟨bs.toArray⟩) ∧ w = w' := by
  have c0 := h.c0
  have hcv := conv_own Try.underlying35 Try.underlying5 h.2 9 Try.underlying9
  clear h
  go_enter Try.func22, Try.ntmps22
  go_wp2
  go_ret
  exact ⟨rfl, rfl⟩
end Go.Proofs.Ytmnmmmoeeapeiaa.Cw

