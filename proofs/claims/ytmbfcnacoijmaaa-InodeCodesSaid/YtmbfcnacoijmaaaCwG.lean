/- The writer's calls, each by its contract. Own work. -/
import Derived.Test.YtmbfcnacoijmaaaCwF
import Derived.Laws.BytesArg
namespace Go.Proofs.Ytmbfcnacoijmaaa.Cw
open Go.RowKit
set_option linter.unusedVariables false
set_option linter.unusedSimpArgs false

/-- The one cell of a new block. -/
theorem cell_new1 (w : World) (x y : Value) (t : TypeId) (h : x = y) : ∀ j u, [y][j]? = some u → (w.alloc (.cells #[x] t)).cell? ((⟨w.heap.size, 0, none⟩ : Addr).add j) = some u := by
  intro j u hj
  subst h
  match j, hj with
  | 0, hj =>
    simp only [List.getElem?_cons_zero, Option.some.injEq] at hj
    subst hj
    show (w.alloc (.cells #[x] t)).cell? ((⟨w.heap.size, 0, none⟩ : Addr).add 0) = some x
    rw [show (⟨w.heap.size, 0, none⟩ : Addr).add 0 = ⟨w.heap.size, 0, none⟩ by simp [Addr.add]]
    exact (cell_blk (alloc_new w _) 0).trans rfl

theorem one_u8 (x : Int) : ∀ u ∈ [Value.int .u8 x], u.oneCell' = true := by
  intro u hu
  simp only [List.mem_singleton] at hu
  subst hu
  rfl

theorem val_u8 {x y : Int} (h : x = y) : Value.int .u8 x = Value.int .u8 y := by rw [h]

theorem info_u8 : (Try.prog.info? 5).map (fun i => (i.zero, i.size, i.bytes)) = some (some (.int .u8 0), 1, 1) := by kernel_rfl

/-- A writer behind a call: its own row is v', it bears bs. -/
def Wrote (w w' : World) (g : Nat) (v : Value) (bs : List UInt8) : Prop := ∃ v', Wr w' g v' bs ∧ Fr w w' (WS g v) ∧ Wn w v v'

theorem Wrote.refl {w : World} {g : Nat} {v : Value} {bs : List UInt8} (h : Wr w g v bs) : Wrote w w g v bs := ⟨v, h, Fr.refl w _, Wn.refl w v⟩

def Len (bs : List UInt8) (n : Nat) : Prop := bs.length + n ≤ 70368744177664

/-- The number that a writer writes for n with its sign. -/
def zig (n : Int) : Nat := if n < 0 then 2 * (-n - 1).toNat + 1 else 2 * n.toNat

theorem zig_bits (n : Int) (h1 : -9223372036854775808 ≤ n) (h2 : n < 9223372036854775808) :
    bits .xor .u64 (IntKind.u64.wrap (IntKind.u64.wrap n * 2)) (IntKind.u64.wrap (n / 9223372036854775808)) = (zig n : Nat) := by
  unfold zig
  rw [wrap_u64, wrap_u64, wrap_u64]
  by_cases hn : n < 0
  · rw [if_pos hn, show n / 9223372036854775808 % 18446744073709551616 = 18446744073709551615 by omega]
    obtain ⟨a, ha⟩ := Int.eq_ofNat_of_zero_le (show 0 ≤ n % 18446744073709551616 * 2 % 18446744073709551616 by omega)
    have ha2 : a < 18446744073709551616 := by omega
    rw [ha]
    have e3 : (BitVec.ofInt 64 (a : Int)).toNat = a := by rw [BitVec.ofInt_natCast, BitVec.toNat_ofNat]; exact Nat.mod_eq_of_lt (by omega)
    show IntKind.u64.wrap ((BitVec.ofInt 64 (a : Int) ^^^ BitVec.ofInt 64 18446744073709551615).toNat : Int) = _
    rw [show BitVec.ofInt 64 18446744073709551615 = BitVec.allOnes 64 by decide, BitVec.xor_allOnes, BitVec.toNat_not, e3, wrap_u64]
    omega
  · rw [if_neg hn, show n / 9223372036854775808 % 18446744073709551616 = 0 by omega]
    obtain ⟨a, ha⟩ := Int.eq_ofNat_of_zero_le (show 0 ≤ n % 18446744073709551616 * 2 % 18446744073709551616 by omega)
    have ha2 : a < 18446744073709551616 := by omega
    rw [ha]
    have e3 : (BitVec.ofInt 64 (a : Int)).toNat = a := by rw [BitVec.ofInt_natCast, BitVec.toNat_ofNat]; exact Nat.mod_eq_of_lt (by omega)
    show IntKind.u64.wrap ((BitVec.ofInt 64 (a : Int) ^^^ BitVec.ofInt 64 0).toNat : Int) = _
    rw [show BitVec.ofInt 64 0 = 0#64 by decide, BitVec.xor_zero, e3, wrap_u64]
    omega
theorem zig_lt (n : Int) (h1 : -9223372036854775808 ≤ n) (h2 : n < 9223372036854775808) : zig n < 18446744073709551616 := by
  unfold zig
  split <;> omega

theorem conv_own {P : Program} {w : World} {base t e : Nat} {v : Value} {bs : List UInt8} (hs : P.underlying t = some (.slice e)) (he : P.underlying e = some (.int .u8)) (h : w.ownsRow base e 1 v bs.length (cellsOf bs)) :
    ∀ dst, P.underlying dst = some .string → (convert t dst v).run P w = .ok (.string ⟨bs.toArray⟩) w := by
  intro dst hd
  rcases h.2 with ⟨rfl, h0⟩ | ⟨g, cap, cur, rfl, _, _⟩
  · rw [run_convert_bytes_nil w t e hs he 0 0 dst hd, List.eq_nil_of_length_eq_zero h0]
    rfl
  · have hc := h.cells (g := g) rfl
    rw [run_convert_bytes_arg w t e hs he g 0 bs.length cap (bs.map fun b => (b.toNat : Int)) (by simp) (fun i hi => by
      have := hc i (.int .u8 bs[i].toNat) (by unfold cellsOf; simp [hi])
      rw [Addr.add_lit] at this
      rw [this]
      simp [List.getD, hi]) dst hd]
    unfold strOfNums
    have hid2 : ((fun n : Int => UInt8.ofNat n.toNat) ∘ fun b : UInt8 => (b.toNat : Int)) = id := by
      funext b
      simp
    rw [List.map_map, hid2, List.map_id]

theorem wOut_calls (w : World) (g : Nat) (v : Value) (bs : List UInt8) (h : Wr w g v bs) :
    Calls Try.prog 31 #[.pointer (some ⟨g, 0, none⟩)] w fun e w' => e = .returned (.string ⟨bs.toArray⟩) ∧ w = w' := by
  have c0 := h.c0
  have hcv := conv_own Try.underlying64 Try.underlying5 h.2 9 Try.underlying9
  clear h
  go_enter Try.func31, Try.ntmps31
  go_wp2
  go_ret
  exact ⟨rfl, rfl⟩
end Go.Proofs.Ytmbfcnacoijmaaa.Cw
