/- A row of bytes, a byte turned; a sealed text of which a byte is turned. Written by mkmgq.py. Own work. -/
import Derived.Test.YtmnmmmoeeapeiaaJbq
import Derived.Lib.ConvBytes
namespace Go.Proofs.Ytmnmmmoeeapeiaa.Cw
open Go.RowKit
set_option linter.unusedVariables false
set_option linter.unusedSimpArgs false

/-- A row of bytes (what lies behind them may be frozen). -/
def Br (W : World) (rb : Nat) (l : List UInt8) : Prop := ∃ cs lo hi, W.heap[rb]? = some (.cells cs 5 (lo, hi)) ∧ l.length ≤ lo ∧ l.length ≤ cs.size ∧ ∀ j (h : j < l.length), cs[j]? = some (.int .u8 ((l[j].toNat : Nat) : Int))
theorem Br.cell {W : World} {rb : Nat} {l : List UInt8} (h : Br W rb l) {j : Nat} (hj : j < l.length) : W.cell? ⟨rb, j, none⟩ = some (.int .u8 ((l[j].toNat : Nat) : Int)) := by
  obtain ⟨cs, lo, hi, h1, h2, h3, h4⟩ := h
  unfold World.cell?
  simp only [h1]
  exact h4 j hj
theorem Br.free {W : World} {rb : Nat} {l : List UInt8} (h : Br W rb l) {j : Nat} (hj : j < l.length) : W.frozen? ⟨rb, j, none⟩ = false := by
  obtain ⟨cs, lo, hi, h1, h2, h3, h4⟩ := h
  unfold World.frozen?
  simp only [h1]
  rw [decide_eq_false (by omega : ¬ lo ≤ j)]
  rfl
theorem Br.set {W : World} {rb : Nat} {l : List UInt8} (h : Br W rb l) {j : Nat} (hj : j < l.length) (b : UInt8) : Br (W.setCell ⟨rb, j, none⟩ (.int .u8 ((b.toNat : Nat) : Int))) rb (l.set j b) := by
  obtain ⟨cs, lo, hi, h1, h2, h3, h4⟩ := h
  refine ⟨cs.setIfInBounds j (.int .u8 ((b.toNat : Nat) : Int)), lo, hi, ?_, by rw [List.length_set]; exact h2, by rw [List.length_set, Array.size_setIfInBounds]; exact h3, fun i hi2 => ?_⟩
  · simp only [World.setCell, Array.getElem?_modify, h1]
    simp
  · rw [List.length_set] at hi2
    rw [Array.getElem?_setIfInBounds]
    by_cases he : j = i
    · subst he
      rw [if_pos rfl, if_pos (by omega)]
      simp
    · rw [if_neg he, h4 i hi2, List.getElem_set_ne he]
theorem Br.keep {W W' : World} {rb : Nat} {l : List UInt8} (h : Br W rb l) {S : Nat → Prop} (hf : Fr W W' S) (hs : ¬ S rb) : Br W' rb l := by
  obtain ⟨cs, lo, hi, h1, h2⟩ := h
  exact ⟨cs, lo, hi, hf.at_ h1 hs, h2⟩
theorem Br.back {W : World} {rb : Nat} {l : List UInt8} (h : Br W rb l) (cap : Nat) : (convert 35 9 (.slice (some ⟨rb, 0, none⟩) l.length cap)).run Try.prog W = .ok (.string ⟨l.toArray⟩) W := by
  rw [run_convert_bytes_arg W 35 5 Try.underlying35 Try.underlying5 rb 0 l.length cap (l.map (fun b => ((b.toNat : Nat) : Int))) (by rw [List.length_map]) (fun i hi => by
    rw [Nat.zero_add, h.cell hi, List.getD_eq_getElem?_getD, List.getElem?_map, List.getElem?_eq_getElem hi]
    rfl) 9 Try.underlying9]
  congr 2
  apply ByteArray.ext
  apply Array.toList_inj.1
  rw [strOfNums_data, List.map_map, List.toList_toArray]
  conv => rhs; rw [← List.map_id l]
  apply List.map_congr_left
  intro b _
  simp
theorem made_bytes (w : World) (s : ByteArray) : Br (Lib.bytesWorld w 5 s) w.heap.size s.data.toList ∧ Fr w (Lib.bytesWorld w 5 s) (fun _ => False) := by
  refine ⟨⟨_, _, _, Lib.bytesWorld_at_new w 5 s, ?_, ?_, fun j hj => ?_⟩, ?_⟩
  · unfold Lib.bytesCells
    rw [Array.size_append, Array.size_map, Array.length_toList]
    omega
  · unfold Lib.bytesCells
    rw [Array.size_append, Array.size_map, Array.length_toList]
    omega
  · rw [Array.length_toList] at hj
    unfold Lib.bytesCells
    rw [Array.getElem?_append_left (by rw [Array.size_map]; exact hj), Array.getElem?_map, Array.getElem?_eq_getElem hj]
    simp
  · have hs := Lib.bytesWorld_size w 5 s
    refine ⟨?_, ?_, ?_, by omega, fun i hi _ => Lib.bytesWorld_at_old w 5 s i hi⟩
    all_goals
      unfold Lib.bytesWorld World.freeze
      split <;> rfl
theorem bits_xor_u8 {x y : Nat} (hx : x < 256) (hy : y < 256) : bits .xor .u8 (x : Int) (y : Int) = ((x ^^^ y : Nat) : Int) := by
  have h := Nat.xor_lt_two_pow (n := 8) hx hy
  have ex : (BitVec.ofInt 8 (x : Int)).toNat = x := by rw [BitVec.ofInt_natCast, BitVec.toNat_ofNat]; exact Nat.mod_eq_of_lt hx
  have ey : (BitVec.ofInt 8 (y : Int)).toNat = y := by rw [BitVec.ofInt_natCast, BitVec.toNat_ofNat]; exact Nat.mod_eq_of_lt hy
  show IntKind.u8.wrap ((BitVec.ofInt 8 (x : Int) ^^^ BitVec.ofInt 8 (y : Int)).toNat : Int) = _
  rw [BitVec.toNat_xor, ex, ey]
  generalize x ^^^ y = z at *
  simp [IntKind.wrap, IntKind.bits, IntKind.signed]
  omega

/-- The byte with a bit turned. -/
def tb (b : UInt8) (sh : Nat) : UInt8 := UInt8.ofNat (b.toNat ^^^ 2 ^ sh)
theorem pow_lt8 {sh : Nat} (h : sh < 8) : 2 ^ sh < 256 := by
  rcases (show sh = 0 ∨ sh = 1 ∨ sh = 2 ∨ sh = 3 ∨ sh = 4 ∨ sh = 5 ∨ sh = 6 ∨ sh = 7 by omega) with rfl | rfl | rfl | rfl | rfl | rfl | rfl | rfl <;> decide
theorem tb_toNat (b : UInt8) {sh : Nat} (h : sh < 8) : (tb b sh).toNat = b.toNat ^^^ 2 ^ sh := by
  unfold tb
  rw [UInt8.toNat_ofNat']
  exact Nat.mod_eq_of_lt (Nat.xor_lt_two_pow (n := 8) b.toNat_lt (pow_lt8 h))
theorem tb_ne (b : UInt8) {sh : Nat} (h : sh < 8) : tb b sh ≠ b := by
  intro e
  have h1 := tb_toNat b h
  rw [e] at h1
  have h2 : b.toNat ^^^ 0 = b.toNat ^^^ 2 ^ sh := by rw [Nat.xor_zero]; exact h1
  have h3 := xor_left_inj h2
  have h4 : 0 < 2 ^ sh := Nat.two_pow_pos sh
  omega
theorem turned_val (b : UInt8) {dq sh : Nat} (h : dq % 8 = sh) (hd : dq < 9223372036854775808) :
    bits .xor .u8 (b.toNat : Int) (IntKind.u8.wrap (2 ^ min (IntKind.u64.wrap ((IntKind.i64.wrap (dq : Int)).tmod 8)).toNat 8)) = (((tb b sh).toNat : Nat) : Int) := by
  have hs : sh < 8 := by omega
  rw [IntWalk.i64_in _ (by omega)]
  have e3 : (dq : Int).tmod 8 = (sh : Int) := by rw [← h]; exact Int.ofNat_tmod _ _
  rw [e3]
  have e4 : IntKind.u64.wrap (sh : Int) = (sh : Int) := by
    simp [IntKind.wrap, IntKind.bits, IntKind.signed]
    omega
  rw [e4, Int.toNat_natCast, Nat.min_eq_left (by omega)]
  have e5 : IntKind.u8.wrap ((2 : Int) ^ sh) = ((2 ^ sh : Nat) : Int) := by
    have := pow_lt8 hs
    rw [show ((2 : Int) ^ sh) = ((2 ^ sh : Nat) : Int) by rw [Int.natCast_pow]; rfl]
    generalize 2 ^ sh = z at *
    simp [IntKind.wrap, IntKind.bits, IntKind.signed]
    omega
  rw [e5, bits_xor_u8 b.toNat_lt (pow_lt8 hs), tb_toNat b hs]
theorem fixB_inj {n m : Nat} (hn : n < 4294967296) (hm : m < 4294967296) (h : fixB n 4 = fixB m 4) : n = m := by
  have h1 := rd_fix n 4 [] (by omega) (by omega)
  have h2 := rd_fix m 4 [] (by omega) (by omega)
  rw [h, h2] at h1
  simp only [Prod.mk.injEq] at h1
  exact h1.1.symm
theorem seal_list (t : ByteArray) : (sealS t).data.toList = t.data.toList ++ fixB (crc t.data.toList) 4 := by
  unfold sealS
  rw [ByteArray.data_append, Array.toList_append]
/-- A sealed text of which a byte is turned is none. -/
theorem turned_no {t : ByteArray} {ix : Nat} {b : UInt8} (hi : ix < (sealS t).data.toList.length) (hb : b ≠ (sealS t).data.toList[ix]) : ¬ opE ⟨((sealS t).data.toList.set ix b).toArray⟩ = 0 := by
  intro h
  obtain ⟨h1, h2⟩ := open_ok h
  generalize opS ⟨((sealS t).data.toList.set ix b).toArray⟩ = t' at *
  have h3 := congrArg (fun x : ByteArray => x.data.toList) h1
  simp only at h3
  rw [list_of, seal_list t'] at h3
  have hz : (⟨((sealS t).data.toList.set ix b).toArray⟩ : ByteArray).size = t.size + 4 := by
    show ((sealS t).data.toList.set ix b).toArray.size = _
    rw [List.size_toArray, List.length_set, ba_len, sealS_size]
  have hlen : t.data.toList.length = t'.data.toList.length := by rw [ba_len, ba_len]; omega
  have hf : ∀ n, (fixB n 4).length = 4 := fun n => fixB_len n 4
  by_cases hx : ix < t.data.toList.length
  · have hb2 : b ≠ t.data.toList[ix] := by
      intro e
      apply hb
      rw [e]
      simp only [seal_list]
      rw [List.getElem_append_left hx]
    rw [seal_list t, List.set_append_left _ _ hx] at h3
    obtain ⟨e1, e2⟩ := List.append_inj h3 (by rw [List.length_set]; exact hlen)
    have e3 := fixB_inj (crc_lt _) (crc_lt _) e2
    rw [← e1] at e3
    exact crc_turned hx hb2 e3.symm
  · have hx2 : t.data.toList.length ≤ ix := by omega
    rw [seal_list t, List.set_append_right _ _ hx2] at h3
    obtain ⟨e1, e2⟩ := List.append_inj h3 hlen
    rw [← e1] at e2
    apply hb
    have hj : ix - t.data.toList.length < (fixB (crc t.data.toList) 4).length := by
      rw [seal_list, List.length_append] at hi
      omega
    simp only [seal_list]
    rw [List.getElem_append_right hx2]
    have e3 : ((fixB (crc t.data.toList) 4).set (ix - t.data.toList.length) b)[ix - t.data.toList.length]? = (fixB (crc t.data.toList) 4)[ix - t.data.toList.length]? := by rw [e2]
    rw [List.getElem?_set_self hj, List.getElem?_eq_getElem hj] at e3
    exact Option.some.inj e3
theorem Br.at_ {W : World} {rb j : Nat} {l : List UInt8} {b : UInt8} (h : Br W rb l) (hb : l[j]? = some b) : W.cell? ⟨rb, j, none⟩ = some (.int .u8 ((b.toNat : Nat) : Int)) ∧ W.frozen? ⟨rb, j, none⟩ = false ∧ ∀ b' : UInt8, Br (W.setCell ⟨rb, j, none⟩ (.int .u8 ((b'.toNat : Nat) : Int))) rb (l.set j b') := by
  obtain ⟨hj, rfl⟩ := List.getElem?_eq_some_iff.1 hb
  exact ⟨h.cell hj, h.free hj, fun b' => h.set hj b'⟩
theorem tb_zero {b : UInt8} : bits .xor .u8 (b.toNat : Int) 1 = (((tb b 0).toNat : Nat) : Int) := by
  have := bits_xor_u8 (x := b.toNat) (y := 1) b.toNat_lt (by omega)
  rw [tb_toNat b (by omega)]
  exact this
theorem turned_val2 {sh : Nat} (hs : sh < 8) (b : UInt8) : bits .xor .u8 (b.toNat : Int) (2 ^ sh % 256) = (((tb b sh).toNat : Nat) : Int) := by
  have e5 : ((2 : Int) ^ sh % 256) = ((2 ^ sh : Nat) : Int) := by
    have := pow_lt8 hs
    rw [show ((2 : Int) ^ sh) = ((2 ^ sh : Nat) : Int) by rw [Int.natCast_pow]; rfl]
    generalize 2 ^ sh = z at *
    omega
  rw [e5, bits_xor_u8 b.toNat_lt (pow_lt8 hs), tb_toNat b hs]
theorem noEnc_open {s : ByteArray} (h : ¬ opE s = 0) : NoEnc s := fun k v n a c l hE => h (enc_open hE).1
theorem cut_no (s : ByteArray) (q : Nat) (hq : q ≤ 3) : NoEnc (s.extract 0 q) := by
  apply noEnc_open
  unfold opE
  rw [if_pos (by rw [ByteArray.size_extract]; omega)]
  decide
end Go.Proofs.Ytmnmmmoeeapeiaa.Cw
