/- ChunkSpoilt: the walk. Own work. -/
import Derived.Test.YthnigmbdacjlnaaChunkWholeTop
import Derived.StillTailTactics
import Derived.Lib.ConvBytes
namespace Go.Proofs.Ythnigmbdacjlnaa.Cw
open Go.RowKit
set_option linter.unusedVariables false
set_option linter.unusedSimpArgs false

/-- A row of bytes (what lies behind them may be frozen). -/
def Br (W : World) (rb : Nat) (l : List UInt8) : Prop := ∃ cs lo hi, W.heap[rb]? = some (.cells cs 5 (lo, hi)) ∧ l.length ≤ lo ∧ l.length ≤ cs.size ∧ ∀ j (h : j < l.length), cs[j]? = some (.int .u8 ((l[j].toNat : Nat) : Int))
theorem Br.cell {W : World} {rb : Nat} {l : List UInt8} (h : Br W rb l) {j : Nat} (hj : j < l.length) : W.cell? ⟨rb, j, none⟩ = some (.int .u8 ((l[j].toNat : Nat) : Int)) := by
  obtain ⟨cs, lo, hi, h1, h2, h3, h4⟩ := h
  unfold World.cell?
  simp only [h1]
  exact h4 j hj
theorem Br.free {W : World} {rb : Nat} {l : List UInt8} (h : Br W rb l) {j : Nat} (hj : j < l.length) : W.frozen? ⟨rb, j, none⟩ = false := by
  obtain ⟨cs, lo, hi, h1, h2, h3, h4⟩ := h
  unfold World.frozen?
  simp only [h1]
  rw [decide_eq_false (by omega : ¬ lo ≤ j)]
  rfl
theorem Br.set {W : World} {rb : Nat} {l : List UInt8} (h : Br W rb l) {j : Nat} (hj : j < l.length) (b : UInt8) : Br (W.setCell ⟨rb, j, none⟩ (.int .u8 ((b.toNat : Nat) : Int))) rb (l.set j b) := by
  obtain ⟨cs, lo, hi, h1, h2, h3, h4⟩ := h
  refine ⟨cs.setIfInBounds j (.int .u8 ((b.toNat : Nat) : Int)), lo, hi, ?_, by rw [List.length_set]; exact h2, by rw [List.length_set, Array.size_setIfInBounds]; exact h3, fun i hi2 => ?_⟩
  · simp only [World.setCell, Array.getElem?_modify, h1]
    simp
  · rw [List.length_set] at hi2
    rw [Array.getElem?_setIfInBounds]
    by_cases he : j = i
    · subst he
      rw [if_pos rfl, if_pos (by omega)]
      simp
    · rw [if_neg he, h4 i hi2, List.getElem_set_ne he]
theorem Br.keep {W W' : World} {rb : Nat} {l : List UInt8} (h : Br W rb l) {S : Nat → Prop} (hf : Fr W W' S) (hs : ¬ S rb) : Br W' rb l := by
  obtain ⟨cs, lo, hi, h1, h2⟩ := h
  exact ⟨cs, lo, hi, hf.at_ h1 hs, h2⟩
theorem Br.back {W : World} {rb : Nat} {l : List UInt8} (h : Br W rb l) (cap : Nat) : (convert 59 9 (.slice (some ⟨rb, 0, none⟩) l.length cap)).run Try.prog W = .ok (.string ⟨l.toArray⟩) W := by
  rw [run_convert_bytes_arg W 59 5 Try.underlying59 Try.underlying5 rb 0 l.length cap (l.map (fun b => ((b.toNat : Nat) : Int))) (by rw [List.length_map]) (fun i hi => by
    rw [Nat.zero_add, h.cell hi, List.getD_eq_getElem?_getD, List.getElem?_map, List.getElem?_eq_getElem hi]
    rfl) 9 Try.underlying9]
  congr 2
  apply ByteArray.ext
  apply Array.toList_inj.1
  rw [strOfNums_data, List.map_map, List.toList_toArray]
  conv => rhs; rw [← List.map_id l]
  apply List.map_congr_left
  intro b _
  simp
theorem made_bytes (w : World) (s : ByteArray) : Br (Lib.bytesWorld w 5 s) w.heap.size s.data.toList ∧ Fr w (Lib.bytesWorld w 5 s) (fun _ => False) := by
  refine ⟨⟨_, _, _, Lib.bytesWorld_at_new w 5 s, ?_, ?_, fun j hj => ?_⟩, ?_⟩
  · unfold Lib.bytesCells
    rw [Array.size_append, Array.size_map, Array.length_toList]
    omega
  · unfold Lib.bytesCells
    rw [Array.size_append, Array.size_map, Array.length_toList]
    omega
  · rw [Array.length_toList] at hj
    unfold Lib.bytesCells
    rw [Array.getElem?_append_left (by rw [Array.size_map]; exact hj), Array.getElem?_map, Array.getElem?_eq_getElem hj]
    simp
  · have hs := Lib.bytesWorld_size w 5 s
    refine ⟨?_, ?_, ?_, by omega, fun i hi _ => Lib.bytesWorld_at_old w 5 s i hi⟩
    all_goals
      unfold Lib.bytesWorld World.freeze
      split <;> rfl
theorem bits_xor_u8 {x y : Nat} (hx : x < 256) (hy : y < 256) : bits .xor .u8 (x : Int) (y : Int) = ((x ^^^ y : Nat) : Int) := by
  have h := Nat.xor_lt_two_pow (n := 8) hx hy
  have ex : (BitVec.ofInt 8 (x : Int)).toNat = x := by rw [BitVec.ofInt_natCast, BitVec.toNat_ofNat]; exact Nat.mod_eq_of_lt hx
  have ey : (BitVec.ofInt 8 (y : Int)).toNat = y := by rw [BitVec.ofInt_natCast, BitVec.toNat_ofNat]; exact Nat.mod_eq_of_lt hy
  show IntKind.u8.wrap ((BitVec.ofInt 8 (x : Int) ^^^ BitVec.ofInt 8 (y : Int)).toNat : Int) = _
  rw [BitVec.toNat_xor, ex, ey]
  generalize x ^^^ y = z at *
  simp [IntKind.wrap, IntKind.bits, IntKind.signed]
  omega

/-- The byte with a bit turned. -/
def tb (b : UInt8) (sh : Nat) : UInt8 := UInt8.ofNat (b.toNat ^^^ 2 ^ sh)
theorem pow_lt8 {sh : Nat} (h : sh < 8) : 2 ^ sh < 256 := by
  rcases (show sh = 0 ∨ sh = 1 ∨ sh = 2 ∨ sh = 3 ∨ sh = 4 ∨ sh = 5 ∨ sh = 6 ∨ sh = 7 by omega) with rfl | rfl | rfl | rfl | rfl | rfl | rfl | rfl <;> decide
theorem tb_toNat (b : UInt8) {sh : Nat} (h : sh < 8) : (tb b sh).toNat = b.toNat ^^^ 2 ^ sh := by
  unfold tb
  rw [UInt8.toNat_ofNat']
  exact Nat.mod_eq_of_lt (Nat.xor_lt_two_pow (n := 8) b.toNat_lt (pow_lt8 h))
theorem tb_ne (b : UInt8) {sh : Nat} (h : sh < 8) : tb b sh ≠ b := by
  intro e
  have h1 := tb_toNat b h
  rw [e] at h1
  have h2 : b.toNat ^^^ 0 = b.toNat ^^^ 2 ^ sh := by rw [Nat.xor_zero]; exact h1
  have h3 := xor_left_inj h2
  have h4 : 0 < 2 ^ sh := Nat.two_pow_pos sh
  omega
theorem turned_val (b : UInt8) {dq sh : Nat} (h : dq % 8 = sh) (hd : dq < 9223372036854775808) :
    bits .xor .u8 (b.toNat : Int) (IntKind.u8.wrap (2 ^ min (IntKind.u64.wrap ((IntKind.i64.wrap (dq : Int)).tmod 8)).toNat 8)) = (((tb b sh).toNat : Nat) : Int) := by
  have hs : sh < 8 := by omega
  rw [IntWalk.i64_in _ (by omega)]
  have e3 : (dq : Int).tmod 8 = (sh : Int) := by rw [← h]; exact Int.ofNat_tmod _ _
  rw [e3]
  have e4 : IntKind.u64.wrap (sh : Int) = (sh : Int) := by
    simp [IntKind.wrap, IntKind.bits, IntKind.signed]
    omega
  rw [e4, Int.toNat_natCast, Nat.min_eq_left (by omega)]
  have e5 : IntKind.u8.wrap ((2 : Int) ^ sh) = ((2 ^ sh : Nat) : Int) := by
    have := pow_lt8 hs
    rw [show ((2 : Int) ^ sh) = ((2 ^ sh : Nat) : Int) by rw [Int.natCast_pow]; rfl]
    generalize 2 ^ sh = z at *
    simp [IntKind.wrap, IntKind.bits, IntKind.signed]
    omega
  rw [e5, bits_xor_u8 b.toNat_lt (pow_lt8 hs), tb_toNat b hs]
theorem ck_spoilt {bs : List ByteArray} {j ix : Nat} {b : UInt8} {d t n q : Int} {s : ByteArray} (h : ckAt bs j = ⟨d, t, n, s, q⟩) (hi : ix < s.data.toList.length) (hb : b ≠ s.data.toList[ix]) : ckB ⟨d, t, n, ⟨(s.data.toList.set ix b).toArray⟩, q⟩ = false := by
  unfold ckB
  refine decide_eq_false ?_
  rintro ⟨_, _, h3⟩
  have hq : q = ((crc s.data.toList : Nat) : Int) := by
    unfold ckAt at h
    injection h with _ _ _ h4 h5
    rw [← h5, h4]
  have h3 : q = ((crc (s.data.toList.set ix b) : Nat) : Int) := h3
  rw [hq] at h3
  exact crc_turned hi hb (by omega)
theorem sub_range {bs : List ByteArray} (hv : Vs bs) {j : Nat} (hj : j < mch bs) (w : World) (g b : Nat) (f : Ck) (h : Col w g b f (Sub bs (List.range j))) :
    Calls Try.prog 15 #[.pointer (some ⟨g, 0, none⟩), (ckAt bs j).V] w (AdP w g b true 0 (Sub bs (List.range (j + 1)))) := by
  have := sb_add hv hj (List.range j) w g b f h
  rw [if_neg (by rw [List.mem_range]; omega), decide_eq_false (by rw [List.mem_range]; omega)] at this
  rw [List.range_succ]
  exact this
theorem add_bad (w : World) (g b : Nat) (f c : Ck) (L : List Ck) (h : Col w g b f L) (hc : ckB c = false) :
    Calls Try.prog 15 #[.pointer (some ⟨g, 0, none⟩), c.V] w (AdP w g b false 4 L) := add_no w g b f c L h hc

set_option maxRecDepth 100000 in
set_option maxHeartbeats 6400000 in
theorem chunkSpoilt_good (w : World) (v : Value) (bs : List ByteArray) (p : Int) (h : Tv w v bs) (hb : Vs bs) (hp0 : 0 ≤ p) (hp1 : p < 9223372036854775808) :
    Calls Try.prog 7 #[v, .int .i64 p] w fun e w' => e = .returned (.bool true) ∧ Fr w w' (fun _ => False) := by
  have HV := hid h
  have SPC := hid (split_calls w v bs h)
  rw [spl_no hb, splL_of (spl_no hb)] at SPC
  obtain ⟨A, cap, rfl, h1, h2, h3⟩ := h
  simp only [List.length_map] at h1 SPC HV ⊢
  have HM : Hid (1 ≤ mch bs ∧ mch bs ≤ 200 ∧ (spl bs).length = mch bs) := hid ⟨by have := hb.1; unfold mch; omega, by have := hb.1; unfold mch; omega, spl_len bs⟩
  have hN : bs.length ≤ 1024 := by have := hb.1; omega
  have HB := hid hb
  clear h3 hb
  generalize bs.length = N at *
  have d1 : decide ((1100 : Int) < (N : Int)) = false := decide_eq_false (by omega)
  have d3 : decide (p < 0) = false := decide_eq_false (by omega)
  obtain ⟨M, hMM⟩ : ∃ M, mch bs = M := ⟨_, rfl⟩
  rw [hMM] at HM
  have HMM := hid hMM
  clear hMM
  go_enter Try.func7, Try.ntmps7
  go_wp2_with (first
    | (go_at_call 9; refine SPC.out.mono ?_; rintro e w1 ⟨u1, rfl, ⟨A1, c1, rfl, hq1, hq2, hq3⟩, hf1⟩; rw [HM.out.2.2] at hq1 ⊢; have hM0 := HM.out.1)
    | (go_at_call 14; refine (new25_calls _).mono ?_; rintro e w2 ⟨g, b, rfl, hcol, hf2, hg, hb⟩))
  have hsne : spl bs ≠ [] := fun e => by
    have := HM.out
    rw [e] at this
    simp at this
    omega
  obtain ⟨b1, o1, rfl, hb1, hc1⟩ := hq3 hsne
  have HC1 : Hid (∀ k, k < mch bs → ∀ j u, (ckAt bs k).cells[j]? = some u → w1.cell? ⟨b1, o1 + k * 5 + j, none⟩ = some u) := hid (fun k hk j u hu => hc1 k _ (spl_get hk) j u hu)
  have HPL : Hid (w1.heap.size ≤ g ∧ w1.heap.size ≤ b) := hid ⟨hg, hb⟩
  have HC0 : Hid (Col w2 g b zCk (Sub bs (List.range 0))) := hid hcol
  have HF1 := hid hf1
  have HF2 := hid hf2
  clear hcol hf2 hg hb hf1 hc1 hsne hq3
  go_loopw [50] (fun t wr => ∃ j : Nat, j ≤ M ∧ t = .int .i64 j ∧ Fr w1 wr (fun _ => False) ∧ ∃ f, Col wr g b f (Sub bs (List.range j))) (fun t _ => M - (intOf t).toNat)
  case atStart => exact ⟨0, by omega, rfl, HF2.out, zCk, HC0.out⟩
  case round =>
    obtain ⟨j, hj, rfl, hf, f, hcol⟩ := hrel
    by_cases hlt : j < M
    · have hjm : j < mch bs := by rw [HMM.out]; exact hlt
      have a0 := cell_keep (HC1.out j hjm 0 _ rfl) hf
      have a1 := cell_keep (HC1.out j hjm 1 _ rfl) hf
      have a2 := cell_keep (HC1.out j hjm 2 _ rfl) hf
      have a3 := cell_keep (HC1.out j hjm 3 _ rfl) hf
      have a4 := cell_keep (HC1.out j hjm 4 _ rfl) hf
      rw [Nat.add_zero] at a0
      have HF := hid hf
      have HC := hid hcol
      have HJM := hid hjm
      clear hf hcol hjm
      have HX : Hid (∃ X, ckAt bs j = X) := hid ⟨_, rfl⟩
      obtain ⟨X, hX⟩ := HX.out
      have hys : 0 < (ckAt bs j).s.size ∧ (ckAt bs j).s.size ≤ 1024 := by
        show 0 < (jn (part bs j)).size ∧ (jn (part bs j)).size ≤ 1024
        rw [part_size HB.out.2, part_len]
        have := HJM.out
        unfold mch at this
        omega
      rw [hX] at a0 a1 a2 a3 a4 hys
      have HYS := hid hys
      clear hys
      have HXX := hid hX
      clear hX
      obtain ⟨y0, y1, y2, y3, y4⟩ := X
      simp only at a0 a1 a2 a3 a4
      go_upto_region 11 with fail
      have k9 := (Below.heap_alloc (wr.alloc (.cells #[.int .i64 y0, .int .i64 y1, .int .i64 y2, .string y3, .int .i64 y4] 24)) (.cells #[.int .i64 y0, .int .i64 y1, .int .i64 y2, .string y3, .int .i64 y4] 24) _ (by simp)).trans (alloc_new wr (.cells #[.int .i64 y0, .int .i64 y1, .int .i64 y2, .string y3, .int .i64 y4] 24))
      have k10 := alloc_new (wr.alloc (.cells #[.int .i64 y0, .int .i64 y1, .int .i64 y2, .string y3, .int .i64 y4] 24)) (.cells #[.int .i64 y0, .int .i64 y1, .int .i64 y2, .string y3, .int .i64 y4] 24)
      rw [show (wr.alloc (.cells #[.int .i64 y0, .int .i64 y1, .int .i64 y2, .string y3, .int .i64 y4] 24)).heap.size = wr.heap.size + 1 by simp] at k10
      have hfA := ((Fr.refl wr (fun _ => False)).alloc (.cells #[.int .i64 y0, .int .i64 y1, .int .i64 y2, .string y3, .int .i64 y4] 24)).alloc (.cells #[.int .i64 y0, .int .i64 y1, .int .i64 y2, .string y3, .int .i64 y4] 24)
      have hsA : ((wr.alloc (.cells #[.int .i64 y0, .int .i64 y1, .int .i64 y2, .string y3, .int .i64 y4] 24)).alloc (.cells #[.int .i64 y0, .int .i64 y1, .int .i64 y2, .string y3, .int .i64 y4] 24)).heap.size = wr.heap.size + 2 := by simp
      generalize (wr.alloc (.cells #[.int .i64 y0, .int .i64 y1, .int .i64 y2, .string y3, .int .i64 y4] 24)).alloc (.cells #[.int .i64 y0, .int .i64 y1, .int .i64 y2, .string y3, .int .i64 y4] 24) = wA at *
      have hcv := Lib.run_convert_string_bytes (P := Try.prog) wA 9 59 5 y3 Try.underlying9 Try.underlying59 Try.underlying5
      obtain ⟨hbr, hfB⟩ := made_bytes wA y3
      rw [hsA] at hcv hbr
      have q9 := hfB.at_ k9 (fun x => x)
      have q10 := hfB.at_ k10 (fun x => x)
      have hcell := cell_blk k9 3
      simp only [List.getElem?_toArray, List.getElem?_cons_zero, List.getElem?_cons_succ] at hcell
      generalize Lib.bytesWorld wA 5 y3 = wB at *
      generalize grownCap wA y3.size 0 5 = gc at *
      have HBR := hid hbr
      have HFA := hid hfA
      have HFB := hid hfB
      have HQ9 := hid q9
      have HQ10 := hid q10
      have HSA := hid hsA
      clear k9 k10 hfA hfB hbr q9 q10 hsA a0 a1 a2 a3 a4
      go_upto_region 12 with fail
      have hlen : y3.data.toList.length = y3.size := Array.length_toList
      have hpos : 0 < y3.size := HYS.out.1
      have hmax : y3.size ≤ 1024 := HYS.out.2
      obtain ⟨pn, rfl⟩ : ∃ pn : Nat, p = pn := ⟨p.toNat, by omega⟩
      obtain ⟨L, hL⟩ : ∃ L, y3.size = L := ⟨_, rfl⟩
      rw [hL] at hlen hpos hmax ⊢
      obtain ⟨ix, hix⟩ : ∃ ix, pn % L = ix := ⟨_, rfl⟩
      obtain ⟨dq, hdq⟩ : ∃ dq, pn / L = dq := ⟨_, rfl⟩
      obtain ⟨sh, hsh⟩ : ∃ sh, dq % 8 = sh := ⟨_, rfl⟩
      have e1 : (pn : Int).tmod (L : Int) = (ix : Int) := by rw [← hix]; exact Int.ofNat_tmod _ _
      have e2 : (pn : Int).tdiv (L : Int) = (dq : Int) := by rw [← hdq]; exact Int.ofNat_tdiv _ _
      have e3 : (dq : Int).tmod 8 = (sh : Int) := by rw [← hsh]; exact Int.ofNat_tmod _ _
      have hixL : ix < L := by rw [← hix]; exact Nat.mod_lt _ hpos
      have hsh8 : sh < 8 := by rw [← hsh]; exact Nat.mod_lt _ (by omega)
      have hixl : ix < y3.data.toList.length := Nat.lt_of_lt_of_eq hixL hlen.symm
      have bcell := HBR.out.cell (j := ix) hixl
      have bfree := HBR.out.free (j := ix) hixl
      generalize hbb : y3.data.toList[ix]'hixl = bb at *
      have HBB : Hid (y3.data.toList[ix] = bb) := hid hbb
      clear hbb
      have hL0 : ¬ (L : Int) = 0 := by omega
      have hL1 : ¬ L = 0 := by omega
      have hi0 : (0 : Int) ≤ (ix : Int) := by omega
      have hi1 : (ix : Int) < (L : Int) := by omega
      have hdq63 : dq < 9223372036854775808 := by rw [← hdq]; have := Nat.div_le_self pn L; omega
      have HTV := hid (turned_val bb hsh hdq63)
      have HNE := hid (tb_ne bb hsh8)
      have HBS := hid (HBR.out.set (j := ix) (by rw [hlen]; exact hixL) (tb bb sh))
      clear hix hdq hsh hdq63
      go_region_law (fail)
      rw [HTV.out]
      have hbrC : Br (wB.setCell ⟨wr.heap.size + 2, ix, none⟩ (.int .u8 (((tb bb sh).toNat : Nat) : Int))).drew (wr.heap.size + 2) (y3.data.toList.set ix (tb bb sh)) := HBS.out
      have hfC := (Fr.set1 wB (wr.heap.size + 2) ix (.int .u8 (((tb bb sh).toNat : Nat) : Int))).drew
      generalize (wB.setCell ⟨wr.heap.size + 2, ix, none⟩ (.int .u8 (((tb bb sh).toNat : Nat) : Int))).drew = wC at *
      have hcv2 := hbrC.back gc
      rw [List.length_set, hlen] at hcv2
      have k9 := hfC.at_ HQ9.out (by omega)
      have k10 := hfC.at_ HQ10.out (by omega)
      have c3 := cell_blk k10 3
      have z3 := free_blk k10 3
      simp only [List.getElem?_toArray, List.getElem?_cons_zero, List.getElem?_cons_succ] at c3
      have HK9 := hid k9
      have HK10 := hid k10
      have HFC := hid hfC
      clear k9 k10 hfC hbrC bcell bfree e1 e2 e3
      go_upto_region 14 with fail
      have hbad := ck_spoilt (ix := ix) (b := tb bb sh) HXX.out hixl (by rw [HBB.out]; exact HNE.out)
      have HBAD := hid hbad
      clear hbad
      have k10 := set_blk HK10.out 3 (.string ⟨(y3.data.toList.set ix (tb bb sh)).toArray⟩)
      simp only [List.setIfInBounds_toArray, List.set_cons_zero, List.set_cons_succ] at k10
      have hfD := Fr.set1 wC (wr.heap.size + 1) 3 (.string ⟨(y3.data.toList.set ix (tb bb sh)).toArray⟩)
      generalize (⟨(y3.data.toList.set ix (tb bb sh)).toArray⟩ : ByteArray) = sx at *
      generalize wC.setCell ⟨wr.heap.size + 1, 3, none⟩ (.string sx) = wD at *
      have k9 := hfD.at_ HK9.out (by omega)
      have hgl := blk_lt HC.out.blk
      have hbl := HC.out.b_lt
      have HCD := hid ((((HC.out.fr HFA.out).fr HFB.out).frS HFC.out (by omega) (by omega)).frS hfD (by omega) (by omega))
      have HFD := hid ((((HF.out.trans HFA.out).trans HFB.out).fresh HFC.out (fun i hi => by have := HF.out.size; omega)).fresh hfD (fun i hi => by have := HF.out.size; omega))
      obtain ⟨x0, x1, x2, x3, x4⟩ := ck_cells k10
      have HK9D := hid k9
      have hP9 : ¬ (wr.heap.size = g ∨ wr.heap.size = b) := by rintro (e | e) <;> omega
      clear k9 k10 hfD hgl hbl c3 z3 hcv2
      go_wp2_with fail
      refine (add_bad wD g b f _ _ HCD.out HBAD.out).mono ?_
      rintro e w5 ⟨rfl, f5, hcol5, hf5⟩
      have k9 := hf5.at_ HK9D.out hP9
      have HF5 := hid (fresh_two HFD.out hf5 HPL.out.1 HPL.out.2)
      obtain ⟨z0, z1, z2, z3, z4⟩ := ck_cells k9
      have A1 := sub_range HB.out HJM.out w5 g b f5 hcol5
      rw [HXX.out] at A1
      have A1 := hid A1
      clear hf5 hcol5 k9 x0 x1 x2 x3 x4
      go_wp2_with fail
      refine A1.out.mono ?_
      rintro e w6 ⟨rfl, f6, hcol6, hf6⟩
      have HF6 := hid (fresh_two HF5.out hf6 HPL.out.1 HPL.out.2)
      have HC6 := hid hcol6
      clear hf6 hcol6 z0 z1 z2 z3 z4
      have hM200 : M ≤ 200 := HM.out.2.1
      go_wp2_with fail
      go_roundw
      case rel => exact ⟨j + 1, by omega, by go_num, HF6.out, f6, HC6.out⟩
      case measure => simp [intOf]; omega
    · have he : j = M := by omega
      subst he
      have hlenr : (List.range j).length = mch bs := by rw [List.length_range, HMM.out]
      have BL := hid (sb_full HB.out (by intro e; rw [List.range_eq_nil] at e; have := HM.out.1; omega) List.nodup_range (fun k hk => by rw [HMM.out]; exact List.mem_range.1 hk) hlenr wr g b f hcol)
      have HF := hid hf
      clear hf hcol hlenr
      go_wp2_with (first
        | (go_at_call 17; refine BL.out.mono ?_; rintro e w7 ⟨u7, rfl, htv7, hf7⟩)
        | (go_at_call 22; refine (texts_calls _ u7 _ _ _ htv7 (HV.out.fr (HF1.out.trans (HF.out.trans hf7)))).mono ?_; rw [decide_eq_true (rfl : bs = bs)]; rintro e w8 ⟨rfl, hf8⟩)
        | (go_at_call 8; refine (speaks25_calls _).mono ?_; rintro e w9 ⟨rfl, hf9⟩))
      go_ret
      exact ⟨rfl, HF1.out.trans (HF.out.trans (hf7.trans (hf8.trans hf9)))⟩

set_option maxRecDepth 100000 in
set_option maxHeartbeats 3200000 in
theorem chunkSpoilt_calls (w : World) (v : Value) (bs : List ByteArray) (p : Int) (h : Tv w v bs) (hp0 : -9223372036854775808 ≤ p) (hp1 : p < 9223372036854775808) :
    Calls Try.prog 7 #[v, .int .i64 p] w fun e w' => e = .returned (.bool true) ∧ Fr w w' (fun _ => False) := by
  by_cases hb : 1100 < bs.length
  · obtain ⟨A, cap, rfl, h1, h2, h3⟩ := h
    simp only [List.length_map] at h1 ⊢
    clear h3
    generalize bs.length = N at *
    have d1 : decide ((1100 : Int) < (N : Int)) = true := decide_eq_true (by omega)
    go_enter Try.func7, Try.ntmps7
    go_wp2_with (go_at_call 8; refine (speaks25_calls _).mono ?_; rintro e w6 ⟨rfl, hf6⟩)
    go_ret
    exact ⟨rfl, hf6⟩
  · by_cases hE : splE bs = 0
    · by_cases hp : p < 0
      · have SPC := hid (split_calls w v bs h)
        rw [hE] at SPC
        obtain ⟨A, cap, rfl, h1, h2, h3⟩ := h
        simp only [List.length_map] at h1 SPC ⊢
        clear h3 hE
        generalize splL bs = SL at *
        generalize bs.length = N at *
        have d1 : decide ((1100 : Int) < (N : Int)) = false := decide_eq_false (by omega)
        have d2 : decide (p < 0) = true := decide_eq_true hp
        clear hb h2 hp
        go_enter Try.func7, Try.ntmps7
        go_wp2_with (first
          | (go_at_call 9; refine SPC.out.mono ?_; rintro e w1 ⟨u1, rfl, ⟨A1, c1, rfl, hq1, hq2, hq3⟩, hf1⟩; clear hq1 hq2 hq3)
          | (go_at_call 8; refine (speaks25_calls _).mono ?_; rintro e w9 ⟨rfl, hf9⟩))
        go_ret
        exact ⟨rfl, hf1.trans hf9⟩
      · exact chunkSpoilt_good w v bs p h (vs_of hE) (by omega) hp1
    · have SPC := hid (split_calls w v bs h)
      rw [splL_no hE] at SPC
      obtain ⟨A, cap, rfl, h1, h2, h3⟩ := h
      simp only [List.length_map] at h1 SPC ⊢
      clear h3
      generalize splE bs = E at *
      generalize bs.length = N at *
      have d1 : decide ((1100 : Int) < (N : Int)) = false := decide_eq_false (by omega)
      have e1 : (E != 0) = true := bne_iff_ne.2 hE
      clear hE hb h2
      go_enter Try.func7, Try.ntmps7
      go_wp2_with (first
        | (go_at_call 9; refine SPC.out.mono ?_; rintro e w1 ⟨u1, rfl, ⟨A1, c1, rfl, hq1, hq2, hq3⟩, hf1⟩; rw [List.length_nil] at hq1 ⊢)
        | (go_at_call 8; refine (speaks25_calls _).mono ?_; rintro e w9 ⟨rfl, hf9⟩))
      go_ret
      exact ⟨rfl, hf1.trans hf9⟩
end Go.Proofs.Ythnigmbdacjlnaa.Cw
