/- CodecBack by a walk over contracts. Own work. -/
import Derived.Test.YtodlenagpconiaaCwK
import Derived.Test.YtodlenagpconiaaWritesWalk
namespace Go.Proofs.Ytodlenagpconiaa.Cw
open Go.RowKit
set_option linter.unusedVariables false
set_option linter.unusedSimpArgs false

/-- The items that are kept: those of which nothing is wrong. -/
def It.E (x : It) : Nat := itemE x.kind x.n x.size x.s
def kept (l : List It) (k : Nat) : List It := (l.take k).filter fun x => x.E == 0
theorem kept_succ (l : List It) (k : Nat) (x : It) (h : l[k]? = some x) : kept l (k + 1) = kept l k ++ (if x.E == 0 then [x] else []) := by
  unfold kept
  obtain ⟨hk, rfl⟩ := List.getElem?_eq_some_iff.1 h
  rw [List.take_succ_eq_append_getElem hk, List.filter_append]
  congr 1
  by_cases hx : (l[k].E == 0) = true
  · simp [List.filter_cons, hx]
  · simp [List.filter_cons, hx]
theorem kept_len (l : List It) (k : Nat) : (kept l k).length ≤ l.length := by
  unfold kept
  have h1 := List.length_filter_le (fun x : It => x.E == 0) (l.take k)
  have h2 : (l.take k).length ≤ l.length := by rw [List.length_take]; omega
  omega
theorem bad_none (x : It) (h : ¬ x.E = 0) : x.B = [] := by
  unfold It.E itemE at h
  unfold It.B itemB
  split at h <;> split <;> first | (exfalso; omega) | skip
  · split at h <;> split <;> first | rfl | omega
  · split at h <;> split <;> first | (exfalso; omega) | skip
    split at h <;> split <;> first | (exfalso; omega) | skip
    · split at h <;> split <;> first | rfl | (exfalso; omega) | contradiction
    · split at h <;> split <;> first | rfl | (exfalso; omega) | contradiction
theorem kept_bytes (l : List It) (k : Nat) : (kept l k).flatMap It.B = outB l k := by
  unfold kept outB
  induction l.take k with
  | nil => rfl
  | cons x r ih =>
    by_cases hx : x.E = 0
    · rw [List.filter_cons_of_pos (by simp [hx]), List.flatMap_cons, List.flatMap_cons, ih]
    · rw [List.filter_cons_of_neg (by simp [hx]), List.flatMap_cons, bad_none x hx, ih]
      rfl
theorem kept_all (l : List It) (k : Nat) (x : It) (h : x ∈ kept l k) : x ∈ l ∧ x.E = 0 := by
  unfold kept at h
  obtain ⟨h1, h2⟩ := List.mem_filter.1 h
  exact ⟨List.mem_of_mem_take h1, by simpa using h2⟩

/-- The slice of items that a call itself keeps. -/
def Ki (w wr : World) (v : Value) (ks : List It) : Prop := wr.ownsRow w.heap.size 38 4 v ks.length (ks.flatMap It.cells)
theorem Ki.nil (w wr : World) : Ki w wr (.slice none 0 0) [] := World.ownsRow_nil wr _ _ 4
/-- Rows of unlike types are unlike. -/
theorem own_apart {w : World} {b1 b2 e1 e2 s1 s2 n1 n2 : Nat} {v1 v2 : Value} {x1 x2 : List Value} (h1 : w.ownsRow b1 e1 s1 v1 n1 x1) (h2 : w.ownsRow b2 e2 s2 v2 n2 x2) (he : e1 ≠ e2) {b : Nat} (hb : v1.ownBlock = some b) : v2.ownBlock ≠ some b := by
  intro hc
  rcases h1.2 with ⟨rfl, _⟩ | ⟨g1, cap1, cur1, rfl, _, hg1, _⟩
  · cases hb
  rcases h2.2 with ⟨rfl, _⟩ | ⟨g2, cap2, cur2, rfl, _, hg2, _⟩
  · cases hc
  injection hb with hb
  injection hc with hc
  subst hb
  subst hc
  have h3 := hg1.symm.trans hg2
  injection h3 with h3
  injection h3 with _ h3
  exact he h3
theorem Ki.not_g {w wr : World} {v u : Value} {ks : List It} {g : Nat} (h : Ki w wr v ks) (hg : wr.heap[g]? = some (.cells #[u] 59 (0, 0))) : v.ownBlock ≠ some g := by
  intro hb
  rcases h.2 with ⟨rfl, _⟩ | ⟨g1, cap1, cur1, rfl, _, hg1, _⟩
  · cases hb
  injection hb with hb
  subst hb
  have h3 := hg1.symm.trans hg
  injection h3 with h3
  injection h3 with _ h3
  exact absurd h3 (by decide)
theorem Ki.not_ws {w wr : World} {v u : Value} {ks : List It} {g : Nat} {bs : List UInt8} (h : Ki w wr v ks) (hw : Wr wr g u bs) : ∀ b, v.ownBlock = some b → ¬ WS g u b := by
  intro b hb hc
  rcases hc with hc | hc
  · subst hc
    exact h.not_g hw.1 hb
  · exact own_apart h hw.2 (by decide) hb hc
theorem Ki.fr {w wr W : World} {v : Value} {ks : List It} {S : Nat → Prop} (h : Ki w wr v ks) (k : Fr wr W S) (hs : ∀ b, v.ownBlock = some b → ¬ S b) : Ki w W v ks := by
  refine ⟨h.1, ?_⟩
  rcases h.2 with hn | ⟨g', cap, cur, rfl, hb, hg, hr⟩
  · exact .inl hn
  · exact .inr ⟨g', cap, cur, rfl, hb, k.at_ hg (hs g' rfl), hr⟩

theorem flat_cells (ks : List It) : ∀ (i : Nat) (x : It) (j : Nat), ks[i]? = some x → j < 4 → (ks.flatMap It.cells)[i * 4 + j]? = x.cells[j]? := by
  induction ks with
  | nil => intro i x j h; cases h
  | cons y r ih =>
    intro i x j h hj
    rw [List.flatMap_cons]
    have hl : y.cells.length = 4 := rfl
    cases i with
    | zero =>
      simp only [List.getElem?_cons_zero, Option.some.injEq] at h
      subst h
      rw [List.getElem?_append_left (by omega), Nat.zero_mul, Nat.zero_add]
    | succ i =>
      rw [List.getElem?_cons_succ] at h
      rw [List.getElem?_append_right (by omega), hl, show (i + 1) * 4 + j - 4 = i * 4 + j by omega]
      exact ih i x j h hj
/-- What is kept reads as items. -/
theorem Ki.items {w wr : World} {v : Value} {ks : List It} (h : Ki w wr v ks) (hok : ∀ x ∈ ks, x.Ok) : ∃ A cap, v = .slice A ks.length cap ∧ Items wr wr.heap.size A ks.length ks := by
  rcases h.2 with ⟨rfl, h0⟩ | ⟨g, cap, cur, rfl, hb, hg, hr⟩
  · exact ⟨none, 0, by rw [h0], rfl, hok, fun hn => absurd hn (by omega)⟩
  · refine ⟨some ⟨g, 0, none⟩, cap, rfl, rfl, hok, fun _ => ⟨g, 0, rfl, blk_lt hg, ?_⟩⟩
    intro i x hx
    have hc : ∀ j u, (ks.flatMap It.cells)[j]? = some u → wr.cell? ((⟨g, 0, none⟩ : Addr).add j) = some u := h.cells (g := g) rfl
    have hp : ∀ j, (⟨g, 0, none⟩ : Addr).add (i * 4 + j) = ⟨g, 0 + i * 4 + j, none⟩ := by intro j; rw [add_plain, Nat.add_assoc]
    have e : ∀ j u, x.cells[j]? = some u → j < 4 → wr.cell? ⟨g, 0 + i * 4 + j, none⟩ = some u := by
      intro j u hu hj
      rw [← hp]
      exact hc _ _ ((flat_cells ks i x j hx hj).trans hu)
    exact ⟨e 0 _ rfl (by omega), e 1 _ rfl (by omega), e 2 _ rfl (by omega), e 3 _ rfl (by omega)⟩

theorem sz_list (l : List UInt8) (h : l.length ≤ maxLen) : (⟨l.toArray⟩ : ByteArray).size ≤ maxLen := by
  show l.toArray.size ≤ maxLen
  simpa using h
theorem back_uint (w : World) (g n : Nat) (rest : List UInt8) (h : Rd w g ⟨(uv n ++ rest).toArray⟩ 0) (hn : n ≤ 2 ^ 63 - 1) (hl : (uv n ++ rest).length ≤ maxLen) :
    Calls Try.prog 14 #[.pointer (some ⟨g, 0, none⟩)] w fun e w' => e = .returned (.tuple #[.int .i64 n, .int .i64 0]) ∧ Rd w' g ⟨rest.toArray⟩ 0 ∧ Fr w w' (fun i => i = g) := by
  have := rUint_calls w g _ 0 h (sz_list _ hl)
  rw [rd_uint n rest hn] at this
  exact this
theorem back_int (w : World) (g : Nat) (n : Int) (rest : List UInt8) (h : Rd w g ⟨(uv (zig n) ++ rest).toArray⟩ 0) (h1 : -9223372036854775808 ≤ n) (h2 : n < 9223372036854775808) (hl : (uv (zig n) ++ rest).length ≤ maxLen) :
    Calls Try.prog 17 #[.pointer (some ⟨g, 0, none⟩)] w fun e w' => e = .returned (.tuple #[.int .i64 n, .int .i64 0]) ∧ Rd w' g ⟨rest.toArray⟩ 0 ∧ Fr w w' (fun i => i = g) := by
  have := rInt_calls w g _ 0 h (sz_list _ hl)
  rw [rd_int n rest h1 h2] at this
  simp only [zz_zig] at this
  exact this
theorem back_fixed (w : World) (g n size : Nat) (rest : List UInt8) (h : Rd w g ⟨(fixB n size ++ rest).toArray⟩ 0) (hz : size = 1 ∨ size = 2 ∨ size = 4 ∨ size = 8) (hn : n ≤ 2 ^ 63 - 1) (hf : n < 256 ^ size) (hl : (fixB n size ++ rest).length ≤ maxLen) :
    Calls Try.prog 23 #[.pointer (some ⟨g, 0, none⟩), .int .i64 size] w fun e w' => e = .returned (.tuple #[.int .i64 n, .int .i64 0]) ∧ Rd w' g ⟨rest.toArray⟩ 0 ∧ Fr w w' (fun i => i = g) := by
  have := rFixed_calls w g _ 0 size hz h (sz_list _ hl)
  rw [rd_fix n size rest hn hf] at this
  exact this
theorem back_text (w : World) (g : Nat) (x : ByteArray) (rest : List UInt8) (h : Rd w g ⟨((uv x.size ++ x.data.toList) ++ rest).toArray⟩ 0) (hx : x.size ≤ 65535) (hl : ((uv x.size ++ x.data.toList) ++ rest).length ≤ maxLen) :
    Calls Try.prog 25 #[.pointer (some ⟨g, 0, none⟩), .int .i64 65535] w fun e w' => e = .returned (.tuple #[.string x, .int .i64 0]) ∧ Rd w' g ⟨rest.toArray⟩ 0 ∧ Fr w w' (fun i => i = g) := by
  have := rText_calls w g _ 0 65535 (by decide) (by decide) h (sz_list _ hl)
  rw [rd_text x rest hx] at this
  exact this

theorem info_item : (Try.prog.info? 38).map (fun i => (i.zero, i.size, i.bytes)) = some (some (.agg #[.int .i64 0, .int .i64 0, .int .i64 0, .string ByteArray.empty]), 4, 40) := by kernel_rfl
theorem It.one (x : It) : ∀ u ∈ x.cells, u.oneCell' = true := by
  intro u hu
  simp only [It.cells, List.mem_cons, List.not_mem_nil, or_false] at hu
  rcases hu with rfl | rfl | rfl | rfl <;> rfl
theorem cells_new (w : World) (x : It) (t : TypeId) : ∀ j u, x.cells[j]? = some u → (w.alloc (.cells #[.int .i64 x.kind, .int .i64 x.n, .int .i64 x.size, .string x.s] t)).cell? ((⟨w.heap.size, 0, none⟩ : Addr).add j) = some u := by
  intro j u hj
  rw [add_plain, Nat.zero_add, cell_blk (alloc_new w _) j]
  simpa [It.cells] using hj
theorem Ki.push {w wr w1 : World} {v v' : Value} {ks : List It} {x : It} {o : Obj} (hf : Fr w wr (fun _ => False)) (h : Ki w wr v ks) (hown : w1.ownsRow w.heap.size 38 4 v' (ks.length + 1) (ks.flatMap It.cells ++ x.cells)) (hg : (wr.alloc o).grownBy w1 v.ownBlock) :
    Ki w w1 v' (ks ++ [x]) ∧ Fr w w1 (fun _ => False) := by
  constructor
  · unfold Ki
    rw [List.length_append, List.flatMap_append, List.flatMap_cons, List.flatMap_nil, List.append_nil]
    exact hown
  · refine (hf.alloc o).fresh (S := fun i => v.ownBlock = some i) ?_ (fun i hi => (h.lt i hi).1)
    exact (Fr.refl _ _).grown hg (fun k hk _ => hk)

set_option maxRecDepth 100000 in
set_option maxHeartbeats 3200000 in
theorem codecBack_calls (w : World) (A : Option Addr) (len cap : Nat) (l : List It) (hI : Items w w.heap.size A len l) (hlen : len ≤ 1048576) :
    Calls Try.prog 7 #[.slice A len cap] w fun e w' => e = .returned (.bool true) ∧ Fr w w' (fun _ => False) := by
  go_enter Try.func7, Try.ntmps7
  go_wp2_with fail
  refine (new_calls w).mono ?_
  rintro e w1 ⟨rfl, hn, hf1⟩
  have h1 := Wr.new hn
  clear hn
  have n1 := Nw.nil w
  generalize hgg : w.heap.size = g at h1 hI ⊢
  have HG := hid hgg
  clear hgg
  go_wp2_with fail
  have hwI := hid hI
  clear hI
  go_loopw [4, 18] (fun x i wr => ∃ (k : Nat) (v : Value), i = .int .i64 k ∧ k ≤ len ∧ Wr wr g v (outB l k) ∧ Ki w wr x (kept l k) ∧ Fr w wr (fun _ => False) ∧ Nw w v) (fun _ i _ => len - (intOf i).toNat)
  case atStart => exact ⟨0, _, rfl, by omega, h1, Ki.nil w w1, hf1, n1⟩
  case round =>
    obtain ⟨k, v, rfl, hk, hw, hki, hA, hn⟩ := hrel
    have hol := hwI.out.1
    by_cases hlt : k < len
    · obtain ⟨b, o, rfl, hb, hc⟩ := hwI.out.2.2 (by omega)
      obtain ⟨x, hx⟩ : ∃ x, l[k]? = some x := ⟨_, List.getElem?_eq_getElem (by rw [hol]; exact hlt)⟩
      have hxo := hid (hwI.out.2.1 x (List.mem_of_getElem? hx))
      have hx0 := (hc k x hx).fr hA (by have := HG.out; omega) (fun x => x)
      have HL := hid (outB_len l hwI.out.2.1 k)
      have HS := hid (outB_succ l k x hx)
      have HKS := hid (kept_succ l k x hx)
      have HKL := hid (kept_len l k)
      obtain ⟨kind, n, size, xs⟩ := x
      obtain ⟨d0, d1, d2, d3⟩ := hx0
      simp only at d0 d1 d2 d3
      have HC := hid hc
      have HX := hid hx
      have HB := hid hb
      have HOL := hid hol
      clear hc hx hb hol
      have WR := hid (fun (w : World) (h : Wr w g v (outB l k)) => writes_calls w g v (outB l k) kind n size xs hxo.out.1.1 hxo.out.1.2 hxo.out.2.2 h (by have := HL.out; have := HOL.out; unfold Len; omega))
      unfold itemV at *
      go_wp2_with fail
      have hw3 := hw.alloc (.cells #[.int .i64 kind, .int .i64 n, .int .i64 size, .string xs] 38)
      have hx3 := alloc_new wr (.cells #[.int .i64 kind, .int .i64 n, .int .i64 size, .string xs] 38)
      have hk3 := Ki.fr hki ((Fr.refl wr (fun _ => False)).alloc (.cells #[.int .i64 kind, .int .i64 n, .int .i64 size, .string xs] 38)) (fun _ _ x => x)
      have hA3 := hA.alloc (.cells #[.int .i64 kind, .int .i64 n, .int .i64 size, .string xs] 38)
      have HNWS := hid (hk3.not_ws hw3)
      have hxw := hid (show ¬ WS g v wr.heap.size by
        intro hc
        rcases hc with hc | hc
        · have := hw.lt
          omega
        · have := hw.own_lt hc
          omega)
      refine (WR.out _ hw3).mono ?_
      rintro e w5 ⟨rfl, v5, hw5, hf5, hn5⟩
      have hk5 := hk3.fr hf5 HNWS.out
      have hx5 := hf5.at_ hx3 hxw.out
      have hA5 := hA3.fresh hf5 (WS_fresh (by have := HG.out; omega) hn)
      have n5 := hn.next hA3.size hn5
      have y0 := cell_blk hx5 0
      have y1 := cell_blk hx5 1
      have y2 := cell_blk hx5 2
      have y3 := cell_blk hx5 3
      simp only [List.getElem?_toArray, List.getElem?_cons_zero, List.getElem?_cons_succ] at y0 y1 y2 y3
      clear d0 d1 d2 d3 hA hA3 hf5 hw3 hw hn5 hn hki hk3 HNWS hxw hx3 hx5
      by_cases hE : itemE kind n size xs = 0
      · have HE := hid hE
        have hEb : (((itemE kind n size xs : Nat) : Int) == 0) = true := by rw [hE]; rfl
        clear hE
        obtain ⟨i0, hi, hz0, hz1, hz2⟩ := info_parts info_item
        go_wp2_with (at_builtin; refine wpList_append_own2 _ rfl _ _ 36 rfl w.heap.size 38 i0 (.agg #[.int .i64 0, .int .i64 0, .int .i64 0, .string ByteArray.empty]) 4 40 Try.underlying36 hi hz0 hz1 hz2 rfl (by decide) _ _ _ rfl (hk5.alloc _) ⟨w5.heap.size, 0, none⟩ 1 1 (It.cells ⟨kind, n, size, xs⟩) rfl rfl ?c1 ?c2 ?c3 ?c4 ?c5 ?_)
        case c1 => exact cells_new w5 ⟨kind, n, size, xs⟩ _
        case c2 => exact It.one _
        case c3 => have := HKL.out; have := HOL.out; unfold maxLen; omega
        case c4 => have := HKL.out; have := HOL.out; omega
        case c5 => have := hA5.size; simp; omega
        intro v' w6 hown' hgrow hwn
        have R := Ki.push hA5 hk5 hown' hgrow
        have hns := hk5.not_ws hw5
        have hf6 : Fr w5 w6 (fun i => u4.ownBlock = some i) := ((Fr.refl w5 _).alloc _).grown hgrow (fun k hk _ => hk)
        have hw6 := hw5.fr hf6 (fun x => hns _ x (.inl rfl)) (fun b hb x => hns b x (.inr hb))
        clear hown' hgrow hwn hns hf6 hw5 hk5 hA5 y0 y1 y2 y3
        go_wp2_with fail
        go_roundw
        case rel => exact ⟨k + 1, v5, by go_num, by omega, by rw [HS.out]; exact hw6, by rw [HKS.out, if_pos (show (It.E ⟨kind, n, size, xs⟩ == 0) = true by rw [beq_iff_eq]; exact HE.out)]; exact R.1, R.2, n5⟩
        case measure => simp [intOf]; omega
      · have HE := hid hE
        have hEb : (((itemE kind n size xs : Nat) : Int) == 0) = false := by rw [beq_eq_false_iff_ne]; omega
        clear hE y0 y1 y2 y3
        go_wp2_with fail
        go_roundw
        case rel => exact ⟨k + 1, v5, by go_num, by omega, by rw [HS.out]; exact hw5, by rw [HKS.out, if_neg (show ¬ (It.E ⟨kind, n, size, xs⟩ == 0) = true by rw [beq_iff_eq]; exact HE.out), List.append_nil]; exact hk5, hA5, n5⟩
        case measure => simp [intOf]; omega
    · have hKB := kept_bytes l k
      have hKE := fun x (hx : x ∈ kept l k) => And.intro (hwI.out.2.1 x (kept_all l k x hx).1) (kept_all l k x hx).2
      have hKL := outB_len l hwI.out.2.1 k
      have hKN := kept_len l k
      obtain ⟨A2, cap2, rfl, hI2⟩ := hki.items (fun x hx => (hKE x hx).1)
      generalize kept l k = ks at *
      generalize outB l k = bs at *
      subst hKB
      have hKL2 : (ks.flatMap It.B).length ≤ 73400320000 := by rw [hol] at hKL; omega
      have hKN2 : ks.length ≤ 1048576 := by omega
      have HKE := hid hKE
      have HKL := hid hKL2
      have HI2 := hid hI2
      clear hKE hKL hKL2 hKN hI2 hki hwI
      go_wp2_with fail
      refine (wOut_calls wr g _ _ hw).mono ?_
      rintro e w5 ⟨rfl, rfl⟩
      go_wp2_with fail
      refine (of_calls wr _).mono ?_
      rintro e w6 ⟨rfl, r6, hf6⟩
      have hA6 := hA.trans hf6
      have hgs := hid hA.size
      clear hw hA hn
      go_wp2_with fail
      generalize hqq : wr.heap.size = q at *
      have HQ := hid hqq
      clear hqq
      go_loopw [38] (fun i w2 => ∃ j : Nat, i = .int .i64 j ∧ j ≤ ks.length ∧ Rd w2 q ⟨((ks.drop j).flatMap It.B).toArray⟩ 0 ∧ Fr wr w2 (fun _ => False) ∧ Fr w w2 (fun _ => False)) (fun i _ => ks.length - (intOf i).toNat)
      case atStart => exact ⟨0, rfl, by omega, by simpa using r6, hf6, hA6⟩
      case round =>
        obtain ⟨j, rfl, hj, r, hfr, hA⟩ := hrel
        clear r6 hf6 hA6
        by_cases hlt2 : j < ks.length
        · obtain ⟨b, o, rfl, hb, hc⟩ := HI2.out.2.2 (by omega)
          obtain ⟨x, hx⟩ : ∃ x, ks[j]? = some x := ⟨_, List.getElem?_eq_getElem hlt2⟩
          have hxo := hid (HKE.out x (List.mem_of_getElem? hx))
          have hx0 := (hc j x hx).fr hfr (by have := HQ.out; omega) (fun x => x)
          have hdr : (ks.drop j).flatMap It.B = x.B ++ (ks.drop (j + 1)).flatMap It.B := by
            obtain ⟨h1, h2⟩ := List.getElem?_eq_some_iff.1 hx
            rw [List.drop_eq_getElem_cons h1, h2, List.flatMap_cons]
          have hlr : ((ks.drop j).flatMap It.B).length ≤ (ks.flatMap It.B).length := by
            have : ks.flatMap It.B = (ks.take j).flatMap It.B ++ (ks.drop j).flatMap It.B := by rw [← List.flatMap_append, List.take_append_drop]
            rw [this, List.length_append]
            omega
          have hmx : (x.B ++ (ks.drop (j + 1)).flatMap It.B).length ≤ maxLen := by
            rw [← hdr]
            have := HKL.out
            unfold maxLen
            omega
          have HMX := hid hmx
          rw [hdr] at r
          have r1 := hid r
          clear hmx hlr hdr hc hx hb r
          generalize hrs : (ks.drop (j + 1)).flatMap It.B = rest at *
          have HRS := hid hrs
          clear hrs
          obtain ⟨kind, n, size, xs⟩ := x
          obtain ⟨d0, d1, d2, d3⟩ := hx0
          simp only at d0 d1 d2 d3
          obtain ⟨⟨⟨hn1, hn2⟩, _, hxs⟩, hE⟩ := hxo.out
          simp only at hn1 hn2 hxs
          have hE2 : itemE kind n size xs = 0 := hE
          have r2 := r1.out
          have hmx2 := HMX.out
          rw [show It.B ⟨kind, n, size, xs⟩ = itemB kind n size xs from rfl] at r2 hmx2
          clear hE
          by_cases k0 : kind = 0
          · subst k0
            have hn0 : ¬ n < 0 := by
              intro hn
              rw [(item0n n size xs hn).2] at hE2
              omega
            obtain ⟨m, rfl⟩ := Int.eq_ofNat_of_zero_le (show 0 ≤ n by omega)
            rw [(item0p m size xs).1] at r2 hmx2
            have P := hid (fun w h => back_uint w q m rest h (by omega) hmx2)
            clear hn0 hE2
            have HM2 := hid hmx2
            clear hmx2
            go_wp2_with fail
            refine (P.out _ (r2.alloc _)).mono ?_
            rintro e w4 ⟨rfl, r4, hf4⟩
            have hx4 := hf4.at_ (alloc_new wr (.cells #[.int .i64 0, .int .i64 m, .int .i64 size, .string xs] 38)) (fun x => by have := blk_lt r2; omega)
            have hfr4 := (hfr.alloc (.cells #[.int .i64 0, .int .i64 m, .int .i64 size, .string xs] 38)).fresh hf4 (fun i hi => by have := HQ.out; omega)
            have hA4 := (hA.alloc (.cells #[.int .i64 0, .int .i64 m, .int .i64 size, .string xs] 38)).fresh hf4 (fun i hi => by have := HQ.out; have := hgs.out; omega)
            have y1 := cell_blk hx4 1
            have y3 := cell_blk hx4 3
            simp only [List.getElem?_toArray, List.getElem?_cons_zero, List.getElem?_cons_succ] at y1 y3
            clear d0 d1 d2 d3 hA hfr hf4 hx4 r2
            go_wp2_with fail
            go_roundw
            case rel => exact ⟨j + 1, by go_num, by omega, by rw [HRS.out]; exact r4, hfr4, hA4⟩
            case measure => simp [intOf]; omega
          by_cases k1 : kind = 1
          · subst k1
            rw [(item1 n size xs).1] at r2 hmx2
            have P := hid (fun w h => back_int w q n rest h hn1 hn2 hmx2)
            clear k0 hE2
            have HM2 := hid hmx2
            clear hmx2
            go_wp2_with fail
            refine (P.out _ (r2.alloc _)).mono ?_
            rintro e w4 ⟨rfl, r4, hf4⟩
            have hx4 := hf4.at_ (alloc_new wr (.cells #[.int .i64 1, .int .i64 n, .int .i64 size, .string xs] 38)) (fun x => by have := blk_lt r2; omega)
            have hfr4 := (hfr.alloc (.cells #[.int .i64 1, .int .i64 n, .int .i64 size, .string xs] 38)).fresh hf4 (fun i hi => by have := HQ.out; omega)
            have hA4 := (hA.alloc (.cells #[.int .i64 1, .int .i64 n, .int .i64 size, .string xs] 38)).fresh hf4 (fun i hi => by have := HQ.out; have := hgs.out; omega)
            have y1 := cell_blk hx4 1
            have y3 := cell_blk hx4 3
            simp only [List.getElem?_toArray, List.getElem?_cons_zero, List.getElem?_cons_succ] at y1 y3
            clear d0 d1 d2 d3 hA hfr hf4 hx4 r2
            go_wp2_with fail
            go_roundw
            case rel => exact ⟨j + 1, by go_num, by omega, by rw [HRS.out]; exact r4, hfr4, hA4⟩
            case measure => simp [intOf]; omega
          by_cases k2 : kind = 2
          · subst k2
            clear k0 k1
            have hfit : Fit n size := by
              rcases Classical.em (Fit n size) with h | h
              · exact h
              · rw [(item2n n size xs h).2] at hE2
                omega
            obtain ⟨a, z, rfl, rfl, hz, ha, haz⟩ := fit_nat hn2 hfit
            rw [(item2p a z xs hfit).1] at r2 hmx2
            have P := hid (fun w h => back_fixed w q a z rest h hz ha haz hmx2)
            clear hE2 hfit hz ha haz
            have HM2 := hid hmx2
            clear hmx2
            go_wp2_with fail
            refine (P.out _ (r2.alloc _)).mono ?_
            rintro e w4 ⟨rfl, r4, hf4⟩
            have hx4 := hf4.at_ (alloc_new wr (.cells #[.int .i64 2, .int .i64 a, .int .i64 z, .string xs] 38)) (fun x => by have := blk_lt r2; omega)
            have hfr4 := (hfr.alloc (.cells #[.int .i64 2, .int .i64 a, .int .i64 z, .string xs] 38)).fresh hf4 (fun i hi => by have := HQ.out; omega)
            have hA4 := (hA.alloc (.cells #[.int .i64 2, .int .i64 a, .int .i64 z, .string xs] 38)).fresh hf4 (fun i hi => by have := HQ.out; have := hgs.out; omega)
            have y1 := cell_blk hx4 1
            have y3 := cell_blk hx4 3
            simp only [List.getElem?_toArray, List.getElem?_cons_zero, List.getElem?_cons_succ] at y1 y3
            clear d0 d1 d2 d3 hA hfr hf4 hx4 r2
            go_wp2_with fail
            go_roundw
            case rel => exact ⟨j + 1, by go_num, by omega, by rw [HRS.out]; exact r4, hfr4, hA4⟩
            case measure => simp [intOf]; omega
          have hlx : ¬ 65535 < xs.size := by
            intro h
            rw [(item3l kind n size xs k0 k1 k2 h).2] at hE2
            omega
          rw [(item3 kind n size xs k0 k1 k2 hlx).1] at r2 hmx2
          have P := hid (fun w h => back_text w q xs rest h (by omega) hmx2)
          have b0 : (kind == 0) = false := by rw [beq_eq_false_iff_ne]; exact k0
          have b1 : (kind == 1) = false := by rw [beq_eq_false_iff_ne]; exact k1
          have b2 : (kind == 2) = false := by rw [beq_eq_false_iff_ne]; exact k2
          clear hE2 hlx k0 k1 k2
          have HM2 := hid hmx2
          clear hmx2
          go_wp2_with fail
          refine (P.out _ (r2.alloc _)).mono ?_
          rintro e w4 ⟨rfl, r4, hf4⟩
          have hx4 := hf4.at_ (alloc_new wr (.cells #[.int .i64 kind, .int .i64 n, .int .i64 size, .string xs] 38)) (fun x => by have := blk_lt r2; omega)
          have hfr4 := (hfr.alloc (.cells #[.int .i64 kind, .int .i64 n, .int .i64 size, .string xs] 38)).fresh hf4 (fun i hi => by have := HQ.out; omega)
          have hA4 := (hA.alloc (.cells #[.int .i64 kind, .int .i64 n, .int .i64 size, .string xs] 38)).fresh hf4 (fun i hi => by have := HQ.out; have := hgs.out; omega)
          have y1 := cell_blk hx4 1
          have y3 := cell_blk hx4 3
          simp only [List.getElem?_toArray, List.getElem?_cons_zero, List.getElem?_cons_succ] at y1 y3
          clear d0 d1 d2 d3 hA hfr hf4 hx4 r2
          go_wp2_with fail
          go_roundw
          case rel => exact ⟨j + 1, by go_num, by omega, by rw [HRS.out]; exact r4, hfr4, hA4⟩
          case measure => simp [intOf]; omega
        · go_wp2_with fail
          have hdr : (ks.drop j).flatMap It.B = [] := by rw [List.drop_of_length_le (by omega)]; rfl
          rw [hdr] at r
          refine (end_calls _ q _ 0 r (by decide)).mono ?_
          rintro e w7 ⟨rfl, rfl⟩
          go_wp2_with (go_at_call 11; refine (speaks_calls _).mono ?_; rintro e6 w6 ⟨rfl, hf6⟩)
          go_ret
          exact ⟨rfl, hA.trans hf6⟩
end Go.Proofs.Ytodlenagpconiaa.Cw
