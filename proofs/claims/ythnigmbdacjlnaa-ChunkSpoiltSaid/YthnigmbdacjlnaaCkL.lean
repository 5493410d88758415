/- A collector's Add: one that is there. Own work. -/
import Derived.Test.YthnigmbdacjlnaaCkJ
namespace Go.Proofs.Ythnigmbdacjlnaa.Cw
open Go.RowKit
set_option linter.unusedVariables false
set_option linter.unusedSimpArgs false

set_option maxRecDepth 100000 in
set_option maxHeartbeats 3200000 in
theorem add_there (w : World) (g b : Nat) (fd ft fn fc : Int) (fs : ByteArray) (c : Ck) (L : List Ck) (h : Col w g b ⟨fd, ft, fn, fs, fc⟩ L) (hc : ckB c = true) (hL : L ≠ []) (hd : c.d = fd) (ht : c.t = ft) (sv : ByteArray) (hno : hs L c.n = some sv) :
    Calls Try.prog 15 #[.pointer (some ⟨g, 0, none⟩), c.V] w (AdP w g b false 0 L) := by
  obtain ⟨d, t, n, s, q⟩ := c
  have HD : Hid (d = fd) := hid hd
  have HT : Hid (t = ft) := hid ht
  have HNO : Hid (hs L n = some sv) := hid hno
  clear hd ht hno
  have CC := hid (fun (W : World) => check_calls W ⟨d, t, n, s, q⟩)
  have he : ckE ⟨d, t, n, s, q⟩ = 0 := by unfold ckE; rw [hc]; rfl
  rw [he] at CC
  unfold Ck.V at *
  simp only at CC ⊢
  clear hc he
  go_enter Try.func15, Try.ntmps15
  go_wp2_with fail
  refine (CC.out _).mono ?_
  rintro e w1 ⟨rfl, hf1⟩
  have hA := ((Fr.refl w (fun _ => False)).alloc (.cells #[.int .i64 d, .int .i64 t, .int .i64 n, .string s, .int .i64 q] 24)).trans hf1
  have hx1 := hf1.at_ (alloc_new w (.cells #[.int .i64 d, .int .i64 t, .int .i64 n, .string s, .int .i64 q] 24)) (fun x => x)
  have hC1 := h.fr hA
  have hpg : w.heap.size ≠ g := by
    have := (Array.getElem?_eq_some_iff.1 h.blk).1
    omega
  have HW := hid h
  clear hf1 h
  have x0 := cell_blk hx1 0
  have x1 := cell_blk hx1 1
  have x2 := cell_blk hx1 2
  have x3 := cell_blk hx1 3
  have x4 := cell_blk hx1 4
  simp only [List.getElem?_toArray, List.getElem?_cons_zero, List.getElem?_cons_succ] at x0 x1 x2 x3 x4
  have y0 := cell_blk hC1.blk 0
  have y1 := cell_blk hC1.blk 1
  have y5 := cell_blk hC1.blk 5
  simp only [List.getElem?_toArray, List.getElem?_cons_zero, List.getElem?_cons_succ] at y0 y1 y5
  obtain ⟨ln, hln⟩ : ∃ ln, L.length = ln := ⟨_, rfl⟩
  have hne0 : ¬ ln = 0 := fun e => hL (List.eq_nil_of_length_eq_zero (by omega))
  have HLN := hid hln
  clear hln
  have hlen : (ln == 0) = false := beq_eq_false_iff_ne.2 hne0
  have hlen2 : ((ln : Int) == 0) = false := by rw [beq_eq_false_iff_ne]; omega
  go_upto_region 8 with (at_len; refine wpList_len25 _ rfl (.tmp 19) rfl b L (by rfl) hC1.mp ?_; rw [HLN.out])
  have HNE := hid hC1.ne
  have HA := hid hA
  have HL := hid hL
  have HMP := hid hC1.mp
  have hM2 := hC1.mp
  have hb := hC1.blk
  simp only at hb
  have hx2 := hx1
  have hF := Fr.refl w1 (fun _ => False)
  have HHD := hid hC1.hd
  clear hA hpg hC1 hx1 hL hlen hlen2 hne0
  generalize w.heap.size = p at *
  have e1 : (d != fd) = false := by rw [HD.out]; simp
  have e2 : (t != ft) = false := by rw [HT.out]; simp
  have hno : hs L n = some sv := HNO.out
  go_quiet (fail)
  have hx3 : (w1.drewN nq).heap[p]? = some (.cells #[.int .i64 d, .int .i64 t, .int .i64 n, .string s, .int .i64 q] 24 (0, 0)) := hx2
  have hb3 : (w1.drewN nq).heap[g]? = some (.cells #[.int .i64 fd, .int .i64 ft, .int .i64 fn, .string fs, .int .i64 fc, .map (some b)] 68 (0, 0)) := hb
  have hM3 : Mp (w1.drewN nq) b L := hM2
  have hF3 := hF.drewN nq
  clear hx2 hb hM2 hF x0 x1 x2 x3 x4 y0 y1 y5
  generalize w1.drewN nq = w3 at *
  have x0 := cell_blk hx3 0
  have x1 := cell_blk hx3 1
  have x2 := cell_blk hx3 2
  have x3 := cell_blk hx3 3
  have y5 := cell_blk hb3 5
  simp only [List.getElem?_toArray, List.getElem?_cons_zero, List.getElem?_cons_succ] at x0 x1 x2 x3 y5
  have hlk : ∀ k, (Instr.lookup 66 (.map (some b)) (.int .i64 n) true).run Try.prog (w3.drewN k) = .ok (.tuple #[.string sv, .bool true]) (w3.drewN k) := fun k => by
    have := (Mp.lookup (w := w3.drewN k) hM3 n).1
    rw [hno] at this
    exact this
  have hlk0 : (Instr.lookup 66 (.map (some b)) (.int .i64 n) true).run Try.prog w3 = .ok (.tuple #[.string sv, .bool true]) w3 := hlk 0
  go_wp2_with fail
  go_quiet (fail)
  go_wp2_with fail
  go_ret2
  refine AdP.stay (x := 0) HW.out ?_
  exact Fr.drewN (Fr.trans HA.out hF3) nq
end Go.Proofs.Ythnigmbdacjlnaa.Cw
