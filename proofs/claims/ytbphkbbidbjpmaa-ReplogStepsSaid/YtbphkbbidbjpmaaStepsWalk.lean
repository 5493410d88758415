/- ReplogSteps: the walk. Own work. -/
import Derived.Test.YtbphkbbidbjpmaaReV
import Derived.Test.YtbphkbbidbjpmaaOpenSteps
import Derived.Deep.DeepCutAuto
import Derived.Deep.CutRange
import Derived.Deep.CutBlock
namespace Go.Proofs.Ytbphkbbidbjpmaa.Cw
open Go.RowKit
set_option linter.unusedVariables false
set_option linter.unusedSimpArgs false

/-- The program's log and the reference's, side by side. -/
structure TL (H0 : Nat) (w : World) (g g2 : Nat) (v v2 : Value) (es fs : List En) : Prop where
  l1 : Lw w g v es
  l2 : Lr w g2 v2 fs
  hg : H0 ≤ g
  hg2 : H0 ≤ g2
  hne : g ≠ g2
  b1 : ∀ b, v.ownBlock = some b → H0 ≤ b ∧ b ≠ g2
  b2 : ∀ b, v2.ownBlock = some b → H0 ≤ b ∧ b ≠ g ∧ v.ownBlock ≠ some b
theorem TL.fr {H0 : Nat} {w w' : World} {g g2 : Nat} {v v2 : Value} {es fs : List En} (h : TL H0 w g g2 v v2 es fs) (hf : Fr w w' (fun _ => False)) : TL H0 w' g g2 v v2 es fs :=
  ⟨h.l1.heap hf, h.l2.heap hf, h.hg, h.hg2, h.hne, h.b1, h.b2⟩
theorem TL.step1 {H0 : Nat} {w w' : World} {g g2 : Nat} {v v2 v' : Value} {es fs es' : List En} (h : TL H0 w g g2 v v2 es fs) (hL : Lw w' g v' es') (hf : Fr w w' (WS g v)) (hw : Wn w v v') : TL H0 w' g g2 v' v2 es' fs := by
  have hlt := h.l2.lt
  have hlt1 := h.l1.lt
  have hg := h.hg
  refine ⟨hL, h.l2.fr hf ?_ ?_, h.hg, h.hg2, h.hne, ?_, ?_⟩
  · rintro (e | e)
    · exact h.hne e.symm
    · exact (h.b1 _ e).2 rfl
  · intro b hb
    rintro (e | e)
    · exact (h.b2 b hb).2.1 e
    · exact (h.b2 b hb).2.2 e
  · intro b hb
    rcases hw b hb with e | e
    · exact h.b1 b e
    · exact ⟨by omega, by omega⟩
  · intro b hb
    refine ⟨(h.b2 b hb).1, (h.b2 b hb).2.1, fun e => ?_⟩
    rcases hw b e with e | e
    · exact (h.b2 b hb).2.2 e
    · have := h.l2.2.lt hb
      omega
theorem TL.step2 {H0 : Nat} {w w' : World} {g g2 : Nat} {v v2 v' : Value} {es fs fs' : List En} (h : TL H0 w g g2 v v2 es fs) (hL : Lr w' g2 v' fs') (hf : Fr w w' (WS g2 v2)) (hw : Wn w v2 v') : TL H0 w' g g2 v v' es fs' := by
  have hlt := h.l2.lt
  have hlt1 := h.l1.lt
  have hg := h.hg
  refine ⟨h.l1.fr hf ?_ ?_, hL, h.hg, h.hg2, h.hne, h.b1, ?_⟩
  · rintro (e | e)
    · exact h.hne e
    · exact (h.b2 _ e).2.1 rfl
  · intro b hb
    rintro (e | e)
    · exact (h.b1 b hb).2 e
    · exact (h.b2 b e).2.2 hb
  · intro b hb
    rcases hw b hb with e | e
    · exact h.b2 b e
    · refine ⟨by omega, by omega, fun e2 => ?_⟩
      have := h.l1.2.lt e2
      omega
theorem TL.far1 {H0 : Nat} {w w0 w' : World} {g g2 : Nat} {v v2 : Value} {es fs : List En} (h : TL H0 w g g2 v v2 es fs) (h0 : w0.heap.size = H0) (hF : Fr w0 w (fun _ => False)) (hf : Fr w w' (WS g v)) : Fr w0 w' (fun _ => False) := by
  refine hF.behind hf ?_
  intro i hi
  rintro (e | e)
  · have := h.hg; omega
  · have := (h.b1 i e).1; omega
theorem TL.far2 {H0 : Nat} {w w0 w' : World} {g g2 : Nat} {v v2 : Value} {es fs : List En} (h : TL H0 w g g2 v v2 es fs) (h0 : w0.heap.size = H0) (hF : Fr w0 w (fun _ => False)) (hf : Fr w w' (WS g2 v2)) : Fr w0 w' (fun _ => False) := by
  refine hF.behind hf ?_
  intro i hi
  rintro (e | e)
  · have := h.hg2; omega
  · have := (h.b2 i e).1; omega
theorem Fr.only {w w' : World} {g : Nat} {v : Value} (h : Fr w w' (fun i => i = g)) : Fr w w' (WS g v) := h.mono (fun _ _ e => .inl e)

/-- The step at hand lies in block B. -/
def Bk (w : World) (B : Nat) (x : St) : Prop := w.heap[B]? = some (.cells x.cells.toArray 52 (0, 0))
/-- What holds at a round's head. -/
def RelS (w : World) (g g2 : Nat) (wr : World) : Prop := ∃ v v2 es, TL w.heap.size wr g g2 v v2 es es ∧ GE es ∧ Fr w wr (fun _ => False)
/-- What holds within a round. -/
structure SP (w W : World) (g g2 B : Nat) (x : St) (v v2 : Value) (es fs : List En) : Prop where
  tl : TL w.heap.size W g g2 v v2 es fs
  fr : Fr w W (fun _ => False)
  bk : Bk W B x
  sv : Sv w x.v x.l
  n1 : ¬ WS g v B
  n2 : ¬ WS g2 v2 B
theorem SP.heap {w W W' : World} {g g2 B : Nat} {x : St} {v v2 : Value} {es fs : List En} (h : SP w W g g2 B x v v2 es fs) (hf : Fr W W' (fun _ => False)) : SP w W' g g2 B x v v2 es fs :=
  ⟨h.tl.fr hf, h.fr.trans hf, hf.at_ h.bk (fun x => x), h.sv, h.n1, h.n2⟩
theorem SP.step1 {w W W' : World} {g g2 B : Nat} {x : St} {v v2 v' : Value} {es fs es' : List En} (h : SP w W g g2 B x v v2 es fs) (hL : Lw W' g v' es') (hf : Fr W W' (WS g v)) (hw : Wn W v v') : SP w W' g g2 B x v' v2 es' fs := by
  have hB := blk_lt h.bk
  refine ⟨h.tl.step1 hL hf hw, h.tl.far1 rfl h.fr hf, hf.at_ h.bk h.n1, h.sv, ?_, h.n2⟩
  rintro (e | e)
  · exact h.n1 (.inl e)
  · rcases hw B e with e | e
    · exact h.n1 (.inr e)
    · omega
theorem SP.step2 {w W W' : World} {g g2 B : Nat} {x : St} {v v2 v' : Value} {es fs fs' : List En} (h : SP w W g g2 B x v v2 es fs) (hL : Lr W' g2 v' fs') (hf : Fr W W' (WS g2 v2)) (hw : Wn W v2 v') : SP w W' g g2 B x v v' es fs' := by
  have hB := blk_lt h.bk
  refine ⟨h.tl.step2 hL hf hw, h.tl.far2 rfl h.fr hf, hf.at_ h.bk h.n2, h.sv, h.n1, ?_⟩
  rintro (e | e)
  · exact h.n2 (.inl e)
  · rcases hw B e with e | e
    · exact h.n2 (.inr e)
    · omega
theorem SP.two {w W : World} {g g2 B : Nat} {x : St} {v v2 : Value} {es fs : List En} (h : SP w W g g2 B x v v2 es fs) : W.cell? ⟨B, 1, none⟩ = some (.int .i64 x.n) ∧ W.cell? ⟨B, 11, none⟩ = some x.v := ⟨cell_blk h.bk 1, cell_blk h.bk 11⟩
theorem SP.cells {w W : World} {g g2 B : Nat} {x : St} {v v2 : Value} {es fs : List En} (h : SP w W g g2 B x v v2 es fs) (j : Nat) : W.cell? ⟨B, j, none⟩ = x.cells[j]? := (cell_blk h.bk j).trans (by simp)
theorem sAppend1 {w W : World} {g g2 B : Nat} {x : St} {v v2 : Value} {es fs : List En} (h : SP w W g g2 B x v v2 es fs) (hl : es.length ≤ 4096) :
    Calls Try.prog 22 #[.pointer (some ⟨g, 0, none⟩), x.e.V] W fun e w' => e = .returned (.tuple #[.int .i64 (apN es x.e), .int .i64 (apE es x.e)]) ∧ ∃ v', SP w w' g g2 B x v' v2 (app es x.e) fs :=
  (appendw_any W g v es x.e h.tl.l1 hl).mono fun _ _ ⟨h1, v', h2, h3, h4⟩ => ⟨h1, v', h.step1 h2 h3 h4⟩
theorem sAppend2 {w W : World} {g g2 B : Nat} {x : St} {v v2 : Value} {es fs : List En} (h : SP w W g g2 B x v v2 es fs) (hl : fs.length ≤ 4096) :
    Calls Try.prog 23 #[.pointer (some ⟨g2, 0, none⟩), x.e.V] W fun e w' => e = .returned (.tuple #[.int .i64 (apN fs x.e), .int .i64 (apE fs x.e)]) ∧ ∃ v', SP w w' g g2 B x v v' es (app fs x.e) :=
  (rappend_any W g2 v2 fs x.e h.tl.l2 hl).mono fun _ _ ⟨h1, v', h2, h3, h4⟩ => ⟨h1, v', h.step2 h2 h3 h4⟩
theorem sRepl1 {w W : World} {g g2 B : Nat} {x : St} {v v2 : Value} {es fs : List En} (h : SP w W g g2 B x v v2 es fs) (hg : GE es) (hx : x.l.length ≤ 1466015503701) :
    Calls Try.prog 20 #[.pointer (some ⟨g, 0, none⟩), .int .i64 x.n, x.v] W fun e w' => e = .returned (.int .i64 (rpE es x.n x.l)) ∧ ∃ v', SP w w' g g2 B x v' v2 (rpL es x.n x.l) fs :=
  (replace_any W g v x.v es x.l x.n h.tl.l1 (h.sv.fr h.fr) hx hg.2.2 hg.vb).mono fun _ _ ⟨h1, v', h2, h3, h4⟩ => ⟨h1, v', h.step1 h2 h3.only h4⟩
theorem sRepl2 {w W : World} {g g2 B : Nat} {x : St} {v v2 : Value} {es fs : List En} (h : SP w W g g2 B x v v2 es fs) (hg : GE fs) (hx : x.l.length ≤ 1466015503701) :
    Calls Try.prog 24 #[.pointer (some ⟨g2, 0, none⟩), .int .i64 x.n, x.v] W fun e w' => e = .returned (.int .i64 (rpE fs x.n x.l)) ∧ ∃ v', SP w w' g g2 B x v v' es (rpL fs x.n x.l) :=
  (rreplace_any W g2 v2 x.v fs x.l x.n h.tl.l2 (h.sv.fr h.fr) hx hg.2.2).mono fun _ _ ⟨h1, v', h2, h3, h4⟩ => ⟨h1, v', h.step2 h2 h3.only h4⟩
/-- What holds behind the switch. -/
def RelX (w : World) (g g2 B : Nat) (x : St) (W : World) : Prop := ∃ v v2 es, SP w W g g2 B x v v2 es es ∧ GE es
theorem keep20 {w0 W W' : World} {B B1 B2 g2 : Nat} {v0 v1 v2 v3 v4 v5 v6 v7 v8 v9 v10 v11 v12 v13 v14 v15 v16 v17 v18 v19 : Value} (hf : Fr W W' (fun _ => False)) (h : Fr w0 W (fun _ => False) ∧ W.cell? ⟨B1, 0, none⟩ = some v0 ∧ W.cell? ⟨B1, 1, none⟩ = some v1 ∧ W.cell? ⟨B1, 2, none⟩ = some v2 ∧ W.cell? ⟨B1, 3, none⟩ = some v3 ∧ W.cell? ⟨B1, 4, none⟩ = some v4 ∧ W.cell? ⟨B1, 5, none⟩ = some v5 ∧ W.cell? ⟨B1, 6, none⟩ = some v6 ∧ W.cell? ⟨B1, 7, none⟩ = some v7 ∧ W.cell? ⟨B1, 8, none⟩ = some v8 ∧ W.cell? ⟨B2, 0, none⟩ = some v9 ∧ W.cell? ⟨B2, 1, none⟩ = some v10 ∧ W.cell? ⟨B2, 2, none⟩ = some v11 ∧ W.cell? ⟨B2, 3, none⟩ = some v12 ∧ W.cell? ⟨B2, 4, none⟩ = some v13 ∧ W.cell? ⟨B2, 5, none⟩ = some v14 ∧ W.cell? ⟨B2, 6, none⟩ = some v15 ∧ W.cell? ⟨B2, 7, none⟩ = some v16 ∧ W.cell? ⟨B2, 8, none⟩ = some v17 ∧ W.cell? ⟨B, 1, none⟩ = some v18 ∧ W.cell? ⟨g2, 0, none⟩ = some v19) :
    Fr w0 W' (fun _ => False) ∧ W'.cell? ⟨B1, 0, none⟩ = some v0 ∧ W'.cell? ⟨B1, 1, none⟩ = some v1 ∧ W'.cell? ⟨B1, 2, none⟩ = some v2 ∧ W'.cell? ⟨B1, 3, none⟩ = some v3 ∧ W'.cell? ⟨B1, 4, none⟩ = some v4 ∧ W'.cell? ⟨B1, 5, none⟩ = some v5 ∧ W'.cell? ⟨B1, 6, none⟩ = some v6 ∧ W'.cell? ⟨B1, 7, none⟩ = some v7 ∧ W'.cell? ⟨B1, 8, none⟩ = some v8 ∧ W'.cell? ⟨B2, 0, none⟩ = some v9 ∧ W'.cell? ⟨B2, 1, none⟩ = some v10 ∧ W'.cell? ⟨B2, 2, none⟩ = some v11 ∧ W'.cell? ⟨B2, 3, none⟩ = some v12 ∧ W'.cell? ⟨B2, 4, none⟩ = some v13 ∧ W'.cell? ⟨B2, 5, none⟩ = some v14 ∧ W'.cell? ⟨B2, 6, none⟩ = some v15 ∧ W'.cell? ⟨B2, 7, none⟩ = some v16 ∧ W'.cell? ⟨B2, 8, none⟩ = some v17 ∧ W'.cell? ⟨B, 1, none⟩ = some v18 ∧ W'.cell? ⟨g2, 0, none⟩ = some v19 := by
  obtain ⟨h0, k0, k1, k2, k3, k4, k5, k6, k7, k8, k9, k10, k11, k12, k13, k14, k15, k16, k17, k18, k19⟩ := h
  exact ⟨h0.trans hf, cell_fr k0 hf, cell_fr k1 hf, cell_fr k2 hf, cell_fr k3 hf, cell_fr k4 hf, cell_fr k5 hf, cell_fr k6 hf, cell_fr k7 hf, cell_fr k8 hf, cell_fr k9 hf, cell_fr k10 hf, cell_fr k11 hf, cell_fr k12 hf, cell_fr k13 hf, cell_fr k14 hf, cell_fr k15 hf, cell_fr k16 hf, cell_fr k17 hf, cell_fr k18 hf, cell_fr k19 hf⟩
attribute [local go_sem ↓ high] eqEn
set_option maxRecDepth 100000 in
set_option maxHeartbeats 6400000 in
theorem steps_row (w : World) (va : Value) (l : List St) (ha : SvS w va l) :
    Calls Try.prog 7 #[va] w fun e w' => e = .returned (.bool true) ∧ Fr w w' (fun _ => False) := by
  obtain ⟨A, cap, rfl, h1, h2, h3, h4⟩ := ha
  have HA := hid h4
  have HX := hid (fun (i : Nat) (hi : i < l.length) => (⟨l[i], List.getElem?_eq_getElem hi, h3 _ (List.getElem_mem hi)⟩ : ∃ x, l[i]? = some x ∧ x.Ok w))
  have HP := hid (fun (i : Nat) (hi : i < l.length) (e : l = []) => (by rw [e] at hi; simp at hi : False))
  clear h3 h4
  generalize l.length = N at *
  have hN : N ≤ 9223372036854775807 := by unfold maxLen at h2; omega
  clear h1 h2
  go_enter Try.func7, Try.ntmps7
  go_wp2_with fail
  refine (new20_calls _).mono ?_
  rintro e w1 ⟨rfl, hL, hf1⟩
  have HL := hid hL.lw
  have HF1 := hid hf1
  have hlt1 := hL.lt
  have HLT := hid hlt1
  clear hL hf1 hlt1
  generalize hg : w.heap.size = g at *
  have HG := hid hg
  clear hg
  go_upto_region 5 with fail
  have hnew := alloc_new w1 (.cells #[.slice none 0 0] 50)
  have HT0 : Hid (RelS w g w1.heap.size (w1.alloc (.cells #[.slice none 0 0] 50))) := hid ⟨_, _, [], ⟨HL.out.alloc _, ⟨hnew, WR.nil _⟩, by have := HG.out; omega, by have := HLT.out; have := HG.out; omega, by have := HLT.out; omega, (fun b hb => by cases hb), (fun b hb => by cases hb)⟩, GE.nil, HF1.out.alloc _⟩
  clear hnew
  generalize w1.alloc (.cells #[.slice none 0 0] 50) = W0 at *
  generalize w1.heap.size = g2 at *
  go_wp2_with fail
  go_loopw [22] (fun t wr => ∃ i : Nat, i ≤ N ∧ t = .int .i64 i ∧ RelS w g g2 wr) (fun t _ => N - (intOf t).toNat)
  case atStart => exact ⟨0, by omega, rfl, HT0.out⟩
  case round =>
    obtain ⟨i, hi, rfl, hR⟩ := hrel
    by_cases hlt : i < N
    · obtain ⟨x, hx, hok⟩ := HX.out i hlt
      obtain ⟨b, off, rfl, hb, HA1⟩ := HA.out (HP.out i hlt)
      obtain ⟨v, v2, es, hT, hGE, hF⟩ := hR
      have a0 := cell_fr (HA1 i x hx 0 _ rfl) hF
      have a1 := cell_fr (HA1 i x hx 1 _ rfl) hF
      have a2 := cell_fr (HA1 i x hx 2 _ rfl) hF
      have a3 := cell_fr (HA1 i x hx 3 _ rfl) hF
      have a4 := cell_fr (HA1 i x hx 4 _ rfl) hF
      have a5 := cell_fr (HA1 i x hx 5 _ rfl) hF
      have a6 := cell_fr (HA1 i x hx 6 _ rfl) hF
      have a7 := cell_fr (HA1 i x hx 7 _ rfl) hF
      have a8 := cell_fr (HA1 i x hx 8 _ rfl) hF
      have a9 := cell_fr (HA1 i x hx 9 _ rfl) hF
      have a10 := cell_fr (HA1 i x hx 10 _ rfl) hF
      have a11 := cell_fr (HA1 i x hx 11 _ rfl) hF
      rw [Nat.add_zero] at a0
      have HGE := hid hGE
      have HSP : Hid (SP w (wr.alloc (.cells x.cells.toArray 52)) g g2 wr.heap.size x v v2 es es) := hid ⟨hT.fr ((Fr.refl wr (fun _ => False)).alloc _), hF.alloc _, alloc_new wr _, hok.2.2.1, (by
        rintro (e | e)
        · have := hT.l1.lt; omega
        · have := hT.l1.2.lt e; omega), (by
        rintro (e | e)
        · have := hT.l2.lt; omega
        · have := hT.l2.2.lt e; omega)⟩
      clear hx HA1 hT hGE hF
      obtain ⟨xk, xn, ⟨ea, eb, ec, ek, et, en, ep, eq, er⟩, lv, ll⟩ := x
      obtain ⟨hk1, hn1, hsl, hll⟩ := hok
      simp only at hk1 hn1 hsl hll
      have HSL := hid hsl
      have HLL := hid hll
      have HXN := hid hn1
      obtain ⟨LA, lcap, he, y1, y2, -⟩ := hsl
      subst he
      clear hk1 hn1 hll
      have HXV : Hid (St.cells ⟨xk, xn, ⟨ea, eb, ec, ek, et, en, ep, eq, er⟩, .slice LA ll.length lcap, ll⟩ = [.int .i64 xk, .int .i64 xn, .int .i64 ea, .int .i64 eb, .int .i64 ec, .int .i64 ek, .int .i64 et, .int .i64 en, .string ep, .string eq, .string er, .slice LA ll.length lcap]) := hid rfl
      rw [HXV.out] at HSP
      simp only at a0 a1 a2 a3 a4 a5 a6 a7 a8 a9 a10 a11
      go_upto_region 8 with fail
      generalize wr.alloc (.cells #[.int .i64 xk, .int .i64 xn, .int .i64 ea, .int .i64 eb, .int .i64 ec, .int .i64 ek, .int .i64 et, .int .i64 en, .string ep, .string eq, .string er, .slice LA ll.length lcap] 52) = W at *
      generalize wr.heap.size = B at *
      clear a0 a1 a2 a3 a4 a5 a6 a7 a8 a9 a10 a11
      have d0 := HSP.out.cells 0
      have d1 := HSP.out.cells 1
      have d2 := HSP.out.cells 2
      have d3 := HSP.out.cells 3
      have d4 := HSP.out.cells 4
      have d5 := HSP.out.cells 5
      have d6 := HSP.out.cells 6
      have d7 := HSP.out.cells 7
      have d8 := HSP.out.cells 8
      have d9 := HSP.out.cells 9
      have d10 := HSP.out.cells 10
      have d11 := HSP.out.cells 11
      rw [HXV.out] at d0 d1 d2 d3 d4 d5 d6 d7 d8 d9 d10 d11
      simp only [List.getElem?_cons_zero, List.getElem?_cons_succ] at d0 d1 d2 d3 d4 d5 d6 d7 d8 d9 d10 d11
      clear HXV
      have hlen := HGE.out.2.2
      go_upto_block 2 with fail
      generalize hX : (⟨xk, xn, ⟨ea, eb, ec, ek, et, en, ep, eq, er⟩, .slice LA ll.length lcap, ll⟩ : St) = X at *
      have HX2 := hid hX
      clear hX
      go_cut [22] from 23 to 119 (fun t wx => t = .int .i64 i ∧ RelX w g g2 B X wx)
      case first =>
        by_cases k01 : xk = 0 ∨ xk = 1
        · have A1 := hid (sAppend1 HSP.out hlen)
          have A2 := hid (fun (W : World) v' (h : SP w W g g2 B X v' v2 (app es X.e) es) => sAppend2 h hlen)
          have HXE : X.e = ⟨ea, eb, ec, ek, et, en, ep, eq, er⟩ := by rw [← HX2.out]
          have GA := hid (HGE.out.app X.e)
          rw [HXE] at A1 A2 GA
          clear HXE
          generalize app es ⟨ea, eb, ec, ek, et, en, ep, eq, er⟩ = es2 at *
          generalize apN es ⟨ea, eb, ec, ek, et, en, ep, eq, er⟩ = r1 at *
          generalize apE es ⟨ea, eb, ec, ek, et, en, ep, eq, er⟩ = r2 at *
          unfold En.V enV at A1 A2
          simp only at A1 A2
          rcases k01 with k01 | k01
          all_goals
            subst k01
            go_wp2_with fail
            refine A1.out.mono ?_
            rintro e w6 ⟨rfl, v', hs6⟩
            have e2 := hs6.cells 2
            have e3 := hs6.cells 3
            have e4 := hs6.cells 4
            have e5 := hs6.cells 5
            have e6 := hs6.cells 6
            have e7 := hs6.cells 7
            have e8 := hs6.cells 8
            have e9 := hs6.cells 9
            have e10 := hs6.cells 10
            rw [← HX2.out] at e2 e3 e4 e5 e6 e7 e8 e9 e10
            simp only [St.cells, List.getElem?_cons_zero, List.getElem?_cons_succ] at e2 e3 e4 e5 e6 e7 e8 e9 e10
            go_wp2_with fail
            refine (A2.out w6 v' hs6).mono ?_
            rintro e w7 ⟨rfl, v9, hs7⟩
            have HS7 := hid hs7
            clear hs6 hs7 e2 e3 e4 e5 e6 e7 e8 e9 e10
            go_wp2_with fail
            go_meet
            case rel => exact ⟨rfl, _, _, es2, HS7.out, GA.out⟩
        · by_cases k2 : xk = 2
          · have R1 := hid (fun (W : World) (h : SP w W g g2 B X v v2 es es) => sRepl1 h HGE.out (by rw [← HX2.out]; exact HLL.out))
            have R2 := hid (fun (W : World) v' (h : SP w W g g2 B X v' v2 (rpL es X.n X.l) es) => sRepl2 h HGE.out (by rw [← HX2.out]; exact HLL.out))
            have HTW := hid (fun (W : World) v' v2' es' fs' (h : SP w W g g2 B X v' v2' es' fs') => (by
              have := h.two
              rw [← HX2.out] at this
              exact this : W.cell? ⟨B, 1, none⟩ = some (.int .i64 xn) ∧ W.cell? ⟨B, 11, none⟩ = some (.slice LA ll.length lcap)))
            have HXE : X.n = xn := by rw [← HX2.out]
            have HXV : X.v = .slice LA ll.length lcap := by rw [← HX2.out]
            have HXL : X.l = ll := by rw [← HX2.out]
            have GR := hid (HGE.out.rp xn ll)
            rw [HXE, HXV, HXL] at R1 R2
            clear HXE HXV HXL
            generalize rpL es xn ll = es2 at *
            generalize rpE es xn ll = r1 at *
            subst k2
            have h0 := HTW.out _ _ _ _ _ HSP.out
            have h0d := HTW.out _ _ _ _ _ (HSP.out.heap ((Fr.refl W (fun _ => False)).drew))
            go_wp2_with fail
            go_region_held3 (fun W => W.cell? ⟨B, 1, none⟩ = some (.int .i64 xn) ∧ W.cell? ⟨B, 11, none⟩ = some (.slice LA ll.length lcap)) (first | assumption | exact h0 | exact h0d)
              (first
                | (go_at_call 20; refine (R1.out _ (by first | exact HSP.out | exact HSP.out.heap ((Fr.refl W (fun _ => False)).drew))).mono ?_; rintro e w6 ⟨rfl, v6, hs6⟩; have hs6b := HTW.out _ _ _ _ _ hs6)
                | (go_at_call 24; refine (R2.out _ _ hs6).mono ?_; rintro e w7 ⟨rfl, v7, hs7⟩; have hs7b := HTW.out _ _ _ _ _ hs7))
            have HS7 := hid hs7
            clear hs6 hs6b hs7 hs7b h0 h0d
            go_wp2_with fail
            go_meet
            case rel => exact ⟨rfl, _, _, es2, HS7.out, GR.out⟩
          · have k0 : (xk == 0) = false := by rw [beq_eq_false_iff_ne]; omega
            have k1 : (xk == 1) = false := by rw [beq_eq_false_iff_ne]; omega
            have k3 : (xk == 2) = false := by rw [beq_eq_false_iff_ne]; omega
            clear k01 k2
            go_wp2_with fail
            go_meet
            case rel => exact ⟨rfl, v, v2, es, HSP.out, HGE.out⟩
      obtain ⟨rfl, hX3⟩ := hcut
      clear HSP d0 d1 d2 d3 d4 d5 d6 d7 d8 d9 d10 d11 hlen HGE
      obtain ⟨v, v2, es, hs, hGE⟩ := hX3
      have d1 := hs.cells 1
      rw [← HX2.out] at d1
      simp only [St.cells, List.getElem?_cons_zero, List.getElem?_cons_succ] at d1
      have HS := hid hs
      have hlen := hGE.2.2
      have HGE := hid hGE
      have GA := hid (getw_any wc g v es xn hs.tl.l1 hlen)
      have GB := hid (fun (W : World) (hf : Fr wc W (fun _ => False)) => rget_any W g2 v2 es xn (hs.tl.l2.heap hf) hlen)
      generalize gtE es xn = ge at *
      generalize gt es xn = gg at *
      obtain ⟨ga, gb, gc, gk, gt, gn, gp, gq, gr⟩ := gg
      unfold En.V enV at GA GB
      simp only at GA GB
      clear hs hGE
      go_wp2_with fail
      refine GA.out.mono ?_
      rintro e w1 ⟨rfl, hf1⟩
      have HF1 := hid hf1
      have d1 := cell_fr d1 hf1
      clear hf1
      go_upto_region 19 with fail
      have d1 := cell_fr d1 ((Fr.refl w1 (fun _ => False)).alloc (.cells #[.int .i64 ga, .int .i64 gb, .int .i64 gc, .int .i64 gk, .int .i64 gt, .int .i64 gn, .string gp, .string gq, .string gr] 25))
      have hN1 := alloc_new w1 (.cells #[.int .i64 ga, .int .i64 gb, .int .i64 gc, .int .i64 gk, .int .i64 gt, .int .i64 gn, .string gp, .string gq, .string gr] 25)
      have HF1 := hid (HF1.out.alloc (.cells #[.int .i64 ga, .int .i64 gb, .int .i64 gc, .int .i64 gk, .int .i64 gt, .int .i64 gn, .string gp, .string gq, .string gr] 25))
      generalize w1.alloc (.cells #[.int .i64 ga, .int .i64 gb, .int .i64 gc, .int .i64 gk, .int .i64 gt, .int .i64 gn, .string gp, .string gq, .string gr] 25) = w2 at *
      generalize w1.heap.size = B1 at *
      have HN1 := hid hN1
      clear hN1
      go_wp2_with fail
      refine (GB.out w2 HF1.out).mono ?_
      rintro e w3 ⟨rfl, hf3⟩
      have HF3 := hid (HF1.out.trans hf3)
      have hN1 := hf3.at_ HN1.out (fun x => x)
      have d1 := cell_fr d1 hf3
      clear hf3 HN1
      go_upto_region 20 with fail
      have d1 := cell_fr d1 ((Fr.refl w3 (fun _ => False)).alloc (.cells #[.int .i64 ga, .int .i64 gb, .int .i64 gc, .int .i64 gk, .int .i64 gt, .int .i64 gn, .string gp, .string gq, .string gr] 25))
      have hN2 := alloc_new w3 (.cells #[.int .i64 ga, .int .i64 gb, .int .i64 gc, .int .i64 gk, .int .i64 gt, .int .i64 gn, .string gp, .string gq, .string gr] 25)
      have hN1 := ((Fr.refl w3 (fun _ => False)).alloc (.cells #[.int .i64 ga, .int .i64 gb, .int .i64 gc, .int .i64 gk, .int .i64 gt, .int .i64 gn, .string gp, .string gq, .string gr] 25)).at_ hN1 (fun x => x)
      have HF5 := hid (HF3.out.alloc (.cells #[.int .i64 ga, .int .i64 gb, .int .i64 gc, .int .i64 gk, .int .i64 gt, .int .i64 gn, .string gp, .string gq, .string gr] 25))
      generalize w3.alloc (.cells #[.int .i64 ga, .int .i64 gb, .int .i64 gc, .int .i64 gk, .int .i64 gt, .int .i64 gn, .string gp, .string gq, .string gr] 25) = w5 at *
      generalize w3.heap.size = B2 at *
      have HS5 := hid (HS.out.heap HF5.out)
      obtain ⟨A2, cap2, hv2, _, _⟩ := HS5.out.tl.l2.shape
      subst hv2
      have c2 := HS5.out.tl.l2.c0
      have h0 := Fr.refl w5 (fun _ => False)
      have LN := hid (fun (W : World) (hf : Fr w5 W (fun _ => False)) => (lenw_calls W g v es (HS5.out.tl.l1.heap hf)).mono fun e w' (q : _ ∧ _) => (⟨q.1, q.2 ▸ Fr.refl W _⟩ : e = .returned (.int .i64 es.length) ∧ Fr W w' (fun _ => False)))
      have VN := hid (fun (W : World) (hf : Fr w5 W (fun _ => False)) => (vieww_calls W g v es (HS5.out.tl.l1.heap hf) (by omega)).mono fun e w' q => (⟨q.1, by obtain ⟨m, hm⟩ := q.2; rw [hm]; exact (Fr.refl W _).drewN m⟩ : e = .returned (.int .i64 (lastV es)) ∧ Fr W w' (fun _ => False)))
      have VR := hid (fun (W : World) (hf : Fr w5 W (fun _ => False)) => (rview_calls W g2 _ es (HS5.out.tl.l2.heap hf) (by omega)).mono fun e w' q => (⟨q.1, by obtain ⟨m, hm⟩ := q.2; rw [hm]; exact (Fr.refl W _).drewN m⟩ : e = .returned (.int .i64 (lastV es)) ∧ Fr W w' (fun _ => False)))
      have FN := hid (fun (W : World) (hf : Fr w5 W (fun _ => False)) => from_any W g v es xn 3 (HS5.out.tl.l1.heap hf) hlen (by omega) (by omega))
      have FM := hid (fun (W : World) (hf : Fr w5 W (fun _ => False)) => rfrom_calls W g2 _ es xn 3 (HS5.out.tl.l2.heap hf) hlen (by omega))
      have EN := hid (fun (W : World) u1 u2 (h1 : Sv W u1 (fromL es xn 3)) (h2 : Sv W u2 (fromL es xn 3)) => entries_calls W u1 u2 _ _ h1 h2 (by have := fromL_len es xn 3; omega) (by have := fromL_len es xn 3; omega))
      simp only [refl_dec] at EN
      generalize lastV es = lv at *
      have E9 := eq9_yes ga gb gc gk gt gn gp gq gr
      have r0 := cell_blk hN1 0
      have s0 := cell_blk hN2 0
      have r1 := cell_blk hN1 1
      have s1 := cell_blk hN2 1
      have r2 := cell_blk hN1 2
      have s2 := cell_blk hN2 2
      have r3 := cell_blk hN1 3
      have s3 := cell_blk hN2 3
      have r4 := cell_blk hN1 4
      have s4 := cell_blk hN2 4
      have r5 := cell_blk hN1 5
      have s5 := cell_blk hN2 5
      have r6 := cell_blk hN1 6
      have s6 := cell_blk hN2 6
      have r7 := cell_blk hN1 7
      have s7 := cell_blk hN2 7
      have r8 := cell_blk hN1 8
      have s8 := cell_blk hN2 8
      simp only [List.getElem?_toArray, List.getElem?_cons_zero, List.getElem?_cons_succ] at r0 r1 r2 r3 r4 r5 r6 r7 r8 s0 s1 s2 s3 s4 s5 s6 s7 s8
      have hS : Fr w5 w5 (fun _ => False) ∧ w5.cell? ⟨B1, 0, none⟩ = some (.int .i64 ga) ∧ w5.cell? ⟨B1, 1, none⟩ = some (.int .i64 gb) ∧ w5.cell? ⟨B1, 2, none⟩ = some (.int .i64 gc) ∧ w5.cell? ⟨B1, 3, none⟩ = some (.int .i64 gk) ∧ w5.cell? ⟨B1, 4, none⟩ = some (.int .i64 gt) ∧ w5.cell? ⟨B1, 5, none⟩ = some (.int .i64 gn) ∧ w5.cell? ⟨B1, 6, none⟩ = some (.string gp) ∧ w5.cell? ⟨B1, 7, none⟩ = some (.string gq) ∧ w5.cell? ⟨B1, 8, none⟩ = some (.string gr) ∧ w5.cell? ⟨B2, 0, none⟩ = some (.int .i64 ga) ∧ w5.cell? ⟨B2, 1, none⟩ = some (.int .i64 gb) ∧ w5.cell? ⟨B2, 2, none⟩ = some (.int .i64 gc) ∧ w5.cell? ⟨B2, 3, none⟩ = some (.int .i64 gk) ∧ w5.cell? ⟨B2, 4, none⟩ = some (.int .i64 gt) ∧ w5.cell? ⟨B2, 5, none⟩ = some (.int .i64 gn) ∧ w5.cell? ⟨B2, 6, none⟩ = some (.string gp) ∧ w5.cell? ⟨B2, 7, none⟩ = some (.string gq) ∧ w5.cell? ⟨B2, 8, none⟩ = some (.string gr) ∧ w5.cell? ⟨B, 1, none⟩ = some (.int .i64 xn) ∧ w5.cell? ⟨g2, 0, none⟩ = some (.slice A2 es.length cap2) := ⟨h0, r0, r1, r2, r3, r4, r5, r6, r7, r8, s0, s1, s2, s3, s4, s5, s6, s7, s8, d1, c2⟩
      have hSd := keep20 (h0.drew) hS
      clear hN1 hN2
      go_wp2_with fail
      go_region_held3 (fun W => Fr w5 W (fun _ => False) ∧ W.cell? ⟨B1, 0, none⟩ = some (.int .i64 ga) ∧ W.cell? ⟨B1, 1, none⟩ = some (.int .i64 gb) ∧ W.cell? ⟨B1, 2, none⟩ = some (.int .i64 gc) ∧ W.cell? ⟨B1, 3, none⟩ = some (.int .i64 gk) ∧ W.cell? ⟨B1, 4, none⟩ = some (.int .i64 gt) ∧ W.cell? ⟨B1, 5, none⟩ = some (.int .i64 gn) ∧ W.cell? ⟨B1, 6, none⟩ = some (.string gp) ∧ W.cell? ⟨B1, 7, none⟩ = some (.string gq) ∧ W.cell? ⟨B1, 8, none⟩ = some (.string gr) ∧ W.cell? ⟨B2, 0, none⟩ = some (.int .i64 ga) ∧ W.cell? ⟨B2, 1, none⟩ = some (.int .i64 gb) ∧ W.cell? ⟨B2, 2, none⟩ = some (.int .i64 gc) ∧ W.cell? ⟨B2, 3, none⟩ = some (.int .i64 gk) ∧ W.cell? ⟨B2, 4, none⟩ = some (.int .i64 gt) ∧ W.cell? ⟨B2, 5, none⟩ = some (.int .i64 gn) ∧ W.cell? ⟨B2, 6, none⟩ = some (.string gp) ∧ W.cell? ⟨B2, 7, none⟩ = some (.string gq) ∧ W.cell? ⟨B2, 8, none⟩ = some (.string gr) ∧ W.cell? ⟨B, 1, none⟩ = some (.int .i64 xn) ∧ W.cell? ⟨g2, 0, none⟩ = some (.slice A2 es.length cap2)) (first | assumption | exact hS | exact hSd | exact keep20 (by assumption) (by assumption))
        (first
          | (go_at_call 18; refine (LN.out _ (And.left (by assumption))).mono ?_; rintro e w9 ⟨rfl, hf9⟩)
          | (go_at_call 27; refine (VN.out _ (And.left (by assumption))).mono ?_; rintro e w9 ⟨rfl, hf9⟩)
          | (go_at_call 28; refine (VR.out _ (And.left (by assumption))).mono ?_; rintro e w9 ⟨rfl, hf9⟩)
          | (go_at_call 15; refine (FN.out _ (And.left (by assumption))).mono ?_; rintro e w9 ⟨uu1, rfl, hu1, hf9⟩)
          | (go_at_call 29; refine (FM.out _ (And.left (by assumption))).mono ?_; rintro e w9 ⟨uu2, rfl, hu2, hf9⟩; have hu1 := hu1.fr hf9)
          | (go_at_call 19; refine (EN.out _ _ _ hu1 hu2).mono ?_; rintro e w9 ⟨rfl, hf9⟩))
      have HFZ := hid (And.left (by assumption : Fr w5 _ (fun _ => False) ∧ _))
      go_wp2_with fail
      go_roundw
      case rel => exact ⟨i + 1, by omega, by go_num, _, _, es, (HS5.out.heap HFZ.out).tl, HGE.out, HS5.out.fr.trans HFZ.out⟩
      case measure => simp [intOf]; omega
    · have he : i = N := by omega
      subst he
      obtain ⟨v, v2, es, hT, hGE, hF⟩ := hR
      have HF := hid hF
      obtain ⟨A2, cap2, hv2, _, _⟩ := hT.l2.shape
      subst hv2
      have c2 := hT.l2.c0
      have hlen := hGE.2.2
      have h0 := Fr.refl wr (fun _ => False)
      have FN := hid (fun (W : World) (hf : Fr wr W (fun _ => False)) => from_any W g v es 1 5000 (hT.l1.heap hf) hlen (by omega) (by omega))
      rw [fromL_all hlen] at FN
      have HL2 := hid hT.l2
      have EN := hid (fun (W : World) u1 (h1 : Sv W u1 es) (hf : Fr wr W (fun _ => False)) => entries_calls W u1 (.slice A2 es.length cap2) es es h1 (HL2.out.heap hf).sv (by omega) (by omega))
      simp only [refl_dec] at EN
      have SPK := hid speaks20_calls
      have hS : Fr wr wr (fun _ => False) ∧ wr.cell? ⟨g2, 0, none⟩ = some (.slice A2 es.length cap2) := ⟨h0, c2⟩
      have hSd : Fr wr wr.drew (fun _ => False) ∧ wr.drew.cell? ⟨g2, 0, none⟩ = some (.slice A2 es.length cap2) := ⟨h0.drew, c2⟩
      clear hT hGE hF
      go_wp2_with fail
      go_region_held3 (fun W => Fr wr W (fun _ => False) ∧ W.cell? ⟨g2, 0, none⟩ = some (.slice A2 es.length cap2)) (first | assumption | exact hS | exact hSd | exact ⟨(And.left (by assumption)).trans (by assumption), cell_fr (And.right (by assumption)) (by assumption)⟩)
        (first
          | (go_at_call 15; refine (FN.out _ (And.left (by assumption))).mono ?_; rintro e w9 ⟨uu1, rfl, hu1, hf9⟩; have hS9 : Fr wr w9 (fun _ => False) ∧ w9.cell? ⟨g2, 0, none⟩ = some (.slice A2 es.length cap2) := (by first | exact ⟨hS.1.trans hf9, cell_fr hS.2 hf9⟩ | exact ⟨hSd.1.trans hf9, cell_fr hSd.2 hf9⟩))
          | (go_at_call 19; refine (EN.out _ _ hu1 hS9.1).mono ?_; rintro e w9 ⟨rfl, hf9⟩; have hS9 := And.intro (hS9.1.trans hf9) (cell_fr hS9.2 hf9))
          | (go_at_call 13; refine (SPK.out _).mono ?_; rintro e w9 ⟨rfl, hf9⟩; have hS9 := And.intro (hS9.1.trans hf9) (cell_fr hS9.2 hf9)))
      go_wp2_with fail
      go_ret
      exact ⟨rfl, HF.out.trans hS9.1⟩
end Go.Proofs.Ytbphkbbidbjpmaa.Cw
