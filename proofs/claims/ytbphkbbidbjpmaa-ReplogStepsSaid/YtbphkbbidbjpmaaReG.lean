/- slices.Clone of entries; From. Own work. -/
import Derived.Test.YtbphkbbidbjpmaaReF
import Derived.Deep.Cut
import Derived.Deep.RegionHeld3
namespace Go.Proofs.Ytbphkbbidbjpmaa.Cw
open Go.RowKit
set_option linter.unusedVariables false
set_option linter.unusedSimpArgs false

theorem EsAt.flat {w : World} {b off : Nat} {l : List En} (h : EsAt w b off l) : ∀ j u, (l.flatMap En.cells)[j]? = some u → w.cell? ((⟨b, off, none⟩ : Addr).add j) = some u := by
  intro j u hu
  have hjl : j < l.length * 9 := by
    have := (List.getElem?_eq_some_iff.1 hu).1
    rw [List.length_flatMap] at this
    have h9 : (List.map (fun x => (En.cells x).length) l) = List.replicate l.length 9 := by
      apply List.ext_getElem
      · simp
      · intro i h1 h2; simp [En.cells]
    rw [h9, List.sum_replicate_nat] at this
    exact this
  have hi : j / 9 < l.length := by omega
  have hx := List.getElem?_eq_getElem hi
  have := en_flat l (j / 9) _ (j % 9) hx (by omega)
  rw [show j / 9 * 9 + j % 9 = j by omega, hu] at this
  have h2 := h _ _ hx _ _ this.symm
  rw [Addr.add_lit]
  rwa [show off + j / 9 * 9 + j % 9 = off + j by omega] at h2
theorem flat_len (l : List En) : (l.flatMap En.cells).length = l.length * 9 := by
  rw [List.length_flatMap]
  have h9 : (List.map (fun x => (En.cells x).length) l) = List.replicate l.length 9 := by
    apply List.ext_getElem
    · simp
    · intro i h1 h2; simp [En.cells]
  rw [h9, List.sum_replicate_nat]
theorem flat_one (l : List En) : ∀ u ∈ l.flatMap En.cells, u.oneCell' = true := by
  intro u hu
  obtain ⟨x, _, hx⟩ := List.mem_flatMap.1 hu
  simp [En.cells] at hx
  rcases hx with rfl | rfl | rfl | rfl | rfl | rfl | rfl | rfl | rfl <;> rfl

set_option maxRecDepth 100000 in
set_option maxHeartbeats 3200000 in
theorem clone_calls (w : World) (b off cap : Nat) (l : List En) (h : EsAt w b off l) (hn : 0 < l.length) (hm : l.length ≤ 4096) :
    Calls Try.prog 48 #[.slice (some ⟨b, off, none⟩) l.length cap] w fun e w' => ∃ v, e = .returned v ∧ w'.ownsRow 0 25 9 v l.length (l.flatMap En.cells) ∧ Fr w w' (fun _ => False) ∧ ∀ b, v.ownBlock = some b → w.heap.size ≤ b := by
  have H1 := hid h.flat
  have H2 := hid (flat_len l)
  have H3 := hid (flat_one l)
  generalize l.flatMap En.cells = cs at *
  generalize l.length = n at *
  obtain ⟨i0, hi, hz0, hz1, hz2⟩ := info_parts info_en
  have he : ∀ w : World, (binOp .eql 37 (.slice (some ⟨b, off, none⟩) n cap) (.slice none 0 0)).run Try.prog w = .ok (.bool false) w := fun _ => rfl
  go_enter Try.func48, Try.ntmps48
  have hown : (w.alloc (.cells #[] 25 (0, 0))).ownsRow 0 25 9 (.slice (some ⟨w.heap.size, 0, none⟩) 0 0) 0 [] := ⟨rfl, .inr ⟨w.heap.size, 0, #[], rfl, Nat.zero_le _, alloc_new w _, Nat.le_refl _, by unfold maxLen; omega, rfl, rfl⟩⟩
  have HF := hid ((Fr.refl w (fun _ => False)).alloc (.cells #[] 25 (0, 0)))
  have H1 : Hid (∀ j u, cs[j]? = some u → (w.alloc (.cells #[] 25 (0, 0))).cell? ((⟨b, off, none⟩ : Addr).add j) = some u) := hid (fun j u hu => by
    have h9 := H1.out j u hu
    rw [Addr.add_lit] at h9 ⊢
    exact cell_fr h9 HF.out)
  go_wp2_with (at_builtin; refine wpList_append_lies _ rfl _ _ 37 rfl 0 25 i0 _ 9 96 Try.underlying37 hi hz0 hz1 hz2 rfl (by decide) _ _ _ rfl hown ⟨b, off, none⟩ n cap cs rfl H2.out H1.out H3.out hn (by unfold maxLen; omega) (by omega) (Nat.zero_le _) (w.heap.size + 1) (by simp) ?_; intro gg cap2 w4 hown4 hgrow hat hlt4)
  go_ret
  rw [Nat.zero_add, List.nil_append] at hown4
  refine ⟨_, rfl, hown4, ?_, ?_⟩
  · refine HF.out.grown hgrow (fun k hk hs => ?_)
    have hk2 : w.heap.size = k := Option.some.inj hk
    omega
  · intro b3 hb3
    have hb4 : gg = b3 := Option.some.inj hb3
    rcases hat with hat | hat
    · have hk2 : w.heap.size = gg := Option.some.inj hat
      omega
    · omega

theorem keepS {w0 w w' : World} {b : Nat} {v : Value} (hf : Fr w w' (fun _ => False)) (h : w.cell? ⟨b, 0, none⟩ = some v ∧ Fr w0 w (fun _ => False)) : w'.cell? ⟨b, 0, none⟩ = some v ∧ Fr w0 w' (fun _ => False) := ⟨cell_fr h.1 hf, h.2.trans hf⟩
theorem len_cell (w : World) (g n cap : Nat) (A : Option Addr) (h : w.cell? ⟨g, 0, none⟩ = some (.slice A n cap)) :
    Calls Try.prog 18 #[.pointer (some ⟨g, 0, none⟩)] w fun e w' => e = .returned (.int .i64 n) ∧ w' = w := by
  go_enter Try.func18, Try.ntmps18
  go_wp2
  go_ret
  exact ⟨rfl, rfl⟩
theorem EsAt.part {w : World} {b off : Nat} {l : List En} (h : EsAt w b off l) (m k : Nat) : EsAt w b (off + m * 9) ((l.drop m).take k) := by
  intro i x hx j u hu
  have hx2 : l[m + i]? = some x := by
    by_cases hk : i < k
    · rw [List.getElem?_take, if_pos hk, List.getElem?_drop] at hx
      exact hx
    · rw [List.getElem?_take, if_neg hk] at hx
      cases hx
  have := h _ _ hx2 _ _ hu
  rwa [show off + m * 9 + i * 9 + j = off + (m + i) * 9 + j by omega]

set_option maxRecDepth 100000 in
set_option maxHeartbeats 3200000 in
theorem from_core (w : World) (g : Nat) (v : Value) (es : List En) (n mm : Int) (m : Nat) (c0 : w.cell? ⟨g, 0, none⟩ = some v) (hs : Sv w v es) (hl : es.length ≤ 4096) (hn : 1 ≤ n) (hnm : n = ((m + 1 : Nat) : Int)) (hm : m < es.length) (hk : mm < 9223372036854775807) (hk1 : 1 ≤ mm) :
    Calls Try.prog 15 #[.pointer (some ⟨g, 0, none⟩), .int .i64 n, .int .i64 mm] w fun e w' => ∃ u, e = .returned u ∧ w'.ownsRow 0 25 9 u ((es.drop m).take mm.toNat).length (((es.drop m).take mm.toNat).flatMap En.cells) ∧ Fr w w' (fun _ => False) ∧ ∀ b, u.ownBlock = some b → w.heap.size ≤ b := by
  obtain ⟨A, cap, rfl, h1, h2, h3⟩ := hs
  obtain ⟨b, off, rfl, hb, HA⟩ := h3 (fun e => by rw [e] at hm; simp at hm)
  have hq : ((es.drop m).take mm.toNat).length = min mm.toNat (es.length - m) := by rw [List.length_take, List.length_drop]
  have HA2 := hid (HA.part m mm.toNat)
  generalize (es.drop m).take mm.toNat = l at *
  have CL := hid (fun (W : World) (c : Nat) (hf : Fr w W (fun _ => False)) => clone_calls W b (off + m * 9) c l (HA2.out.fr hf) (by omega) (by omega))
  generalize hQ : l.length = q at *
  generalize hN : es.length = N at *
  have hd : decide ((N : Int) < n) = false := decide_eq_false (by omega)
  have hd2 : decide (mm < 1) = false := decide_eq_false (by omega)
  have hd3 : decide (0 < n) = true := decide_eq_true (by omega)
  have HNM := hid hnm
  have HQ := hid hq
  clear h3 HA hN hQ hnm hq
  go_enter Try.func15, Try.ntmps15
  go_upto_region 4 with (go_at_call 18; refine (len_cell _ _ _ _ _ c0).mono ?_; rintro e w' ⟨rfl, rfl⟩)
  have w1 : IntKind.i64.wrap (n - 1) = n - 1 := IntWalk.i64_in _ (by have := HNM.out; omega)
  have w2 : IntKind.i64.wrap ((N : Int) - n) = (N : Int) - n := IntWalk.i64_in _ (by have := HNM.out; omega)
  have w3 : IntKind.i64.wrap ((N : Int) - n + 1) = (N : Int) - n + 1 := IntWalk.i64_in _ (by have := HNM.out; omega)
  have w5 : (n - 1).toNat = m := by have := HNM.out; omega
  have w6 : 0 ≤ n - 1 := by omega
  have w7 : n - 1 ≤ (N : Int) := by omega
  have w8 : q ≤ N - m := by have := HQ.out; omega
  have w9 : q ≤ cap - m := by omega
  have x1 : ¬ cap = m := by omega
  have x2 : ¬ cap ≤ m := by omega
  have x3 : ¬ cap - m = 0 := by omega
  have x4 : (q : Int) ≤ ((cap - m : Nat) : Int) := by omega
  have hF := Fr.refl w' (fun _ => False)
  by_cases hc : ¬ ((N : Int) - n + 1 < mm)
  · have w4 : mm = (q : Int) := by have := HNM.out; have := HQ.out; omega
    have y1 : mm.toNat = q := by omega
    have y2 : 0 ≤ mm := by omega
    have y3 : mm ≤ ((cap - m : Nat) : Int) := by omega
    have hcf : ((N : Int) - n + 1 < mm) = False := eq_false hc
    clear w4
    go_region_held3 (fun W => W.cell? ⟨g, 0, none⟩ = some (.slice (some ⟨b, off, none⟩) N cap) ∧ Fr w' W (fun _ => False)) (first | exact ⟨c0, hF⟩ | exact ⟨c0, hF.drew⟩ | assumption | exact keepS (by assumption) (by assumption))
      (first
        | (go_at_call 18; refine (len_cell _ _ _ _ _ (by first | assumption | exact And.left (by assumption))).mono ?_; rintro e w9 ⟨rfl, rfl⟩)
        | (go_at_call 48; refine (CL.out _ _ (by first | assumption | exact And.right (by assumption))).mono ?_; rintro e w9 ⟨uu, rfl, ho, hf, hbb⟩))
    go_wp2_with fail
    go_ret
    exact ⟨uu, rfl, ho, And.right (by assumption), hbb⟩
  · have hc := Decidable.not_not.1 hc
    have w4 : (N : Int) - n + 1 = (q : Int) := by have := HNM.out; have := HQ.out; omega
    have y1 : ((N : Int) - n + 1).toNat = q := by omega
    have y2 : 0 ≤ (N : Int) - n + 1 := by omega
    have y3 : (N : Int) - n + 1 ≤ ((cap - m : Nat) : Int) := by omega
    clear w4
    go_region_held3 (fun W => W.cell? ⟨g, 0, none⟩ = some (.slice (some ⟨b, off, none⟩) N cap) ∧ Fr w' W (fun _ => False)) (first | exact ⟨c0, hF⟩ | exact ⟨c0, hF.drew⟩ | assumption | exact keepS (by assumption) (by assumption))
      (first
        | (go_at_call 18; refine (len_cell _ _ _ _ _ (by first | assumption | exact And.left (by assumption))).mono ?_; rintro e w9 ⟨rfl, rfl⟩)
        | (go_at_call 48; refine (CL.out _ _ (by first | assumption | exact And.right (by assumption))).mono ?_; rintro e w9 ⟨uu, rfl, ho, hf, hbb⟩))
    go_wp2_with fail
    go_ret
    exact ⟨uu, rfl, ho, And.right (by assumption), hbb⟩
theorem from_yes (w : World) (g : Nat) (v : Value) (es : List En) (n mm : Int) (m : Nat) (h : Lg w g v es) (hl : es.length ≤ 4096) (hn : 1 ≤ n) (hnm : n = ((m + 1 : Nat) : Int)) (hm : m < es.length) (hk : mm < 9223372036854775807) (hk1 : 1 ≤ mm) :
    Calls Try.prog 15 #[.pointer (some ⟨g, 0, none⟩), .int .i64 n, .int .i64 mm] w fun e w' => ∃ u, e = .returned u ∧ w'.ownsRow 0 25 9 u ((es.drop m).take mm.toNat).length (((es.drop m).take mm.toNat).flatMap En.cells) ∧ Fr w w' (fun _ => False) ∧ ∀ b, u.ownBlock = some b → w.heap.size ≤ b :=
  from_core w g v es n mm m h.c0 h.sv hl hn hnm hm hk hk1
end Go.Proofs.Ytbphkbbidbjpmaa.Cw
