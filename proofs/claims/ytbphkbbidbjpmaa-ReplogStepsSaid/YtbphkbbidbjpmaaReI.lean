/- A log in memory, its row perhaps longer than its capacity (behind Replace); append to such a row. Own work. -/
import Derived.Test.YtbphkbbidbjpmaaReH
import Derived.Deep.DeepAppendWide
namespace Go.Proofs.Ytbphkbbidbjpmaa.Cw
open Go.RowKit
set_option linter.unusedVariables false
set_option linter.unusedSimpArgs false

/-- A slice at the front of a block of its own, which may be longer than its capacity. -/
def WR (w : World) (v : Value) (es : List En) : Prop :=
  (v = .slice none 0 0 ∧ es = []) ∨ ∃ b cap cur, v = .slice (some ⟨b, 0, none⟩) es.length cap ∧ w.heap[b]? = some (.cells cur 25 (0, 0)) ∧ es.length ≤ cap ∧ cap ≤ maxLen ∧ cap * 9 ≤ cur.size ∧ cur.toList.take (es.length * 9) = es.flatMap En.cells
theorem WR.nil (w : World) : WR w (.slice none 0 0) [] := .inl ⟨rfl, rfl⟩
theorem WR.lt {w : World} {v : Value} {es : List En} (h : WR w v es) {b : Nat} (hb : v.ownBlock = some b) : b < w.heap.size := by
  rcases h with ⟨rfl, _⟩ | ⟨b', cap, cur, rfl, hg, _⟩
  · cases hb
  · injection hb with hb
    subst hb
    exact blk_lt hg
theorem WR.cells {w : World} {v : Value} {es : List En} (h : WR w v es) {b : Nat} (hb : v.ownBlock = some b) : ∀ j u, (es.flatMap En.cells)[j]? = some u → w.cell? ((⟨b, 0, none⟩ : Addr).add j) = some u := by
  rcases h with ⟨rfl, _⟩ | ⟨b', cap, cur, rfl, hg, h1, h2, h3, h4⟩
  · cases hb
  · injection hb with hb
    have hb : b' = b := hb
    subst hb
    intro j u hu
    rw [← h4, List.getElem?_take] at hu
    split at hu
    · rw [Addr.add_mid, Nat.zero_add, cell_blk hg]
      simpa using hu
    · cases hu
theorem WR.sv {w : World} {v : Value} {es : List En} (h : WR w v es) : Sv w v es := by
  have hcell := fun (b : Nat) (hb : v.ownBlock = some b) => h.cells hb
  rcases h with ⟨rfl, rfl⟩ | ⟨b, cap, cur, rfl, hg, h1, h2, h3, h4⟩
  · exact Sv.nil w
  · refine ⟨_, cap, rfl, h1, h2, fun _ => ⟨b, 0, rfl, blk_lt hg, fun i x hx j u hu => ?_⟩⟩
    have hj : j < 9 := (List.getElem?_eq_some_iff.1 hu).1
    have := hcell b rfl (i * 9 + j) u ((en_flat es i x j hx hj).trans hu)
    rw [Addr.add_mid, Nat.zero_add] at this
    rw [Nat.zero_add]
    exact this
theorem WR.kept {w w' : World} {v : Value} {es : List En} {row : Option Nat} (h : WR w v es) (hg : w.grownBy w' row) (hne : v.ownBlock = none ∨ v.ownBlock ≠ row) : WR w' v es := by
  rcases h with hn | ⟨b, cap, cur, rfl, hb, rest⟩
  · exact .inl hn
  · refine .inr ⟨b, cap, cur, rfl, ?_, rest⟩
    rw [hg.block b (blk_lt hb) (by simpa [Value.ownBlock] using hne)]
    exact hb
theorem WR.fr {w w' : World} {v : Value} {es : List En} {S : Nat → Prop} (h : WR w v es) (k : Fr w w' S) (hs : ∀ b, v.ownBlock = some b → ¬ S b) : WR w' v es := by
  rcases h with hn | ⟨b, cap, cur, rfl, hb, rest⟩
  · exact .inl hn
  · exact .inr ⟨b, cap, cur, rfl, k.at_ hb (hs b rfl), rest⟩
theorem WR.alloc {w : World} {v : Value} {es : List En} (h : WR w v es) (o : Obj) : WR (w.alloc o) v es := h.fr ((Fr.refl w (fun _ => False)).alloc o) (fun _ _ x => x)
theorem WR.own {w : World} {v : Value} {es : List En} (h : w.ownsRow 0 25 9 v es.length (es.flatMap En.cells)) : WR w v es := by
  rcases h.2 with ⟨rfl, h0⟩ | ⟨g, cap, cur, rfl, _, hg, h1, h2, h3, h4⟩
  · exact .inl ⟨rfl, List.eq_nil_of_length_eq_zero h0⟩
  · exact .inr ⟨g, cap, cur, rfl, hg, h1, h2, by omega, h4⟩
/-- Its first entries, the capacity cut. -/
theorem WR.cut {w : World} {b n cap : Nat} {es : List En} (h : WR w (.slice (some ⟨b, 0, none⟩) n cap) es) (k : Nat) (hk : k ≤ es.length) : WR w (.slice (some ⟨b, 0, none⟩) k k) (es.take k) := by
  rcases h with ⟨h, _⟩ | ⟨b', cap', cur, hv, hg, h1, h2, h3, h4⟩
  · cases h
  · injection hv with e1 e2 e3
    injection e1 with e1
    injection e1 with e1
    subst e1 e3
    have hl : (es.take k).length = k := by rw [List.length_take]; omega
    refine .inr ⟨b, k, cur, by rw [hl], hg, by omega, by omega, by omega, ?_⟩
    have hc : (es.take k).flatMap En.cells = (es.flatMap En.cells).take (k * 9) := by
      have hh : es.flatMap En.cells = (es.take k).flatMap En.cells ++ (es.drop k).flatMap En.cells := by rw [← List.flatMap_append, List.take_append_drop]
      rw [hh]
      exact (List.take_left' (by rw [flat_len, hl])).symm
    rw [hl, hc, ← h4, List.take_take]
    congr 1
    omega

set_option maxRecDepth 100000 in
theorem run_append_w (w : World) (ty : TypeId) (v : Value) (es ns : List En) (h : WR w v es) (ad : Addr) (m c : Nat) (hm : m = ns.length) (hnews : ∀ j u, (ns.flatMap En.cells)[j]? = some u → w.cell? (ad.add j) = some u) (hpos : 0 < m)
    (hb : ((es.length + m) + (es.length + m) / 4 + 192) * 96 ≤ 281474976710656) :
    ∃ g cap w', (Builtin.append_ #[37, 37] ty #[v, .slice (some ad) m c]).run Try.prog w = .ok (.slice (some ⟨g, 0, none⟩) (es.length + m) cap) w' ∧
      WR w' (.slice (some ⟨g, 0, none⟩) (es.length + m) cap) (es ++ ns) ∧ w.grownBy w' v.ownBlock ∧ (v.ownBlock = some g ∨ g = w.heap.size) ∧ g < w'.heap.size ∧
      (∀ A n0 c0, v = .slice A n0 c0 → c0 < es.length + m → g = w.heap.size ∧ w.grownBy w' none) := by
  obtain ⟨i, hi, hz, hsize, hby⟩ := info_parts info_en
  have ht := Try.underlying37
  have h63 : es.length + m ≤ maxLen := by unfold maxLen; omega
  have hl : (ns.flatMap En.cells).length = m * i.size := by rw [flat_len, hsize, hm]
  have hlo : (es.flatMap En.cells).length = es.length * i.size := by rw [flat_len, hsize]
  have hlen : (es.flatMap En.cells ++ ns.flatMap En.cells).length = (es.length + m) * i.size := by rw [List.length_append, hlo, hl, Nat.add_mul]
  have hn2 : (es ++ ns).length = es.length + m := by rw [List.length_append, hm]
  have hfl : (es ++ ns).flatMap En.cells = es.flatMap En.cells ++ ns.flatMap En.cells := List.flatMap_append
  have hzs : (enV 0 0 0 0 0 0 ByteArray.empty ByteArray.empty ByteArray.empty).cells.size = i.size := by rw [hsize]; rfl
  have grown : ∀ (old : Nat), ∀ (row : Option Nat),
      WR (w.drew.alloc (.cells ((es.flatMap En.cells).toArray ++ (ns.flatMap En.cells).toArray ++ Builtin.zeroCells (enV 0 0 0 0 0 0 ByteArray.empty ByteArray.empty ByteArray.empty).cells (grownCap w (es.length + m) old 25 - (es.length + m))) 25))
        (.slice (some ⟨w.heap.size, 0, none⟩) (es.length + m) (grownCap w (es.length + m) old 25)) (es ++ ns) ∧
      w.grownBy (w.drew.alloc (.cells ((es.flatMap En.cells).toArray ++ (ns.flatMap En.cells).toArray ++ Builtin.zeroCells (enV 0 0 0 0 0 0 ByteArray.empty ByteArray.empty ByteArray.empty).cells (grownCap w (es.length + m) old 25 - (es.length + m))) 25)) row := by
    intro old row
    have hge := grownCap_ge w (es.length + m) old 25
    have hcm : grownCap w (es.length + m) old 25 ≤ maxLen := grownCap_le_maxLen w (es.length + m) old 25 h63
    refine ⟨.inr ⟨w.heap.size, _, _, by rw [hn2], Go.heap_alloc_new w.drew _, by rw [hn2]; exact hge, hcm, ?_, ?_⟩, ⟨rfl, rfl, rfl, by simp, fun k hk _ => Below.heap_alloc _ _ _ hk⟩⟩
    · simp only [Array.size_append, List.size_toArray, size_zeroCells, hzs, hlo, hl, hsize]
      omega
    · rw [hn2, hfl, show (9 : Nat) = i.size from hsize.symm]
      simp only [Array.toList_append]
      rw [← hlen]
      exact List.take_left
  rcases h with ⟨rfl, rfl⟩ | ⟨g, cap, cur, rfl, hg, hnc, hcm, hcs, htake⟩
  · have hr := run_append_nil (P := Try.prog) w 37 ty 25 i _ ht hi hz ad m c (ns.flatMap En.cells) hl hnews hpos (by simp only [List.length_nil] at hb; omega) (by rw [hby]; simp only [List.length_nil] at hb; omega)
    have hgr := grown 0 (Value.ownBlock (.slice none 0 0))
    simp only [List.length_nil, Nat.zero_add, List.nil_append, List.flatMap_nil, Array.empty_append] at hgr ⊢
    exact ⟨_, _, _, hr, hgr.1, hgr.2, .inr rfl, by simp, fun _ _ _ _ _ => ⟨rfl, hgr.2⟩⟩
  · by_cases hroom : es.length + m ≤ cap
    · have hfit : es.length * i.size + (ns.flatMap En.cells).length ≤ cur.size := by rw [hl, hsize]; omega
      have hr := run_append_room (P := Try.prog) w 37 ty 25 i ht hi g es.length cap cur hg ad m c (ns.flatMap En.cells) hl hnews (flat_one ns) hroom hfit
      refine ⟨g, cap, _, hr, .inr ⟨g, cap, _, by rw [hn2], setRow_heap w g cur _ 25 _ hg, by rw [hn2]; exact hroom, hcm, ?_, ?_⟩, ⟨rfl, rfl, rfl, by simp, fun k _ hk => setRow_other w g k _ (fun e => hk (by simp [Value.ownBlock, e]))⟩, .inl rfl, ?_, ?_⟩
      · rw [hl, hsize] at hfit
        simp only [List.size_toArray, List.length_append, List.length_take, List.length_drop, Array.length_toList, hl, hsize]
        omega
      · rw [hn2, hfl, hsize, htake, show (9 : Nat) = i.size from hsize.symm, ← hlen]
        exact List.take_left
      · have := blk_lt hg
        simpa [World.setRow] using this
      · intro A n0 c0 hv hlt
        injection hv with _ _ hv
        omega
    · have hown : WR w (.slice (some ⟨g, 0, none⟩) es.length cap) es := .inr ⟨g, cap, cur, rfl, hg, hnc, hcm, hcs, htake⟩
      have hr := run_append_grow (P := Try.prog) w 37 ty 25 i _ ht hi hz ⟨g, 0, none⟩ es.length cap (es.flatMap En.cells) hlo (hown.cells rfl) ad m c (ns.flatMap En.cells) hl hnews (by omega) (by omega) (growslice_fits_wide (by omega) (by rw [hby]; exact hb))
      have hgr := grown cap (Value.ownBlock (.slice (some ⟨g, 0, none⟩) es.length cap))
      have hgr2 := grown cap none
      exact ⟨_, _, _, hr, hgr.1, hgr.2, .inr rfl, by simp, fun _ _ _ _ _ => ⟨rfl, hgr2.2⟩⟩

theorem run_append_w0 (w : World) (ty : TypeId) (A B : Option Addr) (n cap c : Nat) (h : n ≤ cap) :
    (Builtin.append_ #[37, 37] ty #[.slice A n cap, .slice B 0 c]).run Try.prog w = .ok (.slice A n cap) w := by
  obtain ⟨i, hi, hz, hsize, hby⟩ := info_parts info_en
  have ht := Try.underlying37
  cases A <;> cases B <;> simp [Builtin.append_, run_underlying ht, sizeOf, typeInfo, hi, Builtin.lenOf, h, Builtin.firstCells, loadCells, loadCellsFrom, storeCells]

section
variable {ops : Array Oper} {rest : List Oper} {o : Oper} {a : Act} {w : World} {K : Act → World → Prop} {Q : Exit → Act → World → Prop} {E : Prop}

theorem wp_append_w (s x : Operand) (ho : o.op = .call { callee := .builtin .append, args := #[s, x], argTypes := #[37, 37] })
    (v : Value) (es ns : List En) (hs : a.eval s = v) (h : WR w v es) (ad : Addr) (m c : Nat) (hx : a.eval x = .slice (some ad) m c) (hm : m = ns.length) (hnews : ∀ j u, (ns.flatMap En.cells)[j]? = some u → w.cell? (ad.add j) = some u) (hpos : 0 < m)
    (hb : ((es.length + m) + (es.length + m) / 4 + 192) * 96 ≤ 281474976710656)
    (hK : ∀ g cap w', WR w' (.slice (some ⟨g, 0, none⟩) (es.length + m) cap) (es ++ ns) → w.grownBy w' v.ownBlock → (v.ownBlock = some g ∨ g = w.heap.size) → g < w'.heap.size →
      (∀ A n0 c0, v = .slice A n0 c0 → c0 < es.length + m → g = w.heap.size ∧ w.grownBy w' none) → K (a.put o.dst (.slice (some ⟨g, 0, none⟩) (es.length + m) cap)) w') : o.wp Try.prog a w K Q := by
  obtain ⟨g, cap, w', hr, h2, h3, h4, h5, h6⟩ := run_append_w w o.type v es ns h ad m c hm hnews hpos hb
  unfold Oper.wp execOp
  simp only [ho, resolve, invoke, builtin, Sem.run_bind, Sem.run_pure, Result.andThen_ok, List.map_toArray, List.map_cons, List.map_nil, hs, hx, hr]
  exact hK g cap w' h2 h3 h4 h5 h6
theorem step_append_w (hgd : o.guard = none) (s x : Operand) (ho : o.op = .call { callee := .builtin .append, args := #[s, x], argTypes := #[37, 37] })
    (v : Value) (es ns : List En) (hs : a.eval s = v) (h : WR w v es) (ad : Addr) (m c : Nat) (hx : a.eval x = .slice (some ad) m c) (hm : m = ns.length) (hnews : ∀ j u, (ns.flatMap En.cells)[j]? = some u → w.cell? (ad.add j) = some u) (hpos : 0 < m)
    (hb : ((es.length + m) + (es.length + m) / 4 + 192) * 96 ≤ 281474976710656)
    (hK : ∀ g cap w', WR w' (.slice (some ⟨g, 0, none⟩) (es.length + m) cap) (es ++ ns) → w.grownBy w' v.ownBlock → (v.ownBlock = some g ∨ g = w.heap.size) → g < w'.heap.size →
      (∀ A n0 c0, v = .slice A n0 c0 → c0 < es.length + m → g = w.heap.size ∧ w.grownBy w' none) → K (a.put o.dst (.slice (some ⟨g, 0, none⟩) (es.length + m) cap)) w') :
    if Region.wanted o (yielded ops a.tmps) = true then Oper.wp Try.prog o a w K Q else E := by
  have hw : Region.wanted o (yielded ops a.tmps) = true := by simp [Region.wanted, hgd]
  rw [if_pos hw]
  exact wp_append_w s x ho v es ns hs h ad m c hx hm hnews hpos hb hK
theorem wpList_append_w (hgd : o.guard = none) (s x : Operand) (ho : o.op = .call { callee := .builtin .append, args := #[s, x], argTypes := #[37, 37] })
    (v : Value) (es ns : List En) (hs : a.eval s = v) (h : WR w v es) (ad : Addr) (m c : Nat) (hx : a.eval x = .slice (some ad) m c) (hm : m = ns.length) (hnews : ∀ j u, (ns.flatMap En.cells)[j]? = some u → w.cell? (ad.add j) = some u) (hpos : 0 < m)
    (hb : ((es.length + m) + (es.length + m) / 4 + 192) * 96 ≤ 281474976710656)
    (hK : ∀ g cap w', WR w' (.slice (some ⟨g, 0, none⟩) (es.length + m) cap) (es ++ ns) → w.grownBy w' v.ownBlock → (v.ownBlock = some g ∨ g = w.heap.size) → g < w'.heap.size →
      (∀ A n0 c0, v = .slice A n0 c0 → c0 < es.length + m → g = w.heap.size ∧ w.grownBy w' none) → wpList Try.prog ops Q rest (a.put o.dst (.slice (some ⟨g, 0, none⟩) (es.length + m) cap)) w') : wpList Try.prog ops Q (o :: rest) a w :=
  wpList_plain hgd fun _ hk => wp_append_w s x ho v es ns hs h ad m c hx hm hnews hpos hb fun g cap w' h1 h2 h3 h4 h5 => hk _ _ (hK g cap w' h1 h2 h3 h4 h5)
theorem wp_append_w0 (s x : Operand) (ho : o.op = .call { callee := .builtin .append, args := #[s, x], argTypes := #[37, 37] })
    (A B : Option Addr) (n cap c : Nat) (hs : a.eval s = .slice A n cap) (hx : a.eval x = .slice B 0 c) (h : n ≤ cap) (hK : K (a.put o.dst (.slice A n cap)) w) : o.wp Try.prog a w K Q := by
  have hr := run_append_w0 w o.type A B n cap c h
  unfold Oper.wp execOp
  simp only [ho, resolve, invoke, builtin, Sem.run_bind, Sem.run_pure, Result.andThen_ok, List.map_toArray, List.map_cons, List.map_nil, hs, hx, hr]
  exact hK
theorem step_append_w0 (hgd : o.guard = none) (s x : Operand) (ho : o.op = .call { callee := .builtin .append, args := #[s, x], argTypes := #[37, 37] })
    (A B : Option Addr) (n cap c : Nat) (hs : a.eval s = .slice A n cap) (hx : a.eval x = .slice B 0 c) (h : n ≤ cap) (hK : K (a.put o.dst (.slice A n cap)) w) :
    if Region.wanted o (yielded ops a.tmps) = true then Oper.wp Try.prog o a w K Q else E := by
  have hw : Region.wanted o (yielded ops a.tmps) = true := by simp [Region.wanted, hgd]
  rw [if_pos hw]
  exact wp_append_w0 s x ho A B n cap c hs hx h hK
theorem wpList_append_w0 (hgd : o.guard = none) (s x : Operand) (ho : o.op = .call { callee := .builtin .append, args := #[s, x], argTypes := #[37, 37] })
    (A B : Option Addr) (n cap c : Nat) (hs : a.eval s = .slice A n cap) (hx : a.eval x = .slice B 0 c) (h : n ≤ cap) (hK : wpList Try.prog ops Q rest (a.put o.dst (.slice A n cap)) w) : wpList Try.prog ops Q (o :: rest) a w :=
  wpList_plain hgd fun _ hk => wp_append_w0 s x ho A B n cap c hs hx h (hk _ _ hK)
end

/-- A log at block g, its slice a weak row. -/
def Lw (w : World) (g : Nat) (v : Value) (es : List En) : Prop := w.heap[g]? = some (.cells #[v] 89 (0, 0)) ∧ WR w v es
theorem Lw.c0 {w : World} {g : Nat} {v : Value} {es : List En} (h : Lw w g v es) : w.cell? ⟨g, 0, none⟩ = some v := cell_blk h.1 0
theorem Lw.f0 {w : World} {g : Nat} {v : Value} {es : List En} (h : Lw w g v es) : w.frozen? ⟨g, 0, none⟩ = false := free_blk h.1 0
theorem Lw.lt {w : World} {g : Nat} {v : Value} {es : List En} (h : Lw w g v es) : g < w.heap.size := blk_lt h.1
theorem Lw.sv {w : World} {g : Nat} {v : Value} {es : List En} (h : Lw w g v es) : Sv w v es := h.2.sv
theorem Lw.fr {w w' : World} {g : Nat} {v : Value} {es : List En} {S : Nat → Prop} (h : Lw w g v es) (k : Fr w w' S) (hs : ¬ S g) (hs2 : ∀ b, v.ownBlock = some b → ¬ S b) : Lw w' g v es := ⟨k.at_ h.1 hs, h.2.fr k hs2⟩
theorem Lw.heap {w w' : World} {g : Nat} {v : Value} {es : List En} (h : Lw w g v es) (k : Fr w w' (fun _ => False)) : Lw w' g v es := h.fr k (fun x => x) (fun _ _ x => x)
theorem Lw.alloc {w : World} {g : Nat} {v : Value} {es : List En} (h : Lw w g v es) (o : Obj) : Lw (w.alloc o) g v es := h.heap ((Fr.refl w _).alloc o)
theorem Lw.drew {w : World} {g : Nat} {v : Value} {es : List En} (h : Lw w g v es) : Lw w.drew g v es := h
theorem Lg.lw {w : World} {g : Nat} {v : Value} {es : List En} (h : Lg w g v es) : Lw w g v es := ⟨h.1, WR.own h.2⟩
theorem Lw.ne {w : World} {g : Nat} {v : Value} {es : List En} (h : Lw w g v es) : v.ownBlock ≠ some g := by
  intro hb
  rcases h.2 with ⟨rfl, _⟩ | ⟨g', cap, cur, rfl, hg, _⟩
  · cases hb
  · injection hb with hb
    have h1 := h.1
    subst hb
    have h2 : some (Obj.cells #[.slice (some ⟨g', 0, none⟩) es.length cap] 89 (0, 0)) = some (Obj.cells cur 25 (0, 0)) := h1.symm.trans hg
    injection h2 with h2
    injection h2 with _ h3
    exact absurd h3 (by decide)
theorem Lw.grown_c0 {W w4 : World} {g : Nat} {v : Value} {es : List En} (h : Lw W g v es) (hg : W.grownBy w4 v.ownBlock) : w4.heap[g]? = some (.cells #[v] 89 (0, 0)) ∧ w4.cell? ⟨g, 0, none⟩ = some v ∧ w4.frozen? ⟨g, 0, none⟩ = false := by
  have hb := (hg.block g h.lt (fun e => h.ne e.symm)).trans h.1
  exact ⟨hb, cell_blk hb 0, free_blk hb 0⟩
/-- The log's cell set to another row. -/
theorem Lw.put {w4 : World} {g : Nat} {v v' : Value} {fs : List En} (hb : w4.heap[g]? = some (.cells #[v] 89 (0, 0))) (h : WR w4 v' fs) : Lw (w4.setCell ⟨g, 0, none⟩ v') g v' fs := by
  refine ⟨(set_blk hb 0 v').trans (by rw [set_val]), ?_⟩
  refine h.kept (row := some g) ⟨rfl, rfl, rfl, by simp [World.setCell], fun k hk hne => Below.heap_setCell _ _ _ _ (fun e => hne (by rw [e]))⟩ ?_
  right
  intro hv
  rcases h with ⟨rfl, _⟩ | ⟨g', cap, cur, rfl, hg', _⟩
  · cases hv
  · injection hv with hv
    have hv : g' = g := hv
    subst hv
    have h3 : some (Obj.cells #[v] 89 (0, 0)) = some (Obj.cells cur 25 (0, 0)) := hb.symm.trans hg'
    injection h3 with h3
    injection h3 with _ h3
    exact absurd h3 (by decide)
theorem Lw.shape {w : World} {g : Nat} {v : Value} {es : List En} (h : Lw w g v es) : ∃ A cap, v = .slice A es.length cap ∧ es.length ≤ cap ∧
    ∀ (i : Nat) (x : En), es[i]? = some x → ∃ o, A = some ⟨o, 0, none⟩ ∧ v.ownBlock = some o ∧ ∀ j u, x.cells[j]? = some u → w.cell? ⟨o, i * 9 + j, none⟩ = some u := by
  have hcell := fun (b : Nat) (hb : v.ownBlock = some b) => h.2.cells hb
  rcases h.2 with ⟨rfl, rfl⟩ | ⟨g', cap, cur, rfl, hg, h1, h2, h3, h4⟩
  · exact ⟨none, 0, rfl, Nat.le_refl _, fun i x hx => by simp at hx⟩
  · refine ⟨some ⟨g', 0, none⟩, cap, rfl, h1, fun i x hx => ⟨g', rfl, rfl, fun j u hu => ?_⟩⟩
    have hj : j < 9 := (List.getElem?_eq_some_iff.1 hu).1
    have := hcell g' rfl (i * 9 + j) u ((en_flat es i x j hx hj).trans hu)
    rwa [Addr.add_mid, Nat.zero_add] at this
end Go.Proofs.Ytbphkbbidbjpmaa.Cw
