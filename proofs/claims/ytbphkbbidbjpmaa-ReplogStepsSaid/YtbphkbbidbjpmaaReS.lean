/- The reference's log: From, Replace. Own work. -/
import Derived.Test.YtbphkbbidbjpmaaReR
namespace Go.Proofs.Ytbphkbbidbjpmaa.Cw
open Go.RowKit
set_option linter.unusedVariables false
set_option linter.unusedSimpArgs false

section
variable {ops : Array Oper} {rest : List Oper} {o : Oper} {a : Act} {w : World} {K : Act → World → Prop} {Q : Exit → Act → World → Prop} {E : Prop}
theorem run_append_e (w : World) (ty : TypeId) (v u : Value) (es ns : List En) (h : WR w v es) (hu : Sv w u ns) (hb : ((es.length + ns.length) + (es.length + ns.length) / 4 + 192) * 96 ≤ 281474976710656) :
    ∃ A cap w', (Builtin.append_ #[37, 37] ty #[v, u]).run Try.prog w = .ok (.slice A (es ++ ns).length cap) w' ∧ WR w' (.slice A (es ++ ns).length cap) (es ++ ns) ∧ w.grownBy w' v.ownBlock ∧
      (∀ b, (Value.slice A (es ++ ns).length cap).ownBlock = some b → v.ownBlock = some b ∨ w.heap.size ≤ b) := by
  obtain ⟨B, c, rfl, h1, h2, h3⟩ := hu
  by_cases h0 : ns = []
  · subst h0
    obtain ⟨A, cap, rfl, h4, _, _⟩ := h.sv
    have hr := run_append_w0 w ty A B es.length cap c h4
    rw [List.append_nil]
    exact ⟨A, cap, w, hr, h, ⟨rfl, rfl, rfl, Nat.le_refl _, fun _ _ _ => rfl⟩, fun b hb => .inl hb⟩
  · obtain ⟨b, off, rfl, hb2, HA⟩ := h3 h0
    have hp : 0 < ns.length := by
      rcases Nat.eq_zero_or_pos ns.length with h5 | h5
      · exact absurd (List.eq_nil_of_length_eq_zero h5) h0
      · exact h5
    obtain ⟨g, cap, w', hr, k1, k2, k3, k4, k5⟩ := run_append_w w ty v es ns h ⟨b, off, none⟩ ns.length c rfl HA.flat hp hb
    rw [List.length_append]
    refine ⟨_, cap, w', hr, k1, k2, fun b3 hb3 => ?_⟩
    injection hb3 with hb3
    have hb3 : g = b3 := hb3
    subst hb3
    rcases k3 with k3 | k3
    · exact .inl k3
    · exact .inr (by omega)
theorem wp_append_e (s x : Operand) (ho : o.op = .call { callee := .builtin .append, args := #[s, x], argTypes := #[37, 37] })
    (v u : Value) (es ns : List En) (hs : a.eval s = v) (hx : a.eval x = u) (h : WR w v es) (hu : Sv w u ns) (hb : ((es.length + ns.length) + (es.length + ns.length) / 4 + 192) * 96 ≤ 281474976710656)
    (hK : ∀ A cap w', WR w' (.slice A (es ++ ns).length cap) (es ++ ns) → w.grownBy w' v.ownBlock → (∀ b, (Value.slice A (es ++ ns).length cap).ownBlock = some b → v.ownBlock = some b ∨ w.heap.size ≤ b) → K (a.put o.dst (.slice A (es ++ ns).length cap)) w') : o.wp Try.prog a w K Q := by
  obtain ⟨A, cap, w', hr, h2, h3, h4⟩ := run_append_e w o.type v u es ns h hu hb
  unfold Oper.wp execOp
  simp only [ho, resolve, invoke, builtin, Sem.run_bind, Sem.run_pure, Result.andThen_ok, List.map_toArray, List.map_cons, List.map_nil, hs, hx, hr]
  exact hK A cap w' h2 h3 h4
theorem wpList_append_e (hgd : o.guard = none) (s x : Operand) (ho : o.op = .call { callee := .builtin .append, args := #[s, x], argTypes := #[37, 37] })
    (v u : Value) (es ns : List En) (hs : a.eval s = v) (hx : a.eval x = u) (h : WR w v es) (hu : Sv w u ns) (hb : ((es.length + ns.length) + (es.length + ns.length) / 4 + 192) * 96 ≤ 281474976710656)
    (hK : ∀ A cap w', WR w' (.slice A (es ++ ns).length cap) (es ++ ns) → w.grownBy w' v.ownBlock → (∀ b, (Value.slice A (es ++ ns).length cap).ownBlock = some b → v.ownBlock = some b ∨ w.heap.size ≤ b) → wpList Try.prog ops Q rest (a.put o.dst (.slice A (es ++ ns).length cap)) w') : wpList Try.prog ops Q (o :: rest) a w :=
  wpList_plain hgd fun _ hk => wp_append_e s x ho v u es ns hs hx h hu hb fun A cap w' h1 h2 h3 => hk _ _ (hK A cap w' h1 h2 h3)
end

theorem fromL_snoc (l : List En) (x : En) (n : Int) (m : Nat) : fromL (l ++ [x]) n m = if n ≤ (l.length : Int) + 1 ∧ (fromL l n m).length < m then fromL l n m ++ [x] else fromL l n m := by
  unfold fromL
  generalize hD : (n - 1).toNat = D
  by_cases h1 : n ≤ (l.length : Int) + 1
  · have hd : D ≤ l.length := by omega
    rw [List.drop_append_of_le_length hd]
    by_cases h2 : (l.drop D).length < m
    · have e : (l.drop D).take m = l.drop D := List.take_of_length_le (by omega)
      rw [e, if_pos ⟨h1, h2⟩]
      exact List.take_of_length_le (by rw [List.length_append, List.length_singleton]; omega)
    · rw [if_neg (by rw [List.length_take]; omega), List.take_append_of_le_length (by omega)]
  · rw [if_neg (fun e => h1 e.1), List.drop_eq_nil_of_le (by rw [List.length_append, List.length_singleton]; omega), List.drop_eq_nil_of_le (by omega)]
theorem fromL_len (l : List En) (n : Int) (m : Nat) : (fromL l n m).length ≤ l.length := by
  unfold fromL
  rw [List.length_take, List.length_drop]
  omega

set_option maxRecDepth 100000 in
set_option maxHeartbeats 6400000 in
theorem rfrom_calls (w : World) (g : Nat) (v : Value) (es : List En) (n : Int) (mm : Nat) (h : Lr w g v es) (hl : es.length ≤ 4096) (hk : mm < 100000) :
    Calls Try.prog 29 #[.pointer (some ⟨g, 0, none⟩), .int .i64 n, .int .i64 mm] w fun e w' => ∃ u, e = .returned u ∧ Sv w' u (fromL es n mm) ∧ Fr w w' (fun _ => False) := by
  have c0 := h.c0
  obtain ⟨A, cap, rfl, h1, h2, h3⟩ := h.sv
  have HA := hid h3
  have HX := hid (fun (i : Nat) (hi : i < es.length) => (⟨_, List.getElem?_eq_getElem hi⟩ : ∃ x, es[i]? = some x))
  have HP := hid (fun (i : Nat) (hi : i < es.length) (e : es = []) => (by rw [e] at hi; simp at hi : False))
  have HE : Hid (es.take es.length = es) := hid (List.take_length)
  have HS := hid (fun (i : Nat) (x : En) (hx : es[i]? = some x) => (by
    obtain ⟨hi, hx⟩ := List.getElem?_eq_some_iff.1 hx
    have hlen : (es.take i).length = i := by rw [List.length_take]; omega
    have := fromL_snoc (es.take i) x n mm
    rw [hlen] at this
    rw [List.take_succ_eq_append_getElem hi, hx]
    exact this : fromL (es.take (i + 1)) n mm = if n ≤ (i : Int) + 1 ∧ (fromL (es.take i) n mm).length < mm then fromL (es.take i) n mm ++ [x] else fromL (es.take i) n mm))
  have HLN := hid (fun (i : Nat) => (Nat.le_trans (fromL_len (es.take i) n mm) (by rw [List.length_take]; omega) : (fromL (es.take i) n mm).length ≤ es.length))
  clear h3 h
  generalize es.length = N at *
  have C0 := hid c0
  go_enter Try.func29, Try.ntmps29
  go_wp2_with fail
  go_loopw [7, 15] (fun vo t wr => ∃ i : Nat, i ≤ N ∧ t = .int .i64 i ∧ Fr w wr (fun _ => False) ∧ WR wr vo (fromL (es.take i) n mm) ∧ ∀ b, vo.ownBlock = some b → w.heap.size ≤ b) (fun _ t _ => N - (intOf t).toNat)
  case atStart => exact ⟨0, by omega, rfl, Fr.refl w _, by simpa [fromL] using WR.nil w, fun b hb => by cases hb⟩
  case round =>
    obtain ⟨i, hi, rfl, hf, hW, hO⟩ := hrel
    have HF := hid hf
    have HW := hid hW
    have HO := hid hO
    have hlen := HLN.out i
    obtain ⟨Ao, capo, rfl, g1, g2, g3⟩ := hW.sv
    clear hf hW hO g3
    by_cases hlt : i < N
    · obtain ⟨x, hx⟩ := HX.out i hlt
      obtain ⟨b, off, rfl, hb, HA1⟩ := HA.out (HP.out i hlt)
      obtain ⟨a0, a1, a2, a3, a4, a5, a6, a7, a8⟩ := (HA1.fr HF.out).nine hx
      have HT := hid (HS.out i x hx)
      generalize hPr : fromL (es.take i) n mm = L at *
      have HPR := hid hPr
      clear hPr hx HA1
      generalize hLL : L.length = NL at *
      have HLL := hid hLL
      clear hLL
      obtain ⟨xa, xb, xc, xk, xt, xn, xp, xq, xr⟩ := x
      simp only at a0 a1 a2 a3 a4 a5 a6 a7 a8
      have hwr : IntKind.i64.wrap ((i : Int) + 1) = (i : Int) + 1 := IntWalk.i64_in _ (by omega)
      have HWR := hid hwr
      clear hwr
      by_cases c1 : n ≤ (i : Int) + 1
      · by_cases c2 : NL < mm
        · have HT2 : Hid (fromL (es.take (i + 1)) n mm = L ++ [⟨xa, xb, xc, xk, xt, xn, xp, xq, xr⟩]) := hid (by rw [HT.out, if_pos ⟨c1, c2⟩])
          have e1 : decide (n ≤ (i : Int) + 1) = true := decide_eq_true c1
          have e2 : decide (NL < mm) = true := decide_eq_true c2
          have e3 : decide ((NL : Int) < (mm : Int)) = true := decide_eq_true (by omega)
          clear HT c1 c2
          go_upto_region 6 with fail
          have hnew := alloc_new wr (.cells #[.int .i64 xa, .int .i64 xb, .int .i64 xc, .int .i64 xk, .int .i64 xt, .int .i64 xn, .string xp, .string xq, .string xr] 25)
          have d0 := cell_blk hnew 0
          have d1 := cell_blk hnew 1
          have d2 := cell_blk hnew 2
          have d3 := cell_blk hnew 3
          have d4 := cell_blk hnew 4
          have d5 := cell_blk hnew 5
          have d6 := cell_blk hnew 6
          have d7 := cell_blk hnew 7
          have d8 := cell_blk hnew 8
          simp only [List.getElem?_toArray, List.getElem?_cons_zero, List.getElem?_cons_succ] at d0 d1 d2 d3 d4 d5 d6 d7 d8
          have HF := hid (HF.out.alloc (.cells #[.int .i64 xa, .int .i64 xb, .int .i64 xc, .int .i64 xk, .int .i64 xt, .int .i64 xn, .string xp, .string xq, .string xr] 25))
          have HW := hid (HW.out.alloc (.cells #[.int .i64 xa, .int .i64 xb, .int .i64 xc, .int .i64 xk, .int .i64 xt, .int .i64 xn, .string xp, .string xq, .string xr] 25))
          have HSZ : Hid (wr.heap.size + 1 = (wr.alloc (.cells #[.int .i64 xa, .int .i64 xb, .int .i64 xc, .int .i64 xk, .int .i64 xt, .int .i64 xn, .string xp, .string xq, .string xr] 25)).heap.size) := hid (by simp)
          clear hnew a0 a1 a2 a3 a4 a5 a6 a7 a8
          generalize wr.alloc (.cells #[.int .i64 xa, .int .i64 xb, .int .i64 xc, .int .i64 xk, .int .i64 xt, .int .i64 xn, .string xp, .string xq, .string xr] 25) = W at *
          generalize wr.heap.size = H at *
          go_wp2_with (at_builtin; refine wpList_append_w rfl _ _ rfl _ L [⟨xa, xb, xc, xk, xt, xn, xp, xq, xr⟩] (by rfl) (HW.out.alloc _) ⟨W.heap.size, 0, none⟩ 1 1 (by rfl) (by rfl) (World.news_of_block (cs := #[.int .i64 xa, .int .i64 xb, .int .i64 xc, .int .i64 xk, .int .i64 xt, .int .i64 xn, .string xp, .string xq, .string xr]) (t := 25) (fr := (0, 0)) (alloc_new W _)) (by omega) (by have := HLL.out; omega) ?_; intro gg cap4 w4 hown4 hgrow hat hlt4 hgg)
          have HW4 := hid hown4
          have HF4 := hid (Fr.grown (HF.out.alloc _) hgrow (fun k hk hs => by have := HO.out k hk; omega))
          have HAT := hid hat
          clear hown4 hgrow hat hlt4 hgg
          go_wp2_with fail
          go_roundw
          case rel =>
            refine ⟨i + 1, by omega, by go_num, HF4.out, ?_, ?_⟩
            · rw [HT2.out]
              exact HW4.out
            · intro b9 hb9
              have hb9 : gg = b9 := Option.some.inj hb9
              subst hb9
              rcases HAT.out with h8 | h8
              · exact HO.out _ h8
              · rw [h8]
                have := HF.out.size
                simp
                omega
          case measure => simp [intOf]; omega
        · have HT2 : Hid (fromL (es.take (i + 1)) n mm = L) := hid (by rw [HT.out, if_neg (fun e => c2 e.2)])
          have e1 : decide (n ≤ (i : Int) + 1) = true := decide_eq_true c1
          have e2 : decide (NL < mm) = false := decide_eq_false c2
          have e3 : decide ((NL : Int) < (mm : Int)) = false := decide_eq_false (by omega)
          clear HT c1 c2
          go_wp2_with fail
          go_roundw
          case rel => exact ⟨i + 1, by omega, by go_num, HF.out.alloc _, by rw [HT2.out]; exact HW.out.alloc _, HO.out⟩
          case measure => simp [intOf]; omega
      · have HT2 : Hid (fromL (es.take (i + 1)) n mm = L) := hid (by rw [HT.out, if_neg (fun e => c1 e.1)])
        have e1 : decide (n ≤ (i : Int) + 1) = false := decide_eq_false c1
        clear HT c1
        go_wp2_with fail
        go_roundw
        case rel => exact ⟨i + 1, by omega, by go_num, HF.out.alloc _, by rw [HT2.out]; exact HW.out.alloc _, HO.out⟩
        case measure => simp [intOf]; omega
    · have he : i = N := by omega
      subst he
      generalize hPr : fromL (es.take i) n mm = L at *
      have HPR := hid hPr
      clear hPr
      go_wp2_with fail
      go_ret
      have h9 := HPR.out
      rw [HE.out] at h9
      rw [h9]
      exact ⟨_, rfl, HW.out.sv, HF.out⟩
end Go.Proofs.Ytbphkbbidbjpmaa.Cw
