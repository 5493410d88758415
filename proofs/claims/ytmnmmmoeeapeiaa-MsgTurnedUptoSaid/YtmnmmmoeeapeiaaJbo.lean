/- read, whatever the text; and Decode. Written by mkmgu.py. Own work. -/
import Derived.Test.YtmnmmmoeeapeiaaJbm
import Derived.Test.YtmnmmmoeeapeiaaJbn
namespace Go.Proofs.Ytmnmmmoeeapeiaa.Cw
open Go.RowKit
set_option linter.unusedVariables false
set_option linter.unusedSimpArgs false

theorem read_calls (w : World) (s : ByteArray) (hss : s.size ≤ 60000) :
    Calls Try.prog 25 #[.string s] w fun e w' => ReadP s w e w' := by
  have hs : s.size ≤ 70368744177664 := by omega
  by_cases ho : opE s = 0
  · obtain ⟨t, ht⟩ : ∃ t, opS s = t := ⟨_, rfl⟩
    have hsz := (open_ok ho).2
    rw [ht] at hsz
    have htz : t.size ≤ 70368744177664 := by omega
    obtain ⟨v1, x1, t1, e1, E1⟩ : ∃ v x t' e, rdN 9 127 t 0 = (v, x, t', e) := ⟨_, _, _, _, rfl⟩
    by_cases h1 : x1 = 0
    case neg =>
      refine (read_num1 w s t ho hs ht htz v1 x1 t1 e1 E1 h1).mono fun e w' ⟨he, hf⟩ => ⟨hf, .inl ⟨he, fun k v n a c l hE => ?_⟩⟩
      obtain ⟨u1, u2, u3, u4, u5, u6, F1, F2, F3, F4, F5, F6, _⟩ := enc_chain hE hss ht
      rw [E1] at F1
      simp only [Prod.mk.injEq] at F1
      exact h1 F1.2.1
    subst h1
    have g1 := (rdN_one E1 rfl).2
    subst g1
    obtain ⟨v2, x2, t2, e2, E2⟩ : ∃ v x t' e, rdN 9 127 t1 0 = (v, x, t', e) := ⟨_, _, _, _, rfl⟩
    by_cases h2 : x2 = 0
    case neg =>
      refine (read_num2 w s t ho hs ht htz v1 t1 E1 v2 x2 t2 e2 E2 h2).mono fun e w' ⟨he, hf⟩ => ⟨hf, .inl ⟨he, fun k v n a c l hE => ?_⟩⟩
      obtain ⟨u1, u2, u3, u4, u5, u6, F1, F2, F3, F4, F5, F6, _⟩ := enc_chain hE hss ht
      rw [E1] at F1
      simp only [Prod.mk.injEq] at F1
      obtain ⟨_, _, rfl, _⟩ := F1
      rw [E2] at F2
      simp only [Prod.mk.injEq] at F2
      exact h2 F2.2.1
    subst h2
    have g2 := (rdN_one E2 rfl).2
    subst g2
    obtain ⟨v3, x3, t3, e3, E3⟩ : ∃ v x t' e, rdN 9 127 t2 0 = (v, x, t', e) := ⟨_, _, _, _, rfl⟩
    by_cases h3 : x3 = 0
    case neg =>
      refine (read_num3 w s t ho hs ht htz v1 v2 t1 t2 E1 E2 v3 x3 t3 e3 E3 h3).mono fun e w' ⟨he, hf⟩ => ⟨hf, .inl ⟨he, fun k v n a c l hE => ?_⟩⟩
      obtain ⟨u1, u2, u3, u4, u5, u6, F1, F2, F3, F4, F5, F6, _⟩ := enc_chain hE hss ht
      rw [E1] at F1
      simp only [Prod.mk.injEq] at F1
      obtain ⟨_, _, rfl, _⟩ := F1
      rw [E2] at F2
      simp only [Prod.mk.injEq] at F2
      obtain ⟨_, _, rfl, _⟩ := F2
      rw [E3] at F3
      simp only [Prod.mk.injEq] at F3
      exact h3 F3.2.1
    subst h3
    have g3 := (rdN_one E3 rfl).2
    subst g3
    obtain ⟨v4, x4, t4, e4, E4⟩ : ∃ v x t' e, rdN 9 127 t3 0 = (v, x, t', e) := ⟨_, _, _, _, rfl⟩
    by_cases h4 : x4 = 0
    case neg =>
      refine (read_num4 w s t ho hs ht htz v1 v2 v3 t1 t2 t3 E1 E2 E3 v4 x4 t4 e4 E4 h4).mono fun e w' ⟨he, hf⟩ => ⟨hf, .inl ⟨he, fun k v n a c l hE => ?_⟩⟩
      obtain ⟨u1, u2, u3, u4, u5, u6, F1, F2, F3, F4, F5, F6, _⟩ := enc_chain hE hss ht
      rw [E1] at F1
      simp only [Prod.mk.injEq] at F1
      obtain ⟨_, _, rfl, _⟩ := F1
      rw [E2] at F2
      simp only [Prod.mk.injEq] at F2
      obtain ⟨_, _, rfl, _⟩ := F2
      rw [E3] at F3
      simp only [Prod.mk.injEq] at F3
      obtain ⟨_, _, rfl, _⟩ := F3
      rw [E4] at F4
      simp only [Prod.mk.injEq] at F4
      exact h4 F4.2.1
    subst h4
    have g4 := (rdN_one E4 rfl).2
    subst g4
    obtain ⟨v5, x5, t5, e5, E5⟩ : ∃ v x t' e, rdN 9 127 t4 0 = (v, x, t', e) := ⟨_, _, _, _, rfl⟩
    by_cases h5 : x5 = 0
    case neg =>
      refine (read_num5 w s t ho hs ht htz v1 v2 v3 v4 t1 t2 t3 t4 E1 E2 E3 E4 v5 x5 t5 e5 E5 h5).mono fun e w' ⟨he, hf⟩ => ⟨hf, .inl ⟨he, fun k v n a c l hE => ?_⟩⟩
      obtain ⟨u1, u2, u3, u4, u5, u6, F1, F2, F3, F4, F5, F6, _⟩ := enc_chain hE hss ht
      rw [E1] at F1
      simp only [Prod.mk.injEq] at F1
      obtain ⟨_, _, rfl, _⟩ := F1
      rw [E2] at F2
      simp only [Prod.mk.injEq] at F2
      obtain ⟨_, _, rfl, _⟩ := F2
      rw [E3] at F3
      simp only [Prod.mk.injEq] at F3
      obtain ⟨_, _, rfl, _⟩ := F3
      rw [E4] at F4
      simp only [Prod.mk.injEq] at F4
      obtain ⟨_, _, rfl, _⟩ := F4
      rw [E5] at F5
      simp only [Prod.mk.injEq] at F5
      exact h5 F5.2.1
    subst h5
    have g5 := (rdN_one E5 rfl).2
    subst g5
    obtain ⟨v6, x6, t6, e6, E6⟩ : ∃ v x t' e, rdN 9 127 t5 0 = (v, x, t', e) := ⟨_, _, _, _, rfl⟩
    by_cases h6 : x6 = 0
    case neg =>
      refine (read_num6 w s t ho hs ht htz v1 v2 v3 v4 v5 t1 t2 t3 t4 t5 E1 E2 E3 E4 E5 v6 x6 t6 e6 E6 h6).mono fun e w' ⟨he, hf⟩ => ⟨hf, .inl ⟨he, fun k v n a c l hE => ?_⟩⟩
      obtain ⟨u1, u2, u3, u4, u5, u6, F1, F2, F3, F4, F5, F6, _⟩ := enc_chain hE hss ht
      rw [E1] at F1
      simp only [Prod.mk.injEq] at F1
      obtain ⟨_, _, rfl, _⟩ := F1
      rw [E2] at F2
      simp only [Prod.mk.injEq] at F2
      obtain ⟨_, _, rfl, _⟩ := F2
      rw [E3] at F3
      simp only [Prod.mk.injEq] at F3
      obtain ⟨_, _, rfl, _⟩ := F3
      rw [E4] at F4
      simp only [Prod.mk.injEq] at F4
      obtain ⟨_, _, rfl, _⟩ := F4
      rw [E5] at F5
      simp only [Prod.mk.injEq] at F5
      obtain ⟨_, _, rfl, _⟩ := F5
      rw [E6] at F6
      simp only [Prod.mk.injEq] at F6
      exact h6 F6.2.1
    subst h6
    have g6 := (rdN_one E6 rfl).2
    subst g6
    have z1 := rdN_size 9 127 t 0
    rw [E1] at z1
    simp only at z1
    have z2 := rdN_size 9 127 t1 0
    rw [E2] at z2
    simp only at z2
    have z3 := rdN_size 9 127 t2 0
    rw [E3] at z3
    simp only at z3
    have z4 := rdN_size 9 127 t3 0
    rw [E4] at z4
    simp only at z4
    have z5 := rdN_size 9 127 t4 0
    rw [E5] at z5
    simp only at z5
    have z6 := rdN_size 9 127 t5 0
    rw [E6] at z6
    simp only at z6
    by_cases hm : t.size < v6
    · refine (read_many w s t ho hs ht htz v1 v2 v3 v4 v5 v6 t1 t2 t3 t4 t5 t6 E1 E2 E3 E4 E5 E6 hm).mono fun e w' ⟨he, hf⟩ => ⟨hf, .inl ⟨he, fun k v n a c l hE => ?_⟩⟩
      obtain ⟨_, _, _, _, _, hl, _, hrest⟩ := enc_key hE hss ht ⟨t1, t2, t3, t4, t5, E1, E2, E3, E4, E5, E6⟩ (Rdd.zero t6) (Nat.zero_le _)
      have h9 := congrArg List.length hrest
      rw [ba_len, List.drop_zero] at h9
      have := jnB_pos l
      omega
    · exact read_yes w s t ho hs ht htz v1 v2 v3 v4 v5 v6 t1 t2 t3 t4 t5 t6 E1 E2 E3 E4 E5 E6 (by omega) hss
  · refine (read_open w s hs ho).mono fun e w' ⟨he, hf⟩ => ⟨hf, .inl ⟨he, fun k v n a c l hE => ho (enc_open hE).1⟩⟩

/-- What both Decodes answer. -/
def DecP (s : ByteArray) (w : World) (e : Ending) (w' : World) : Prop :=
  Fr w w' (fun _ => False) ∧ ∃ (k v n a c : Int) (u : Value) (l : List En) (z : Int), e = .returned (.tuple #[.agg #[.int .i64 k, .int .i64 v, .int .i64 n, .int .i64 a, .int .i64 c, u], .int .i64 z]) ∧ Sv w' u l ∧
    ((60000 < s.size ∧ z = 2 ∧ k = 0 ∧ v = 0 ∧ n = 0 ∧ a = 0 ∧ c = 0 ∧ l = []) ∨ (s.size ≤ 60000 ∧ z = 4 ∧ NoEnc s ∧ k = 0 ∧ v = 0 ∧ n = 0 ∧ a = 0 ∧ c = 0 ∧ l = []) ∨ (s.size ≤ 60000 ∧ z = 0 ∧ Enc s k v n a c l))
theorem Sv.nil23 (w : World) : Sv w (.slice none 0 0) [] := ⟨none, 0, rfl, by simp, by unfold maxLen; omega, fun h => absurd rfl h⟩

theorem results_me {fn : Func} {x y : Tmp} (h : fn.results = #[.cell x 24, .cell y 25]) (tmps : Array Value) (w : World) (b c : Nat) (hb : tmps.getD x undef = .pointer (some ⟨b, 0, none⟩)) (hc : tmps.getD y undef = .pointer (some ⟨c, 0, none⟩)) {v0 v1 v2 v3 v4 v5 : Value} {z : Int} {T T' : TypeId}
    (hM : w.heap[b]? = some (.cells #[v0, v1, v2, v3, v4, v5] T (0, 0))) (hE : w.heap[c]? = some (.cells #[.int .i64 z] T' (0, 0))) :
    (results fn tmps).run Try.prog w = .ok (.tuple #[.agg #[v0, v1, v2, v3, v4, v5], .int .i64 z]) w := by
  have hb' : tmps[x]?.getD undef = .pointer (some ⟨b, 0, none⟩) := by simpa using hb
  have hc' : tmps[y]?.getD undef = .pointer (some ⟨c, 0, none⟩) := by simpa using hc
  have hl := loadMgm hM
  have hc0 : w.cell? ⟨c, 0, none⟩ = some (.int .i64 z) := cell_blk hE 0
  have hl2 : (loadVar 25 ⟨c, 0, none⟩).run Try.prog w = .ok (.int .i64 z) w := by simp [loadVar, go_sem, hc0]
  simp [results, h, hb', hc', hl, hl2, Sem.run_bind, asAddr]

set_option maxRecDepth 100000 in
set_option maxHeartbeats 3200000 in
theorem decode23_long (w : World) (s : ByteArray) (hs : s.size ≤ maxLen) (hss : ¬ s.size ≤ 60000) :
    Calls Try.prog 8 #[.string s] w fun e w' => DecP s w e w' := by
  have hs9 := hs
  unfold maxLen at hs9
  have hmf : ∀ (fn : Fn) (first cap : Array Value) (w : World), (Instr.makeFunc fn first cap).run Try.prog w = .ok (.func fn first cap) w := fun _ _ _ _ => rfl
  have d1 : decide ((60000 : Int) < (s.size : Int)) = true := decide_eq_true (by omega)
  clear hs
  go_enter_defers Try.func8, Try.ntmps8
  go_wp2_with fail
  have hM := (Below.heap_alloc (w.alloc (.cells #[.int .i64 0, .int .i64 0, .int .i64 0, .int .i64 0, .int .i64 0, .slice none 0 0] 24)) (.cells #[.int .i64 2] 25) w.heap.size (by simp)).trans (alloc_new w _)
  have hE := alloc_new (w.alloc (.cells #[.int .i64 0, .int .i64 0, .int .i64 0, .int .i64 0, .int .i64 0, .slice none 0 0] 24)) (.cells #[.int .i64 2] 25)
  rw [show (w.alloc (.cells #[.int .i64 0, .int .i64 0, .int .i64 0, .int .i64 0, .int .i64 0, .slice none 0 0] 24)).heap.size = w.heap.size + 1 by simp] at hE
  refine ⟨_, results_me rfl _ _ _ _ rfl rfl hM hE, ?_⟩
  exact ⟨((Fr.refl w _).alloc _).alloc _, 0, 0, 0, 0, 0, _, [], 2, rfl, Sv.nil23 _, .inl ⟨by omega, rfl, rfl, rfl, rfl, rfl, rfl, rfl⟩⟩

set_option maxRecDepth 100000 in
set_option maxHeartbeats 3200000 in
theorem decode23_short (w : World) (s : ByteArray) (hss : s.size ≤ 60000) :
    Calls Try.prog 8 #[.string s] w fun e w' => DecP s w e w' := by
  have hmf : ∀ (fn : Fn) (first cap : Array Value) (w : World), (Instr.makeFunc fn first cap).run Try.prog w = .ok (.func fn first cap) w := fun _ _ _ _ => rfl
  have RC := hid (fun (W : World) => read_calls W s hss)
  have HSS := hid hss
  have d1 : decide ((60000 : Int) < (s.size : Int)) = false := decide_eq_false (by omega)
  go_enter_defers Try.func8, Try.ntmps8
  go_wp2_with fail
  have hM := (Below.heap_alloc (w.alloc (.cells #[.int .i64 0, .int .i64 0, .int .i64 0, .int .i64 0, .int .i64 0, .slice none 0 0] 24)) (.cells #[.int .i64 0] 25) w.heap.size (by simp)).trans (alloc_new w _)
  have hE := alloc_new (w.alloc (.cells #[.int .i64 0, .int .i64 0, .int .i64 0, .int .i64 0, .int .i64 0, .slice none 0 0] 24)) (.cells #[.int .i64 0] 25)
  rw [show (w.alloc (.cells #[.int .i64 0, .int .i64 0, .int .i64 0, .int .i64 0, .int .i64 0, .slice none 0 0] 24)).heap.size = w.heap.size + 1 by simp] at hE
  have hF := ((Fr.refl w (fun _ => False)).alloc (.cells #[.int .i64 0, .int .i64 0, .int .i64 0, .int .i64 0, .int .i64 0, .slice none 0 0] 24)).alloc (.cells #[.int .i64 0] 25)
  generalize (w.alloc (.cells #[.int .i64 0, .int .i64 0, .int .i64 0, .int .i64 0, .int .i64 0, .slice none 0 0] 24)).alloc (.cells #[.int .i64 0] 25) = wq at *
  refine (RC.out _).mono ?_
  rintro e w1 ⟨hf1, hr⟩
  have hM1 := hf1.at_ hM (fun x => x)
  have hE1 := hf1.at_ hE (fun x => x)
  rcases hr with ⟨rfl, hne⟩ | ⟨k, v, n, a, c, u, l, rfl, hown, henc⟩
  · refine leaves_cons (f := 24) (args := #[.pointer (some ⟨w.heap.size, 0, none⟩), .pointer (some ⟨w.heap.size + 1, 0, none⟩)]) (by simp) (by simp [go_sem]) ?_
    refine (catch_brk w1 w.heap.size (w.heap.size + 1) 0 0 0 0 0 _ 0 hM1 hE1 (by omega)).mono ?_
    rintro e u' w2 ⟨rfl, rfl, h1, h2, h3⟩
    refine ⟨_, results_me rfl _ _ _ _ rfl rfl h1 h2, ?_⟩
    exact ⟨(hF.trans hf1).fresh h3 (fun i hi => by omega), 0, 0, 0, 0, 0, _, [], 4, rfl, Sv.nil23 _, .inr (.inl ⟨HSS.out, rfl, hne, rfl, rfl, rfl, rfl, rfl, rfl⟩)⟩
  · obtain ⟨A, cap, hu, _⟩ := owns_sv hown
    subst hu
    obtain ⟨y0, y1, y2, y3, y4, y5⟩ := cells6 hM1
    obtain ⟨q0, q1, q2, q3, q4, q5⟩ := free6 hM1
    have y6 : w1.cell? ⟨w.heap.size + 1, 0, none⟩ = some (.int .i64 0) := cell_blk hE1 0
    have q6 := free_blk hE1 0
    have HOW := hid hown
    have hwq := blk_lt hE
    go_wp2_with fail
    have h1 := fr6m w1 w.heap.size (.int .i64 k) (.int .i64 v) (.int .i64 n) (.int .i64 a) (.int .i64 c) (.slice A l.length cap)
    have h2 := set6m (.int .i64 k) (.int .i64 v) (.int .i64 n) (.int .i64 a) (.int .i64 c) (.slice A l.length cap) hM1
    have h3 := h1.at_ hE1 (fun x => by omega)
    have hown2 := ownsRow_frS hown h1 (fun b hb => by have := ownsRow_ge hown hb; omega)
    generalize ((((((w1.setCell ⟨w.heap.size, 0, none⟩ (.int .i64 k)).setCell ⟨w.heap.size, 1, none⟩ (.int .i64 v)).setCell ⟨w.heap.size, 2, none⟩ (.int .i64 n)).setCell ⟨w.heap.size, 3, none⟩ (.int .i64 a)).setCell ⟨w.heap.size, 4, none⟩ (.int .i64 c)).setCell ⟨w.heap.size, 5, none⟩ (.slice A l.length cap)) = w2 at *
    have h4 := Fr.set1 w2 (w.heap.size + 1) 0 (.int .i64 0)
    have h5 := h4.at_ h2 (fun x => by omega)
    have h6 := (set_blk h3 0 (.int .i64 0)).trans rfl
    have hown3 := ownsRow_frS hown2 h4 (fun b hb => by have := ownsRow_ge hown2 hb; omega)
    refine leaves_cons (f := 24) (args := #[.pointer (some ⟨w.heap.size, 0, none⟩), .pointer (some ⟨w.heap.size + 1, 0, none⟩)]) (by simp) (by simp [go_sem]) ?_
    refine (catch_idle _ w.heap.size (w.heap.size + 1)).mono ?_
    rintro e u' w9 ⟨rfl, rfl, rfl⟩
    refine ⟨_, results_me rfl _ _ _ _ rfl rfl h5 h6, ?_⟩
    exact ⟨((hF.trans hf1).fresh h1 (fun i hi => by omega)).fresh h4 (fun i hi => by omega), k, v, n, a, c, _, l, 0, rfl, owns_sv hown3, .inr (.inr ⟨HSS.out, rfl, henc⟩)⟩
theorem decode23_calls (w : World) (s : ByteArray) (hs : s.size ≤ maxLen) :
    Calls Try.prog 8 #[.string s] w fun e w' => DecP s w e w' := by
  by_cases hss : s.size ≤ 60000
  · exact decode23_short w s hss
  · exact decode23_long w s hs hss
end Go.Proofs.Ytmnmmmoeeapeiaa.Cw

