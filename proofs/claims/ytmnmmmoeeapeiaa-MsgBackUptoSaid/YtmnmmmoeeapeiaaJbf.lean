/- must, and the closure that reads a number. Own work. -/
import Derived.Test.YtmnmmmoeeapeiaaJbe
import Derived.Test.YtmnmmmoeeapeiaaJai
import Derived.WalkSmall
import Derived.Recover
import Derived.Test.YtmnmmmoeeapeiaaJaq
namespace Go.Proofs.Ytmnmmmoeeapeiaa.Cw
open Go.RowKit
set_option linter.unusedVariables false
set_option linter.unusedSimpArgs false

/-- How a message gives up. -/
def brk : List PanicEntry := [{ v := .iface 62 (.agg #[]), recovered := false }]
theorem must_yes (w : World) : Calls Try.prog 41 #[.bool true] w fun e w' => e = .returned (.tuple #[]) ∧ w' = w := by
  go_enter Try.func41, Try.ntmps41
  go_wp2_with fail
  go_end0
  first | exact ⟨rfl, rfl⟩ | simp
theorem must_no (w : World) : Calls Try.prog 41 #[.bool false] w fun e w' => e = .panicked brk ∧ w' = w := by
  go_enter Try.func41, Try.ntmps41
  go_wp2_with fail
  exact ⟨rfl, rfl, rfl⟩

set_option maxRecDepth 100000 in
theorem num_yes (w : World) (rc g : Nat) (s : ByteArray) (v : Nat) (s2 : ByteArray) (hrc : w.cell? ⟨rc, 0, none⟩ = some (.pointer (some ⟨g, 0, none⟩))) (h : Rd w g s 0) (hs : s.size ≤ maxLen) (hv : rdN 9 127 s 0 = (v, 0, s2, 0)) :
    Calls Try.prog 43 #[.pointer (some ⟨rc, 0, none⟩)] w fun e w' => e = .returned (.int .i64 v) ∧ Rd w' g s2 0 ∧ Fr w w' (fun i => i = g) := by
  have UC := hid (rUint_calls w g s 0 h hs)
  rw [hv] at UC
  clear h hs hv
  go_enter Try.func43, Try.ntmps43
  go_wp2_with (first
    | (go_at_call 44; refine UC.out.mono ?_; rintro e w1 ⟨rfl, hr, hf⟩)
    | (go_at_call 41; refine (must_yes _).mono ?_; rintro e w2 ⟨rfl, rfl⟩))
  go_ret
  exact ⟨rfl, hr, hf⟩
set_option maxRecDepth 100000 in
theorem num_no (w : World) (rc g : Nat) (s : ByteArray) (v x : Nat) (s2 : ByteArray) (e2 : Nat) (hrc : w.cell? ⟨rc, 0, none⟩ = some (.pointer (some ⟨g, 0, none⟩))) (h : Rd w g s 0) (hs : s.size ≤ maxLen) (hv : rdN 9 127 s 0 = (v, x, s2, e2)) (hx : ¬ x = 0) :
    Calls Try.prog 43 #[.pointer (some ⟨rc, 0, none⟩)] w fun e w' => e = .panicked brk ∧ Fr w w' (fun i => i = g) := by
  have UC := hid (rUint_calls w g s 0 h hs)
  rw [hv] at UC
  have d1 : ((x : Int) == 0) = false := by rw [beq_eq_false_iff_ne]; omega
  clear h hs hv
  go_enter Try.func43, Try.ntmps43
  go_wp2_with (first
    | (go_at_call 44; refine UC.out.mono ?_; rintro e w1 ⟨rfl, hr, hf⟩)
    | (go_at_call 41; refine (must_no _).mono ?_; rintro e w2 ⟨rfl, rfl⟩))
  exact ⟨rfl, rfl, hf⟩
end Go.Proofs.Ytmnmmmoeeapeiaa.Cw

/- What is decoded of an entry: both Decodes answer alike. Own work. -/
namespace Go.Proofs.Ytmnmmmoeeapeiaa.Cw
open Go.RowKit
set_option linter.unusedVariables false
set_option linter.unusedSimpArgs false

theorem deV_split (a b c k t n : Nat) (p q r : ByteArray) (s z : ByteArray) (e : Nat) (hz : z.size ≤ s.size) : ∃ (x : En) (m : Nat) (f : Int), deV a b c k t n p q r s z e = .tuple #[x.V, .int .i64 (m : Int), .int .i64 f] ∧ m ≤ s.size ∧ (f = 0 → x.R ∧ m = s.size - z.size ∧ x = ⟨a, b, c, zz k, zz t, zz n, p, q, r⟩) := by
  unfold deV
  by_cases h0 : e = 0
  · by_cases hr : Rt a b c p q r
    · rw [if_pos h0, if_pos hr]
      refine ⟨⟨a, b, c, zz k, zz t, zz n, p, q, r⟩, s.size - z.size, 0, ?_, by omega, fun _ => ⟨hr, rfl, rfl⟩⟩
      rw [show ((s.size - z.size : Nat) : Int) = (s.size : Int) - z.size by omega]
      rfl
    · rw [if_pos h0, if_neg hr]
      exact ⟨⟨0, 0, 0, 0, 0, 0, ⟨#[]⟩, ⟨#[]⟩, ⟨#[]⟩⟩, 0, 4, rfl, by omega, fun h => by cases h⟩
  · rw [if_neg h0]
    exact ⟨⟨0, 0, 0, 0, 0, 0, ⟨#[]⟩, ⟨#[]⟩, ⟨#[]⟩⟩, 0, e, rfl, by omega, fun h => by omega⟩

set_option maxRecDepth 100000 in
theorem dec_any (s : ByteArray) : ∃ (x : En) (m : Nat) (f : Int),
    (s.size ≤ maxLen → ∀ w, Calls Try.prog 46 #[.string s] w fun e w' => e = .returned (.tuple #[x.V, .int .i64 (m : Int), .int .i64 f]) ∧ Fr w w' (fun _ => False)) ∧
    (s.size ≤ maxLen → ∀ w, Calls Try.prog 33 #[.string s] w fun e w' => e = .returned (.tuple #[x.V, .int .i64 (m : Int), .int .i64 f]) ∧ Fr w w' (fun _ => False)) ∧ m ≤ s.size ∧ (f = 0 → x.R) := by
  obtain ⟨a, x1, t1, e1, E1⟩ : ∃ a x1 t1 e1, rdN 9 127 s 0 = (a, x1, t1, e1) := ⟨_, _, _, _, rfl⟩
  obtain ⟨b, x2, t2, e2, E2⟩ : ∃ a x1 t1' e1', rdN 9 127 t1 e1 = (a, x1, t1', e1') := ⟨_, _, _, _, rfl⟩
  obtain ⟨c, x3, t3, e3, E3⟩ : ∃ a x1 t1' e1', rdN 9 127 t2 e2 = (a, x1, t1', e1') := ⟨_, _, _, _, rfl⟩
  obtain ⟨k, x4, t4, e4, E4⟩ : ∃ a x1 t1' e1', rdN 10 1 t3 e3 = (a, x1, t1', e1') := ⟨_, _, _, _, rfl⟩
  obtain ⟨t, x5, t5, e5, E5⟩ : ∃ a x1 t1' e1', rdN 10 1 t4 e4 = (a, x1, t1', e1') := ⟨_, _, _, _, rfl⟩
  obtain ⟨n, x6, t6, e6, E6⟩ : ∃ a x1 t1' e1', rdN 10 1 t5 e5 = (a, x1, t1', e1') := ⟨_, _, _, _, rfl⟩
  obtain ⟨p, x7, t7, e7, E7⟩ : ∃ a x1 t1' e1', rdT 4096 t6 e6 = (a, x1, t1', e1') := ⟨_, _, _, _, rfl⟩
  obtain ⟨q, x8, t8, e8, E8⟩ : ∃ a x1 t1' e1', rdT 4096 t7 e7 = (a, x1, t1', e1') := ⟨_, _, _, _, rfl⟩
  obtain ⟨r, x9, t9, e9, E9⟩ : ∃ a x1 t1' e1', rdT 4096 t8 e8 = (a, x1, t1', e1') := ⟨_, _, _, _, rfl⟩
  have z1 := rdN_size 9 127 s 0
  rw [E1] at z1
  have z2 := rdN_size 9 127 t1 e1
  rw [E2] at z2
  have z3 := rdN_size 9 127 t2 e2
  rw [E3] at z3
  have z4 := rdN_size 10 1 t3 e3
  rw [E4] at z4
  have z5 := rdN_size 10 1 t4 e4
  rw [E5] at z5
  have z6 := rdN_size 10 1 t5 e5
  rw [E6] at z6
  have z7 := rdT_size 4096 t6 e6
  rw [E7] at z7
  have z8 := rdT_size 4096 t7 e7
  rw [E8] at z8
  have z9 := rdT_size 4096 t8 e8
  rw [E9] at z9
  simp only at z1 z2 z3 z4 z5 z6 z7 z8 z9
  obtain ⟨x, m, f, h1, h2, h3⟩ := deV_split a b c k t n p q r s t9 e9 (by omega)
  refine ⟨x, m, f, fun hs w => ?_, fun hs w => ?_, h2, fun hf => (h3 hf).1⟩
  · have := decode_calls w s hs a b c k t n p q r x1 x2 x3 x4 x5 x6 x7 x8 x9 t1 t2 t3 t4 t5 t6 t7 t8 t9 e1 e2 e3 e4 e5 e6 e7 e8 e9 E1 E2 E3 E4 E5 E6 E7 E8 E9
    rwa [h1] at this
  · have := refDecode_calls w s hs a b c k t n p q r x1 x2 x3 x4 x5 x6 x7 x8 x9 t1 t2 t3 t4 t5 t6 t7 t8 t9 e1 e2 e3 e4 e5 e6 e7 e8 e9 E1 E2 E3 E4 E5 E6 E7 E8 E9
    rwa [h1] at this
end Go.Proofs.Ytmnmmmoeeapeiaa.Cw

/- How long entries' bytes are; a message turned to the reference's; are two messages the same. Own work. -/
namespace Go.Proofs.Ytmnmmmoeeapeiaa.Cw
open Go.RowKit
set_option linter.unusedVariables false
set_option linter.unusedSimpArgs false

theorem B_len (x : En) (hr : x.R) (ho : x.Ok) : x.B.length ≤ 12400 := by
  obtain ⟨a, b, c, k, t, n, p, q, r⟩ := x
  have hr2 : Rt a b c p q r := hr
  unfold Rt at hr2
  obtain ⟨⟨h1, h2⟩, ⟨h3, h4⟩, ⟨h5, h6⟩, h7, h8, h9⟩ := hr2
  obtain ⟨⟨_, _, _, hk, ht, hn⟩, _⟩ := ho
  simp only at hk ht hn
  have la := uv_len10 a.toNat (by omega)
  have lb := uv_len10 b.toNat (by omega)
  have lc := uv_len10 c.toNat (by omega)
  have lk := uv_len10 (zig k) (zig_lt k hk.1 hk.2)
  have lt := uv_len10 (zig t) (zig_lt t ht.1 ht.2)
  have ln := uv_len10 (zig n) (zig_lt n hn.1 hn.2)
  have lp := uv_len10 p.size (by omega)
  have lq := uv_len10 q.size (by omega)
  have lr := uv_len10 r.size (by omega)
  have ep : p.data.toList.length = p.size := by rw [Array.length_toList]; rfl
  have eq : q.data.toList.length = q.size := by rw [Array.length_toList]; rfl
  have er : r.data.toList.length = r.size := by rw [Array.length_toList]; rfl
  show (uv a.toNat ++ uv b.toNat ++ uv c.toNat ++ uv (zig k) ++ uv (zig t) ++ uv (zig n) ++ (uv p.size ++ p.data.toList) ++ (uv q.size ++ q.data.toList) ++ (uv r.size ++ r.data.toList)).length ≤ 12400
  simp only [List.length_append]
  omega
theorem jnB_len (l : List En) (ho : ∀ x ∈ l, x.Ok) (ha : arB l = true) : (jnB l).length ≤ 12400 * l.length := by
  induction l with
  | nil => simp [jnB]
  | cons x r ih =>
    unfold arB at ha
    rw [List.all_cons, Bool.and_eq_true, decide_eq_true_eq] at ha
    have h1 := B_len x ha.1 (ho x (List.mem_cons_self))
    have h2 := ih (fun y hy => ho y (List.mem_cons_of_mem _ hy)) ha.2
    have h3 : jnB (x :: r) = x.B ++ jnB r := by unfold jnB; rw [List.flatMap_cons]
    rw [h3, List.length_append, List.length_cons]
    omega
theorem hb_of {l : List En} (ho : ∀ x ∈ l, x.Ok) (hl : l.length ≤ 1048576) : Hb l := by
  intro i ha
  have := jnB_len (l.take i) (fun x hx => ho x (List.mem_of_mem_take hx)) ha
  have h2 : (l.take i).length ≤ l.length := by rw [List.length_take]; omega
  omega

theorem info_mg : (Try.prog.info? 31).map (·.size) = some 6 := by kernel_rfl
theorem loadMg {w : World} {b : Nat} {t : TypeId} {v0 v1 v2 v3 v4 v5 : Value} (h : w.heap[b]? = some (.cells #[v0, v1, v2, v3, v4, v5] t (0, 0))) :
    (loadVar 31 ⟨b, 0, none⟩).run Try.prog w = .ok (.agg #[v0, v1, v2, v3, v4, v5]) w := by
  refine run_loadVar_mid w b 0 31 [v0, v1, v2, v3, v4, v5] _ ?_ Try.underlying31 rfl (info_mg.trans rfl)
  intro j v hj
  rw [cell_blk h, Nat.zero_add]
  simpa using hj
theorem results_mg1 {fn : Func} {u : Tmp} (h : fn.results = #[.cell u 31]) (tmps : Array Value) (w : World) (b : Nat) (hb : tmps.getD u undef = .pointer (some ⟨b, 0, none⟩)) {cs : Value}
    (hl : (loadVar 31 ⟨b, 0, none⟩).run Try.prog w = .ok cs w) :
    (results fn tmps).run Try.prog w = .ok cs w := by
  have hb' : tmps[u]?.getD undef = .pointer (some ⟨b, 0, none⟩) := by simpa using hb
  simp [results, h, hb', hl, Sem.run_bind, asAddr]
set_option maxRecDepth 100000 in
theorem ref23_calls (w : World) (k v n a c : Int) (A : Option Addr) (N cap : Nat) :
    Calls Try.prog 10 #[.agg #[.int .i64 k, .int .i64 v, .int .i64 n, .int .i64 a, .int .i64 c, .slice A N cap]] w fun e w' => e = .returned (.agg #[.int .i64 k, .int .i64 v, .int .i64 n, .int .i64 a, .int .i64 c, .slice A N cap]) ∧ Fr w w' (fun _ => False) := by
  go_enter Try.func10, Try.ntmps10
  go_wp2_with fail
  have hq := alloc_new (w.alloc (.cells #[.int .i64 k, .int .i64 v, .int .i64 n, .int .i64 a, .int .i64 c, .slice A N cap] 24)) (.cells #[.int .i64 k, .int .i64 v, .int .i64 n, .int .i64 a, .int .i64 c, .slice A N cap] 31)
  rw [show (w.alloc (.cells #[.int .i64 k, .int .i64 v, .int .i64 n, .int .i64 a, .int .i64 c, .slice A N cap] 24)).heap.size = w.heap.size + 1 by simp] at hq
  refine bodyPost_ret (results_mg1 rfl _ _ _ rfl (loadMg hq)) rfl ?_
  exact ⟨rfl, ((Fr.refl w _).alloc _).alloc _⟩

set_option maxRecDepth 100000 in
set_option maxHeartbeats 3200000 in
theorem same23_calls (w : World) (k v n a c : Int) (u1 u2 : Value) (l m : List En) (h1 : Sv w u1 l) (h2 : Sv w u2 m) (b1 : l.length ≤ 4611686018427387904) (b2 : m.length ≤ 4611686018427387904) :
    Calls Try.prog 9 #[.agg #[.int .i64 k, .int .i64 v, .int .i64 n, .int .i64 a, .int .i64 c, u1], .agg #[.int .i64 k, .int .i64 v, .int .i64 n, .int .i64 a, .int .i64 c, u2]] w fun e w' => e = .returned (.bool (decide (l = m))) ∧ Fr w w' (fun _ => False) := by
  have EC := hid (fun (W : World) (hf : Fr w W (fun _ => False)) => entries_calls W u1 u2 l m (h1.fr hf) (h2.fr hf) b1 b2)
  obtain ⟨A, cap, rfl, _⟩ := h1
  obtain ⟨A2, cap2, rfl, _⟩ := h2
  generalize l.length = N at *
  generalize m.length = N2 at *
  generalize decide (l = m) = Q at *
  go_enter Try.func9, Try.ntmps9
  go_wp2_with fail
  refine (EC.out _ (((Fr.refl w _).alloc _).alloc _)).mono ?_
  rintro e w1 ⟨rfl, hf1⟩
  go_wp2_with fail
  go_ret
  exact ⟨rfl, (((Fr.refl w _).alloc _).alloc _).trans hf1⟩
end Go.Proofs.Ytmnmmmoeeapeiaa.Cw
