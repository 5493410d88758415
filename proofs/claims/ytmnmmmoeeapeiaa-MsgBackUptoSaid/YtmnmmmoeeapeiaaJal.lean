/- Entries of the replicated log: which are right, their bytes. Own work. -/
import Derived.Test.YtmnmmmoeeapeiaaJai
import Derived.Test.YtmnmmmoeeapeiaaJak
import Derived.Deep.RegionHeld3
namespace Go.Proofs.Ytmnmmmoeeapeiaa.Cw
open Go.RowKit
set_option linter.unusedVariables false
set_option linter.unusedSimpArgs false

/-- An entry as a value. -/
def enV (a b c k t n : Int) (p q r : ByteArray) : Value := .agg #[.int .i64 a, .int .i64 b, .int .i64 c, .int .i64 k, .int .i64 t, .int .i64 n, .string p, .string q, .string r]
/-- Is an entry right? -/
def Rt (a b c : Int) (p q r : ByteArray) : Prop := (0 ≤ a ∧ a ≤ 1099511627776) ∧ (0 ≤ b ∧ b ≤ 1099511627776) ∧ (1 ≤ c ∧ c ≤ 1099511627776) ∧ p.size ≤ 4096 ∧ q.size ≤ 4096 ∧ r.size ≤ 4096
instance (a b c : Int) (p q r : ByteArray) : Decidable (Rt a b c p q r) := by unfold Rt; infer_instance
theorem ret_b {x y : Bool} (h : x = y) : Ending.returned (.bool x) = .returned (.bool y) := by rw [h]

set_option maxRecDepth 100000 in
set_option maxHeartbeats 1600000 in
theorem right_calls (w : World) (a b c k t n : Int) (p q r : ByteArray) :
    Calls Try.prog 56 #[enV a b c k t n p q r] w fun e w' => e = .returned (.bool (decide (Rt a b c p q r))) ∧ Fr w w' (fun _ => False) := by
  unfold enV
  go_enter Try.func56, Try.ntmps56
  go_wp2
  all_goals go_ret
  all_goals refine ⟨?_, (Fr.refl w _).alloc _⟩
  all_goals first
    | exact ret_b (decide_eq_false (by unfold Rt; omega)).symm
    | exact ret_b (decide_eq_decide.2 (by unfold Rt; omega))

set_option maxRecDepth 100000 in
set_option maxHeartbeats 1600000 in
theorem refRight_calls (w : World) (a b c k t n : Int) (p q r : ByteArray) :
    Calls Try.prog 47 #[enV a b c k t n p q r] w fun e w' => e = .returned (.bool (decide (Rt a b c p q r))) ∧ Fr w w' (fun _ => False) := by
  unfold enV
  go_enter Try.func47, Try.ntmps47
  go_wp2
  all_goals go_ret
  all_goals refine ⟨?_, (Fr.refl w _).alloc _⟩
  all_goals first
    | exact ret_b (decide_eq_false (by unfold Rt; omega)).symm
    | exact ret_b (decide_eq_decide.2 (by unfold Rt; omega))

theorem cell_fr {w w' : World} {b o : Nat} {v : Value} (h : w.cell? ⟨b, o, none⟩ = some v) (hf : Fr w w' (fun _ => False)) : w'.cell? ⟨b, o, none⟩ = some v := by
  have hb : b < w.heap.size := by
    rcases Nat.lt_or_ge b w.heap.size with h1 | h1
    · exact h1
    · unfold World.cell? at h
      simp [Array.getElem?_eq_none h1] at h
  exact (World.cell?_of_block (hf.block b hb (fun x => x))).trans h
theorem keep9 {w0 w w' : World} {b : Nat} {v0 v1 v2 v3 v4 v5 v6 v7 v8 : Value} (hf : Fr w w' (fun _ => False)) (h : w.cell? ⟨b, 0, none⟩ = some v0 ∧ w.cell? ⟨b, 1, none⟩ = some v1 ∧ w.cell? ⟨b, 2, none⟩ = some v2 ∧ w.cell? ⟨b, 3, none⟩ = some v3 ∧ w.cell? ⟨b, 4, none⟩ = some v4 ∧ w.cell? ⟨b, 5, none⟩ = some v5 ∧ w.cell? ⟨b, 6, none⟩ = some v6 ∧ w.cell? ⟨b, 7, none⟩ = some v7 ∧ w.cell? ⟨b, 8, none⟩ = some v8 ∧ Fr w0 w (fun _ => False)) :
    w'.cell? ⟨b, 0, none⟩ = some v0 ∧ w'.cell? ⟨b, 1, none⟩ = some v1 ∧ w'.cell? ⟨b, 2, none⟩ = some v2 ∧ w'.cell? ⟨b, 3, none⟩ = some v3 ∧ w'.cell? ⟨b, 4, none⟩ = some v4 ∧ w'.cell? ⟨b, 5, none⟩ = some v5 ∧ w'.cell? ⟨b, 6, none⟩ = some v6 ∧ w'.cell? ⟨b, 7, none⟩ = some v7 ∧ w'.cell? ⟨b, 8, none⟩ = some v8 ∧ Fr w0 w' (fun _ => False) := by
  obtain ⟨h0, h1, h2, h3, h4, h5, h6, h7, h8, h9⟩ := h
  exact ⟨cell_fr h0 hf, cell_fr h1 hf, cell_fr h2 hf, cell_fr h3 hf, cell_fr h4 hf, cell_fr h5 hf, cell_fr h6 hf, cell_fr h7 hf, cell_fr h8 hf, h9.trans hf⟩

theorem keep9d {w0 w : World} {b : Nat} {v0 v1 v2 v3 v4 v5 v6 v7 v8 : Value} (h : w.cell? ⟨b, 0, none⟩ = some v0 ∧ w.cell? ⟨b, 1, none⟩ = some v1 ∧ w.cell? ⟨b, 2, none⟩ = some v2 ∧ w.cell? ⟨b, 3, none⟩ = some v3 ∧ w.cell? ⟨b, 4, none⟩ = some v4 ∧ w.cell? ⟨b, 5, none⟩ = some v5 ∧ w.cell? ⟨b, 6, none⟩ = some v6 ∧ w.cell? ⟨b, 7, none⟩ = some v7 ∧ w.cell? ⟨b, 8, none⟩ = some v8 ∧ Fr w0 w (fun _ => False)) :
    w.drew.cell? ⟨b, 0, none⟩ = some v0 ∧ w.drew.cell? ⟨b, 1, none⟩ = some v1 ∧ w.drew.cell? ⟨b, 2, none⟩ = some v2 ∧ w.drew.cell? ⟨b, 3, none⟩ = some v3 ∧ w.drew.cell? ⟨b, 4, none⟩ = some v4 ∧ w.drew.cell? ⟨b, 5, none⟩ = some v5 ∧ w.drew.cell? ⟨b, 6, none⟩ = some v6 ∧ w.drew.cell? ⟨b, 7, none⟩ = some v7 ∧ w.drew.cell? ⟨b, 8, none⟩ = some v8 ∧ Fr w0 w.drew (fun _ => False) := by
  obtain ⟨h0, h1, h2, h3, h4, h5, h6, h7, h8, h9⟩ := h
  exact ⟨h0, h1, h2, h3, h4, h5, h6, h7, h8, h9.drew⟩

theorem last9 {w0 w : World} {b : Nat} {v0 v1 v2 v3 v4 v5 v6 v7 v8 : Value} (h : w.cell? ⟨b, 0, none⟩ = some v0 ∧ w.cell? ⟨b, 1, none⟩ = some v1 ∧ w.cell? ⟨b, 2, none⟩ = some v2 ∧ w.cell? ⟨b, 3, none⟩ = some v3 ∧ w.cell? ⟨b, 4, none⟩ = some v4 ∧ w.cell? ⟨b, 5, none⟩ = some v5 ∧ w.cell? ⟨b, 6, none⟩ = some v6 ∧ w.cell? ⟨b, 7, none⟩ = some v7 ∧ w.cell? ⟨b, 8, none⟩ = some v8 ∧ Fr w0 w (fun _ => False)) : Fr w0 w (fun _ => False) := h.2.2.2.2.2.2.2.2.2

/-- An entry's bytes. -/
def enB (a b c k t n : Int) (p q r : ByteArray) : List UInt8 :=
  uv a.toNat ++ uv b.toNat ++ uv c.toNat ++ uv (zig k) ++ uv (zig t) ++ uv (zig n) ++ (uv p.size ++ p.data.toList) ++ (uv q.size ++ q.data.toList) ++ (uv r.size ++ r.data.toList)
def i64 (n : Int) : Prop := -9223372036854775808 ≤ n ∧ n < 9223372036854775808

set_option maxRecDepth 100000 in
set_option maxHeartbeats 1600000 in
theorem refEncode_no (w : World) (a b c k t n : Int) (p q r : ByteArray) (h : ¬ Rt a b c p q r) :
    Calls Try.prog 29 #[enV a b c k t n p q r] w fun e w' => e = .returned (.tuple #[.string ⟨#[]⟩, .int .i64 4]) ∧ Fr w w' (fun _ => False) := by
  have RC := hid (fun w => refRight_calls w a b c k t n p q r)
  rw [decide_eq_false h] at RC
  unfold enV at *
  clear h
  go_enter Try.func29, Try.ntmps29
  go_wp2_with fail
  refine (RC.out _).mono ?_
  rintro e w1 ⟨rfl, hf1⟩
  go_wp2
  go_ret2
  exact ⟨rfl, ((Fr.refl w _).alloc _).trans hf1⟩

set_option maxRecDepth 100000 in
set_option maxHeartbeats 1600000 in
theorem encode_no (w : World) (a b c k t n : Int) (p q r : ByteArray) (h : ¬ Rt a b c p q r) :
    Calls Try.prog 34 #[enV a b c k t n p q r] w fun e w' => e = .returned (.tuple #[.string ⟨#[]⟩, .int .i64 4]) ∧ Fr w w' (fun _ => False) := by
  have RC := hid (fun w => right_calls w a b c k t n p q r)
  rw [decide_eq_false h] at RC
  unfold enV at *
  clear h
  go_enter Try.func34, Try.ntmps34
  go_wp2_with fail
  refine (RC.out _).mono ?_
  rintro e w1 ⟨rfl, hf1⟩
  go_wp2
  go_ret2
  exact ⟨rfl, ((Fr.refl w _).alloc _).trans hf1⟩

set_option maxRecDepth 100000 in
set_option maxHeartbeats 3200000 in
theorem refEncode_yes (w : World) (a b c : Nat) (k t n : Int) (p q r : ByteArray) (h : Rt a b c p q r) (hk : i64 k) (ht : i64 t) (hn : i64 n) :
    Calls Try.prog 29 #[enV a b c k t n p q r] w fun e w' => e = .returned (.tuple #[.string ⟨(enB a b c k t n p q r).toArray⟩, .int .i64 0]) ∧ Fr w w' (fun _ => False) := by
  have RC := hid (fun w => refRight_calls w a b c k t n p q r)
  rw [decide_eq_true h] at RC
  unfold enV at *
  obtain ⟨⟨_, ha⟩, ⟨_, hb⟩, ⟨_, hc⟩, hp, hq, hr⟩ := h
  have UA := hid (fun w => refUint_calls w a (by omega))
  have UB := hid (fun w => refUint_calls w b (by omega))
  have UC := hid (fun w => refUint_calls w c (by omega))
  have IK := hid (fun w => refInt_calls w k hk.1 hk.2)
  have IT := hid (fun w => refInt_calls w t ht.1 ht.2)
  have IN := hid (fun w => refInt_calls w n hn.1 hn.2)
  have TP := hid (fun w => refText_calls w p (by omega))
  have TQ := hid (fun w => refText_calls w q (by omega))
  have TR := hid (fun w => refText_calls w r (by omega))
  have la := uv_len10 a (by omega)
  have lb := uv_len10 b (by omega)
  have lc := uv_len10 c (by omega)
  have lk := uv_len10 (zig k) (zig_lt k hk.1 hk.2)
  have lt := uv_len10 (zig t) (zig_lt t ht.1 ht.2)
  have ln := uv_len10 (zig n) (zig_lt n hn.1 hn.2)
  have lp := uv_len10 p.size (by omega)
  have lq := uv_len10 q.size (by omega)
  have lr := uv_len10 r.size (by omega)
  have ep : p.data.toList.length = p.size := by rw [Array.length_toList]; rfl
  have eq : q.data.toList.length = q.size := by rw [Array.length_toList]; rfl
  have er : r.data.toList.length = r.size := by rw [Array.length_toList]; rfl
  have hH : Hid (enB a b c k t n p q r = uv a ++ uv b ++ uv c ++ uv (zig k) ++ uv (zig t) ++ uv (zig n) ++ (uv p.size ++ p.data.toList) ++ (uv q.size ++ q.data.toList) ++ (uv r.size ++ r.data.toList)) := hid rfl
  rw [hH.out]
  generalize uv a = xa at *
  generalize uv b = xb at *
  generalize uv c = xc at *
  generalize uv (zig k) = xk at *
  generalize uv (zig t) = xt at *
  generalize uv (zig n) = xn at *
  have lp2 : (uv p.size ++ p.data.toList).length ≤ 5000 := by rw [List.length_append]; omega
  have lq2 : (uv q.size ++ q.data.toList).length ≤ 5000 := by rw [List.length_append]; omega
  have lr2 : (uv r.size ++ r.data.toList).length ≤ 5000 := by rw [List.length_append]; omega
  generalize uv p.size ++ p.data.toList = xp at *
  generalize uv q.size ++ q.data.toList = xq at *
  generalize uv r.size ++ r.data.toList = xr at *
  have LL := hid (And.intro la (And.intro lb (And.intro lc (And.intro lk (And.intro lt (And.intro ln (And.intro lp2 (And.intro lq2 lr2))))))))
  have g1 : ¬ 9223372036854775807 < xa.length + xb.length := by omega
  have g2 : ¬ 9223372036854775807 < xa.length + xb.length + xc.length := by omega
  have g3 : ¬ 9223372036854775807 < xa.length + xb.length + xc.length + xk.length := by omega
  have g4 : ¬ 9223372036854775807 < xa.length + xb.length + xc.length + xk.length + xt.length := by omega
  have g5 : ¬ 9223372036854775807 < xa.length + xb.length + xc.length + xk.length + xt.length + xn.length := by omega
  have g6 : ¬ 9223372036854775807 < xa.length + xb.length + xc.length + xk.length + xt.length + xn.length + xp.length := by omega
  have g7 : ¬ 9223372036854775807 < xa.length + xb.length + xc.length + xk.length + xt.length + xn.length + xp.length + xq.length := by omega
  have g8 : ¬ 9223372036854775807 < xa.length + xb.length + xc.length + xk.length + xt.length + xn.length + xp.length + xq.length + xr.length := by omega
  clear hH ha hb hc hp hq hr hk ht hn la lb lc lk lt ln lp lq lr ep eq er lp2 lq2 lr2
  go_enter Try.func29, Try.ntmps29
  go_wp2_with fail
  refine (RC.out _).mono ?_
  rintro e w1 ⟨rfl, hf1⟩
  have hx1 := hf1.at_ (alloc_new w _) (fun x => x)
  have d0 := cell_blk hx1 0
  have d1 := cell_blk hx1 1
  have d2 := cell_blk hx1 2
  have d3 := cell_blk hx1 3
  have d4 := cell_blk hx1 4
  have d5 := cell_blk hx1 5
  have d6 := cell_blk hx1 6
  have d7 := cell_blk hx1 7
  have d8 := cell_blk hx1 8
  simp only [List.getElem?_toArray, List.getElem?_cons_zero, List.getElem?_cons_succ] at d0 d1 d2 d3 d4 d5 d6 d7 d8
  have hA := ((Fr.refl w (fun _ => False)).alloc _).trans hf1
  clear hf1
  go_wp2_with fail
  go_region_held3 (fun w' => w'.cell? ⟨w.heap.size, 0, none⟩ = some (.int .i64 a) ∧ w'.cell? ⟨w.heap.size, 1, none⟩ = some (.int .i64 b) ∧ w'.cell? ⟨w.heap.size, 2, none⟩ = some (.int .i64 c) ∧ w'.cell? ⟨w.heap.size, 3, none⟩ = some (.int .i64 k) ∧ w'.cell? ⟨w.heap.size, 4, none⟩ = some (.int .i64 t) ∧ w'.cell? ⟨w.heap.size, 5, none⟩ = some (.int .i64 n) ∧ w'.cell? ⟨w.heap.size, 6, none⟩ = some (.string p) ∧ w'.cell? ⟨w.heap.size, 7, none⟩ = some (.string q) ∧ w'.cell? ⟨w.heap.size, 8, none⟩ = some (.string r) ∧ Fr w w' (fun _ => False)) (first | exact ⟨d0, d1, d2, d3, d4, d5, d6, d7, d8, hA.drew⟩ | exact keep9 (by assumption) (by assumption))
    (first
      | (go_at_call_of 28 (Value.int .i64 a); refine (UA.out _).mono ?_; rintro e w' ⟨rfl, hf⟩)
      | (go_at_call_of 28 (Value.int .i64 b); refine (UB.out _).mono ?_; rintro e w' ⟨rfl, hf⟩)
      | (go_at_call_of 28 (Value.int .i64 c); refine (UC.out _).mono ?_; rintro e w' ⟨rfl, hf⟩))
  clear d0 d1 d2 d3 d4 d5 d6 d7 d8 hA hx1
  go_wp2_with fail
  go_region_held3 (fun w' => w'.cell? ⟨w.heap.size, 0, none⟩ = some (.int .i64 a) ∧ w'.cell? ⟨w.heap.size, 1, none⟩ = some (.int .i64 b) ∧ w'.cell? ⟨w.heap.size, 2, none⟩ = some (.int .i64 c) ∧ w'.cell? ⟨w.heap.size, 3, none⟩ = some (.int .i64 k) ∧ w'.cell? ⟨w.heap.size, 4, none⟩ = some (.int .i64 t) ∧ w'.cell? ⟨w.heap.size, 5, none⟩ = some (.int .i64 n) ∧ w'.cell? ⟨w.heap.size, 6, none⟩ = some (.string p) ∧ w'.cell? ⟨w.heap.size, 7, none⟩ = some (.string q) ∧ w'.cell? ⟨w.heap.size, 8, none⟩ = some (.string r) ∧ Fr w w' (fun _ => False)) (first | exact keep9d (by assumption) | exact keep9 (by assumption) (by assumption))
    (first
      | (go_at_call_of 49 (Value.int .i64 k); refine (IK.out _).mono ?_; rintro e w' ⟨rfl, hf⟩)
      | (go_at_call_of 49 (Value.int .i64 t); refine (IT.out _).mono ?_; rintro e w' ⟨rfl, hf⟩)
      | (go_at_call_of 49 (Value.int .i64 n); refine (IN.out _).mono ?_; rintro e w' ⟨rfl, hf⟩))
  go_wp2_with fail
  go_region_held3 (fun w' => w'.cell? ⟨w.heap.size, 0, none⟩ = some (.int .i64 a) ∧ w'.cell? ⟨w.heap.size, 1, none⟩ = some (.int .i64 b) ∧ w'.cell? ⟨w.heap.size, 2, none⟩ = some (.int .i64 c) ∧ w'.cell? ⟨w.heap.size, 3, none⟩ = some (.int .i64 k) ∧ w'.cell? ⟨w.heap.size, 4, none⟩ = some (.int .i64 t) ∧ w'.cell? ⟨w.heap.size, 5, none⟩ = some (.int .i64 n) ∧ w'.cell? ⟨w.heap.size, 6, none⟩ = some (.string p) ∧ w'.cell? ⟨w.heap.size, 7, none⟩ = some (.string q) ∧ w'.cell? ⟨w.heap.size, 8, none⟩ = some (.string r) ∧ Fr w w' (fun _ => False)) (first | exact keep9d (by assumption) | exact keep9 (by assumption) (by assumption))
    (first
      | (go_at_call_of 50 (Value.string p); refine (TP.out _).mono ?_; rintro e w' ⟨rfl, hf⟩)
      | (go_at_call_of 50 (Value.string q); refine (TQ.out _).mono ?_; rintro e w' ⟨rfl, hf⟩)
      | (go_at_call_of 50 (Value.string r); refine (TR.out _).mono ?_; rintro e w' ⟨rfl, hf⟩))
  go_wp2_with fail
  go_ret2
  simp only [str_app]
  exact ⟨rfl, last9 (by assumption)⟩
end Go.Proofs.Ytmnmmmoeeapeiaa.Cw

