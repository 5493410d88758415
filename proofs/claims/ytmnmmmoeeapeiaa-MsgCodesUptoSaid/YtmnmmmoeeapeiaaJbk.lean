/- read: how it gives up, and what it reads. Own work (under way). -/
import Derived.Test.YtmnmmmoeeapeiaaJbf
namespace Go.Proofs.Ytmnmmmoeeapeiaa.Cw
open Go.RowKit
set_option linter.unusedVariables false
set_option linter.unusedSimpArgs false

set_option maxRecDepth 100000 in
theorem read_open (w : World) (s : ByteArray) (hs : s.size ≤ 70368744177664) (h : ¬ opE s = 0) :
    Calls Try.prog 25 #[.string s] w fun e w' => e = .panicked brk ∧ Fr w w' (fun _ => False) := by
  have OC := hid (fun (W : World) => open_calls W s hs)
  generalize opE s = E at *
  generalize opS s = O at *
  have e1 : (E == 0) = false := beq_eq_false_iff_ne.2 h
  clear h hs
  go_enter Try.func25, Try.ntmps25
  go_wp2_with (first
    | (go_at_call 40; refine (OC.out _).mono ?_; rintro e w1 ⟨rfl, hf1⟩)
    | (go_at_call 41; refine (must_no _).mono ?_; rintro e w2 ⟨rfl, rfl⟩))
  exact ⟨rfl, rfl, Fr.trans ((Fr.refl w _).alloc _) hf1⟩

theorem cell_ne {w w' : World} {b g : Nat} {v : Value} (h : w.cell? ⟨b, 0, none⟩ = some v) (hf : Fr w w' (fun i => i = g)) (hb : b < w.heap.size) (hn : ¬ b = g) : w'.cell? ⟨b, 0, none⟩ = some v :=
  (World.cell?_of_block (hf.block b hb hn)).trans h

set_option maxRecDepth 100000 in
set_option maxHeartbeats 3200000 in
theorem read_num1 (w : World) (s t : ByteArray) (ho : opE s = 0) (hs : s.size ≤ 70368744177664) (ht : opS s = t) (htz : t.size ≤ 70368744177664)  (vx x : Nat) (tx : ByteArray) (ex : Nat) (EX : rdN 9 127 t 0 = (vx, x, tx, ex)) (hx : ¬ x = 0) :
    Calls Try.prog 25 #[.string s] w fun e w' => e = .panicked brk ∧ Fr w w' (fun _ => False) := by
  have OC := hid (fun (W : World) => open_calls W s hs)
  rw [ho, ht] at OC
  have hmf : ∀ (fn : Fn) (first cap : Array Value) (w : World), (Instr.makeFunc fn first cap).run Try.prog w = .ok (.func fn first cap) w := fun _ _ _ _ => rfl
  have NX := hid (fun (W : World) (rc g : Nat) (hrc : W.cell? ⟨rc, 0, none⟩ = some (.pointer (some ⟨g, 0, none⟩))) (h : Rd W g t 0) => num_no W rc g t vx x tx ex hrc h (by unfold maxLen; omega) EX hx)
  clear ho hs ht EX hx
  go_enter Try.func25, Try.ntmps25
  go_wp2_with (first
    | (go_at_call 40; refine (OC.out _).mono ?_; rintro e w1 ⟨rfl, hf1⟩)
    | (go_at_call 41; refine (must_yes _).mono ?_; rintro e w2 ⟨rfl, rfl⟩)
    | (go_at_call 42; refine (of_calls _ t).mono ?_; rintro e w3 ⟨rfl, hr, hf3⟩))
  have hA3 := (Fr.trans ((Fr.refl w (fun _ => False)).alloc _) hf1).trans hf3
  have hgs := (Fr.trans ((Fr.refl w (fun _ => False)).alloc _) hf1).size
  have hlt := blk_lt hr
  have hrc0 := cell_blk (alloc_new w3 (.cells #[.pointer (some ⟨w2.heap.size, 0, none⟩)] 92)) 0
  simp only [List.getElem?_toArray, List.getElem?_cons_zero, List.getElem?_cons_succ] at hrc0
  have hr0 : Rd (w3.alloc (.cells #[.pointer (some ⟨w2.heap.size, 0, none⟩)] 92)) w2.heap.size t 0 := (Below.heap_alloc _ _ _ hlt).trans hr
  have hA0 := hA3.alloc (.cells #[.pointer (some ⟨w2.heap.size, 0, none⟩)] 92)
  have hl0 := blk_lt (alloc_new w3 (.cells #[.pointer (some ⟨w2.heap.size, 0, none⟩)] 92))
  have hne : ¬ w3.heap.size = w2.heap.size := by omega
  clear hA3 hf1 hf3 hr hlt
  generalize w3.alloc (.cells #[.pointer (some ⟨w2.heap.size, 0, none⟩)] 92) = u0 at *
  generalize w3.heap.size = rc at *
  generalize w2.heap.size = g at *
  refine (NX.out _ rc g hrc0 hr0).mono ?_
  rintro e ux ⟨rfl, hfx⟩
  exact ⟨rfl, rfl, hA0.fresh hfx (fun i hi => by subst hi; exact hgs)⟩

set_option maxRecDepth 100000 in
set_option maxHeartbeats 3200000 in
theorem read_num2 (w : World) (s t : ByteArray) (ho : opE s = 0) (hs : s.size ≤ 70368744177664) (ht : opS s = t) (htz : t.size ≤ 70368744177664) (v1 : Nat) (t1 : ByteArray) (E1 : rdN 9 127 t 0 = (v1, 0, t1, 0)) (vx x : Nat) (tx : ByteArray) (ex : Nat) (EX : rdN 9 127 t1 0 = (vx, x, tx, ex)) (hx : ¬ x = 0) :
    Calls Try.prog 25 #[.string s] w fun e w' => e = .panicked brk ∧ Fr w w' (fun _ => False) := by
  have OC := hid (fun (W : World) => open_calls W s hs)
  rw [ho, ht] at OC
  have hmf : ∀ (fn : Fn) (first cap : Array Value) (w : World), (Instr.makeFunc fn first cap).run Try.prog w = .ok (.func fn first cap) w := fun _ _ _ _ => rfl
  have z1 := rdN_size 9 127 t 0
  rw [E1] at z1
  simp only at z1
  have N1 := hid (fun (W : World) (rc g : Nat) (hrc : W.cell? ⟨rc, 0, none⟩ = some (.pointer (some ⟨g, 0, none⟩))) (h : Rd W g t 0) => num_yes W rc g t v1 t1 hrc h (by unfold maxLen; omega) E1)
  have NX := hid (fun (W : World) (rc g : Nat) (hrc : W.cell? ⟨rc, 0, none⟩ = some (.pointer (some ⟨g, 0, none⟩))) (h : Rd W g t1 0) => num_no W rc g t1 vx x tx ex hrc h (by unfold maxLen; omega) EX hx)
  clear ho hs ht EX hx E1 z1
  go_enter Try.func25, Try.ntmps25
  go_wp2_with (first
    | (go_at_call 40; refine (OC.out _).mono ?_; rintro e w1 ⟨rfl, hf1⟩)
    | (go_at_call 41; refine (must_yes _).mono ?_; rintro e w2 ⟨rfl, rfl⟩)
    | (go_at_call 42; refine (of_calls _ t).mono ?_; rintro e w3 ⟨rfl, hr, hf3⟩))
  have hA3 := (Fr.trans ((Fr.refl w (fun _ => False)).alloc _) hf1).trans hf3
  have hgs := (Fr.trans ((Fr.refl w (fun _ => False)).alloc _) hf1).size
  have hlt := blk_lt hr
  have hrc0 := cell_blk (alloc_new w3 (.cells #[.pointer (some ⟨w2.heap.size, 0, none⟩)] 92)) 0
  simp only [List.getElem?_toArray, List.getElem?_cons_zero, List.getElem?_cons_succ] at hrc0
  have hr0 : Rd (w3.alloc (.cells #[.pointer (some ⟨w2.heap.size, 0, none⟩)] 92)) w2.heap.size t 0 := (Below.heap_alloc _ _ _ hlt).trans hr
  have hA0 := hA3.alloc (.cells #[.pointer (some ⟨w2.heap.size, 0, none⟩)] 92)
  have hl0 := blk_lt (alloc_new w3 (.cells #[.pointer (some ⟨w2.heap.size, 0, none⟩)] 92))
  have hne : ¬ w3.heap.size = w2.heap.size := by omega
  clear hA3 hf1 hf3 hr hlt
  generalize w3.alloc (.cells #[.pointer (some ⟨w2.heap.size, 0, none⟩)] 92) = u0 at *
  generalize w3.heap.size = rc at *
  generalize w2.heap.size = g at *
  refine (N1.out _ rc g hrc0 hr0).mono ?_
  rintro e u1 ⟨rfl, hr1, hf1⟩
  have hrc1 := cell_ne hrc0 hf1 hl0 hne
  have hl1 : rc < u1.heap.size := Nat.lt_of_lt_of_le hl0 hf1.size
  have hA1 := hA0.fresh hf1 (fun i hi => by subst hi; exact hgs)
  clear hrc0 hr0 hf1 hl0 hA0
  go_wp2_with fail
  refine (NX.out _ rc g hrc1 hr1).mono ?_
  rintro e ux ⟨rfl, hfx⟩
  exact ⟨rfl, rfl, hA1.fresh hfx (fun i hi => by subst hi; exact hgs)⟩

set_option maxRecDepth 100000 in
set_option maxHeartbeats 3200000 in
theorem read_num3 (w : World) (s t : ByteArray) (ho : opE s = 0) (hs : s.size ≤ 70368744177664) (ht : opS s = t) (htz : t.size ≤ 70368744177664) (v1 v2 : Nat) (t1 t2 : ByteArray) (E1 : rdN 9 127 t 0 = (v1, 0, t1, 0)) (E2 : rdN 9 127 t1 0 = (v2, 0, t2, 0)) (vx x : Nat) (tx : ByteArray) (ex : Nat) (EX : rdN 9 127 t2 0 = (vx, x, tx, ex)) (hx : ¬ x = 0) :
    Calls Try.prog 25 #[.string s] w fun e w' => e = .panicked brk ∧ Fr w w' (fun _ => False) := by
  have OC := hid (fun (W : World) => open_calls W s hs)
  rw [ho, ht] at OC
  have hmf : ∀ (fn : Fn) (first cap : Array Value) (w : World), (Instr.makeFunc fn first cap).run Try.prog w = .ok (.func fn first cap) w := fun _ _ _ _ => rfl
  have z1 := rdN_size 9 127 t 0
  rw [E1] at z1
  simp only at z1
  have N1 := hid (fun (W : World) (rc g : Nat) (hrc : W.cell? ⟨rc, 0, none⟩ = some (.pointer (some ⟨g, 0, none⟩))) (h : Rd W g t 0) => num_yes W rc g t v1 t1 hrc h (by unfold maxLen; omega) E1)
  have z2 := rdN_size 9 127 t1 0
  rw [E2] at z2
  simp only at z2
  have N2 := hid (fun (W : World) (rc g : Nat) (hrc : W.cell? ⟨rc, 0, none⟩ = some (.pointer (some ⟨g, 0, none⟩))) (h : Rd W g t1 0) => num_yes W rc g t1 v2 t2 hrc h (by unfold maxLen; omega) E2)
  have NX := hid (fun (W : World) (rc g : Nat) (hrc : W.cell? ⟨rc, 0, none⟩ = some (.pointer (some ⟨g, 0, none⟩))) (h : Rd W g t2 0) => num_no W rc g t2 vx x tx ex hrc h (by unfold maxLen; omega) EX hx)
  clear ho hs ht EX hx E1 z1 E2 z2
  go_enter Try.func25, Try.ntmps25
  go_wp2_with (first
    | (go_at_call 40; refine (OC.out _).mono ?_; rintro e w1 ⟨rfl, hf1⟩)
    | (go_at_call 41; refine (must_yes _).mono ?_; rintro e w2 ⟨rfl, rfl⟩)
    | (go_at_call 42; refine (of_calls _ t).mono ?_; rintro e w3 ⟨rfl, hr, hf3⟩))
  have hA3 := (Fr.trans ((Fr.refl w (fun _ => False)).alloc _) hf1).trans hf3
  have hgs := (Fr.trans ((Fr.refl w (fun _ => False)).alloc _) hf1).size
  have hlt := blk_lt hr
  have hrc0 := cell_blk (alloc_new w3 (.cells #[.pointer (some ⟨w2.heap.size, 0, none⟩)] 92)) 0
  simp only [List.getElem?_toArray, List.getElem?_cons_zero, List.getElem?_cons_succ] at hrc0
  have hr0 : Rd (w3.alloc (.cells #[.pointer (some ⟨w2.heap.size, 0, none⟩)] 92)) w2.heap.size t 0 := (Below.heap_alloc _ _ _ hlt).trans hr
  have hA0 := hA3.alloc (.cells #[.pointer (some ⟨w2.heap.size, 0, none⟩)] 92)
  have hl0 := blk_lt (alloc_new w3 (.cells #[.pointer (some ⟨w2.heap.size, 0, none⟩)] 92))
  have hne : ¬ w3.heap.size = w2.heap.size := by omega
  clear hA3 hf1 hf3 hr hlt
  generalize w3.alloc (.cells #[.pointer (some ⟨w2.heap.size, 0, none⟩)] 92) = u0 at *
  generalize w3.heap.size = rc at *
  generalize w2.heap.size = g at *
  refine (N1.out _ rc g hrc0 hr0).mono ?_
  rintro e u1 ⟨rfl, hr1, hf1⟩
  have hrc1 := cell_ne hrc0 hf1 hl0 hne
  have hl1 : rc < u1.heap.size := Nat.lt_of_lt_of_le hl0 hf1.size
  have hA1 := hA0.fresh hf1 (fun i hi => by subst hi; exact hgs)
  clear hrc0 hr0 hf1 hl0 hA0
  go_wp2_with fail
  refine (N2.out _ rc g hrc1 hr1).mono ?_
  rintro e u2 ⟨rfl, hr2, hf2⟩
  have hrc2 := cell_ne hrc1 hf2 hl1 hne
  have hl2 : rc < u2.heap.size := Nat.lt_of_lt_of_le hl1 hf2.size
  have hA2 := hA1.fresh hf2 (fun i hi => by subst hi; exact hgs)
  clear hrc1 hr1 hf2 hl1 hA1
  go_wp2_with fail
  refine (NX.out _ rc g hrc2 hr2).mono ?_
  rintro e ux ⟨rfl, hfx⟩
  exact ⟨rfl, rfl, hA2.fresh hfx (fun i hi => by subst hi; exact hgs)⟩

set_option maxRecDepth 100000 in
set_option maxHeartbeats 3200000 in
theorem read_num4 (w : World) (s t : ByteArray) (ho : opE s = 0) (hs : s.size ≤ 70368744177664) (ht : opS s = t) (htz : t.size ≤ 70368744177664) (v1 v2 v3 : Nat) (t1 t2 t3 : ByteArray) (E1 : rdN 9 127 t 0 = (v1, 0, t1, 0)) (E2 : rdN 9 127 t1 0 = (v2, 0, t2, 0)) (E3 : rdN 9 127 t2 0 = (v3, 0, t3, 0)) (vx x : Nat) (tx : ByteArray) (ex : Nat) (EX : rdN 9 127 t3 0 = (vx, x, tx, ex)) (hx : ¬ x = 0) :
    Calls Try.prog 25 #[.string s] w fun e w' => e = .panicked brk ∧ Fr w w' (fun _ => False) := by
  have OC := hid (fun (W : World) => open_calls W s hs)
  rw [ho, ht] at OC
  have hmf : ∀ (fn : Fn) (first cap : Array Value) (w : World), (Instr.makeFunc fn first cap).run Try.prog w = .ok (.func fn first cap) w := fun _ _ _ _ => rfl
  have z1 := rdN_size 9 127 t 0
  rw [E1] at z1
  simp only at z1
  have N1 := hid (fun (W : World) (rc g : Nat) (hrc : W.cell? ⟨rc, 0, none⟩ = some (.pointer (some ⟨g, 0, none⟩))) (h : Rd W g t 0) => num_yes W rc g t v1 t1 hrc h (by unfold maxLen; omega) E1)
  have z2 := rdN_size 9 127 t1 0
  rw [E2] at z2
  simp only at z2
  have N2 := hid (fun (W : World) (rc g : Nat) (hrc : W.cell? ⟨rc, 0, none⟩ = some (.pointer (some ⟨g, 0, none⟩))) (h : Rd W g t1 0) => num_yes W rc g t1 v2 t2 hrc h (by unfold maxLen; omega) E2)
  have z3 := rdN_size 9 127 t2 0
  rw [E3] at z3
  simp only at z3
  have N3 := hid (fun (W : World) (rc g : Nat) (hrc : W.cell? ⟨rc, 0, none⟩ = some (.pointer (some ⟨g, 0, none⟩))) (h : Rd W g t2 0) => num_yes W rc g t2 v3 t3 hrc h (by unfold maxLen; omega) E3)
  have NX := hid (fun (W : World) (rc g : Nat) (hrc : W.cell? ⟨rc, 0, none⟩ = some (.pointer (some ⟨g, 0, none⟩))) (h : Rd W g t3 0) => num_no W rc g t3 vx x tx ex hrc h (by unfold maxLen; omega) EX hx)
  clear ho hs ht EX hx E1 z1 E2 z2 E3 z3
  go_enter Try.func25, Try.ntmps25
  go_wp2_with (first
    | (go_at_call 40; refine (OC.out _).mono ?_; rintro e w1 ⟨rfl, hf1⟩)
    | (go_at_call 41; refine (must_yes _).mono ?_; rintro e w2 ⟨rfl, rfl⟩)
    | (go_at_call 42; refine (of_calls _ t).mono ?_; rintro e w3 ⟨rfl, hr, hf3⟩))
  have hA3 := (Fr.trans ((Fr.refl w (fun _ => False)).alloc _) hf1).trans hf3
  have hgs := (Fr.trans ((Fr.refl w (fun _ => False)).alloc _) hf1).size
  have hlt := blk_lt hr
  have hrc0 := cell_blk (alloc_new w3 (.cells #[.pointer (some ⟨w2.heap.size, 0, none⟩)] 92)) 0
  simp only [List.getElem?_toArray, List.getElem?_cons_zero, List.getElem?_cons_succ] at hrc0
  have hr0 : Rd (w3.alloc (.cells #[.pointer (some ⟨w2.heap.size, 0, none⟩)] 92)) w2.heap.size t 0 := (Below.heap_alloc _ _ _ hlt).trans hr
  have hA0 := hA3.alloc (.cells #[.pointer (some ⟨w2.heap.size, 0, none⟩)] 92)
  have hl0 := blk_lt (alloc_new w3 (.cells #[.pointer (some ⟨w2.heap.size, 0, none⟩)] 92))
  have hne : ¬ w3.heap.size = w2.heap.size := by omega
  clear hA3 hf1 hf3 hr hlt
  generalize w3.alloc (.cells #[.pointer (some ⟨w2.heap.size, 0, none⟩)] 92) = u0 at *
  generalize w3.heap.size = rc at *
  generalize w2.heap.size = g at *
  refine (N1.out _ rc g hrc0 hr0).mono ?_
  rintro e u1 ⟨rfl, hr1, hf1⟩
  have hrc1 := cell_ne hrc0 hf1 hl0 hne
  have hl1 : rc < u1.heap.size := Nat.lt_of_lt_of_le hl0 hf1.size
  have hA1 := hA0.fresh hf1 (fun i hi => by subst hi; exact hgs)
  clear hrc0 hr0 hf1 hl0 hA0
  go_wp2_with fail
  refine (N2.out _ rc g hrc1 hr1).mono ?_
  rintro e u2 ⟨rfl, hr2, hf2⟩
  have hrc2 := cell_ne hrc1 hf2 hl1 hne
  have hl2 : rc < u2.heap.size := Nat.lt_of_lt_of_le hl1 hf2.size
  have hA2 := hA1.fresh hf2 (fun i hi => by subst hi; exact hgs)
  clear hrc1 hr1 hf2 hl1 hA1
  go_wp2_with fail
  refine (N3.out _ rc g hrc2 hr2).mono ?_
  rintro e u3 ⟨rfl, hr3, hf3⟩
  have hrc3 := cell_ne hrc2 hf3 hl2 hne
  have hl3 : rc < u3.heap.size := Nat.lt_of_lt_of_le hl2 hf3.size
  have hA3 := hA2.fresh hf3 (fun i hi => by subst hi; exact hgs)
  clear hrc2 hr2 hf3 hl2 hA2
  go_wp2_with fail
  refine (NX.out _ rc g hrc3 hr3).mono ?_
  rintro e ux ⟨rfl, hfx⟩
  exact ⟨rfl, rfl, hA3.fresh hfx (fun i hi => by subst hi; exact hgs)⟩

set_option maxRecDepth 100000 in
set_option maxHeartbeats 3200000 in
theorem read_num5 (w : World) (s t : ByteArray) (ho : opE s = 0) (hs : s.size ≤ 70368744177664) (ht : opS s = t) (htz : t.size ≤ 70368744177664) (v1 v2 v3 v4 : Nat) (t1 t2 t3 t4 : ByteArray) (E1 : rdN 9 127 t 0 = (v1, 0, t1, 0)) (E2 : rdN 9 127 t1 0 = (v2, 0, t2, 0)) (E3 : rdN 9 127 t2 0 = (v3, 0, t3, 0)) (E4 : rdN 9 127 t3 0 = (v4, 0, t4, 0)) (vx x : Nat) (tx : ByteArray) (ex : Nat) (EX : rdN 9 127 t4 0 = (vx, x, tx, ex)) (hx : ¬ x = 0) :
    Calls Try.prog 25 #[.string s] w fun e w' => e = .panicked brk ∧ Fr w w' (fun _ => False) := by
  have OC := hid (fun (W : World) => open_calls W s hs)
  rw [ho, ht] at OC
  have hmf : ∀ (fn : Fn) (first cap : Array Value) (w : World), (Instr.makeFunc fn first cap).run Try.prog w = .ok (.func fn first cap) w := fun _ _ _ _ => rfl
  have z1 := rdN_size 9 127 t 0
  rw [E1] at z1
  simp only at z1
  have N1 := hid (fun (W : World) (rc g : Nat) (hrc : W.cell? ⟨rc, 0, none⟩ = some (.pointer (some ⟨g, 0, none⟩))) (h : Rd W g t 0) => num_yes W rc g t v1 t1 hrc h (by unfold maxLen; omega) E1)
  have z2 := rdN_size 9 127 t1 0
  rw [E2] at z2
  simp only at z2
  have N2 := hid (fun (W : World) (rc g : Nat) (hrc : W.cell? ⟨rc, 0, none⟩ = some (.pointer (some ⟨g, 0, none⟩))) (h : Rd W g t1 0) => num_yes W rc g t1 v2 t2 hrc h (by unfold maxLen; omega) E2)
  have z3 := rdN_size 9 127 t2 0
  rw [E3] at z3
  simp only at z3
  have N3 := hid (fun (W : World) (rc g : Nat) (hrc : W.cell? ⟨rc, 0, none⟩ = some (.pointer (some ⟨g, 0, none⟩))) (h : Rd W g t2 0) => num_yes W rc g t2 v3 t3 hrc h (by unfold maxLen; omega) E3)
  have z4 := rdN_size 9 127 t3 0
  rw [E4] at z4
  simp only at z4
  have N4 := hid (fun (W : World) (rc g : Nat) (hrc : W.cell? ⟨rc, 0, none⟩ = some (.pointer (some ⟨g, 0, none⟩))) (h : Rd W g t3 0) => num_yes W rc g t3 v4 t4 hrc h (by unfold maxLen; omega) E4)
  have NX := hid (fun (W : World) (rc g : Nat) (hrc : W.cell? ⟨rc, 0, none⟩ = some (.pointer (some ⟨g, 0, none⟩))) (h : Rd W g t4 0) => num_no W rc g t4 vx x tx ex hrc h (by unfold maxLen; omega) EX hx)
  clear ho hs ht EX hx E1 z1 E2 z2 E3 z3 E4 z4
  go_enter Try.func25, Try.ntmps25
  go_wp2_with (first
    | (go_at_call 40; refine (OC.out _).mono ?_; rintro e w1 ⟨rfl, hf1⟩)
    | (go_at_call 41; refine (must_yes _).mono ?_; rintro e w2 ⟨rfl, rfl⟩)
    | (go_at_call 42; refine (of_calls _ t).mono ?_; rintro e w3 ⟨rfl, hr, hf3⟩))
  have hA3 := (Fr.trans ((Fr.refl w (fun _ => False)).alloc _) hf1).trans hf3
  have hgs := (Fr.trans ((Fr.refl w (fun _ => False)).alloc _) hf1).size
  have hlt := blk_lt hr
  have hrc0 := cell_blk (alloc_new w3 (.cells #[.pointer (some ⟨w2.heap.size, 0, none⟩)] 92)) 0
  simp only [List.getElem?_toArray, List.getElem?_cons_zero, List.getElem?_cons_succ] at hrc0
  have hr0 : Rd (w3.alloc (.cells #[.pointer (some ⟨w2.heap.size, 0, none⟩)] 92)) w2.heap.size t 0 := (Below.heap_alloc _ _ _ hlt).trans hr
  have hA0 := hA3.alloc (.cells #[.pointer (some ⟨w2.heap.size, 0, none⟩)] 92)
  have hl0 := blk_lt (alloc_new w3 (.cells #[.pointer (some ⟨w2.heap.size, 0, none⟩)] 92))
  have hne : ¬ w3.heap.size = w2.heap.size := by omega
  clear hA3 hf1 hf3 hr hlt
  generalize w3.alloc (.cells #[.pointer (some ⟨w2.heap.size, 0, none⟩)] 92) = u0 at *
  generalize w3.heap.size = rc at *
  generalize w2.heap.size = g at *
  refine (N1.out _ rc g hrc0 hr0).mono ?_
  rintro e u1 ⟨rfl, hr1, hf1⟩
  have hrc1 := cell_ne hrc0 hf1 hl0 hne
  have hl1 : rc < u1.heap.size := Nat.lt_of_lt_of_le hl0 hf1.size
  have hA1 := hA0.fresh hf1 (fun i hi => by subst hi; exact hgs)
  clear hrc0 hr0 hf1 hl0 hA0
  go_wp2_with fail
  refine (N2.out _ rc g hrc1 hr1).mono ?_
  rintro e u2 ⟨rfl, hr2, hf2⟩
  have hrc2 := cell_ne hrc1 hf2 hl1 hne
  have hl2 : rc < u2.heap.size := Nat.lt_of_lt_of_le hl1 hf2.size
  have hA2 := hA1.fresh hf2 (fun i hi => by subst hi; exact hgs)
  clear hrc1 hr1 hf2 hl1 hA1
  go_wp2_with fail
  refine (N3.out _ rc g hrc2 hr2).mono ?_
  rintro e u3 ⟨rfl, hr3, hf3⟩
  have hrc3 := cell_ne hrc2 hf3 hl2 hne
  have hl3 : rc < u3.heap.size := Nat.lt_of_lt_of_le hl2 hf3.size
  have hA3 := hA2.fresh hf3 (fun i hi => by subst hi; exact hgs)
  clear hrc2 hr2 hf3 hl2 hA2
  go_wp2_with fail
  refine (N4.out _ rc g hrc3 hr3).mono ?_
  rintro e u4 ⟨rfl, hr4, hf4⟩
  have hrc4 := cell_ne hrc3 hf4 hl3 hne
  have hl4 : rc < u4.heap.size := Nat.lt_of_lt_of_le hl3 hf4.size
  have hA4 := hA3.fresh hf4 (fun i hi => by subst hi; exact hgs)
  clear hrc3 hr3 hf4 hl3 hA3
  go_wp2_with fail
  refine (NX.out _ rc g hrc4 hr4).mono ?_
  rintro e ux ⟨rfl, hfx⟩
  exact ⟨rfl, rfl, hA4.fresh hfx (fun i hi => by subst hi; exact hgs)⟩

set_option maxRecDepth 100000 in
set_option maxHeartbeats 3200000 in
theorem read_num6 (w : World) (s t : ByteArray) (ho : opE s = 0) (hs : s.size ≤ 70368744177664) (ht : opS s = t) (htz : t.size ≤ 70368744177664) (v1 v2 v3 v4 v5 : Nat) (t1 t2 t3 t4 t5 : ByteArray) (E1 : rdN 9 127 t 0 = (v1, 0, t1, 0)) (E2 : rdN 9 127 t1 0 = (v2, 0, t2, 0)) (E3 : rdN 9 127 t2 0 = (v3, 0, t3, 0)) (E4 : rdN 9 127 t3 0 = (v4, 0, t4, 0)) (E5 : rdN 9 127 t4 0 = (v5, 0, t5, 0)) (vx x : Nat) (tx : ByteArray) (ex : Nat) (EX : rdN 9 127 t5 0 = (vx, x, tx, ex)) (hx : ¬ x = 0) :
    Calls Try.prog 25 #[.string s] w fun e w' => e = .panicked brk ∧ Fr w w' (fun _ => False) := by
  have OC := hid (fun (W : World) => open_calls W s hs)
  rw [ho, ht] at OC
  have hmf : ∀ (fn : Fn) (first cap : Array Value) (w : World), (Instr.makeFunc fn first cap).run Try.prog w = .ok (.func fn first cap) w := fun _ _ _ _ => rfl
  have z1 := rdN_size 9 127 t 0
  rw [E1] at z1
  simp only at z1
  have N1 := hid (fun (W : World) (rc g : Nat) (hrc : W.cell? ⟨rc, 0, none⟩ = some (.pointer (some ⟨g, 0, none⟩))) (h : Rd W g t 0) => num_yes W rc g t v1 t1 hrc h (by unfold maxLen; omega) E1)
  have z2 := rdN_size 9 127 t1 0
  rw [E2] at z2
  simp only at z2
  have N2 := hid (fun (W : World) (rc g : Nat) (hrc : W.cell? ⟨rc, 0, none⟩ = some (.pointer (some ⟨g, 0, none⟩))) (h : Rd W g t1 0) => num_yes W rc g t1 v2 t2 hrc h (by unfold maxLen; omega) E2)
  have z3 := rdN_size 9 127 t2 0
  rw [E3] at z3
  simp only at z3
  have N3 := hid (fun (W : World) (rc g : Nat) (hrc : W.cell? ⟨rc, 0, none⟩ = some (.pointer (some ⟨g, 0, none⟩))) (h : Rd W g t2 0) => num_yes W rc g t2 v3 t3 hrc h (by unfold maxLen; omega) E3)
  have z4 := rdN_size 9 127 t3 0
  rw [E4] at z4
  simp only at z4
  have N4 := hid (fun (W : World) (rc g : Nat) (hrc : W.cell? ⟨rc, 0, none⟩ = some (.pointer (some ⟨g, 0, none⟩))) (h : Rd W g t3 0) => num_yes W rc g t3 v4 t4 hrc h (by unfold maxLen; omega) E4)
  have z5 := rdN_size 9 127 t4 0
  rw [E5] at z5
  simp only at z5
  have N5 := hid (fun (W : World) (rc g : Nat) (hrc : W.cell? ⟨rc, 0, none⟩ = some (.pointer (some ⟨g, 0, none⟩))) (h : Rd W g t4 0) => num_yes W rc g t4 v5 t5 hrc h (by unfold maxLen; omega) E5)
  have NX := hid (fun (W : World) (rc g : Nat) (hrc : W.cell? ⟨rc, 0, none⟩ = some (.pointer (some ⟨g, 0, none⟩))) (h : Rd W g t5 0) => num_no W rc g t5 vx x tx ex hrc h (by unfold maxLen; omega) EX hx)
  clear ho hs ht EX hx E1 z1 E2 z2 E3 z3 E4 z4 E5 z5
  go_enter Try.func25, Try.ntmps25
  go_wp2_with (first
    | (go_at_call 40; refine (OC.out _).mono ?_; rintro e w1 ⟨rfl, hf1⟩)
    | (go_at_call 41; refine (must_yes _).mono ?_; rintro e w2 ⟨rfl, rfl⟩)
    | (go_at_call 42; refine (of_calls _ t).mono ?_; rintro e w3 ⟨rfl, hr, hf3⟩))
  have hA3 := (Fr.trans ((Fr.refl w (fun _ => False)).alloc _) hf1).trans hf3
  have hgs := (Fr.trans ((Fr.refl w (fun _ => False)).alloc _) hf1).size
  have hlt := blk_lt hr
  have hrc0 := cell_blk (alloc_new w3 (.cells #[.pointer (some ⟨w2.heap.size, 0, none⟩)] 92)) 0
  simp only [List.getElem?_toArray, List.getElem?_cons_zero, List.getElem?_cons_succ] at hrc0
  have hr0 : Rd (w3.alloc (.cells #[.pointer (some ⟨w2.heap.size, 0, none⟩)] 92)) w2.heap.size t 0 := (Below.heap_alloc _ _ _ hlt).trans hr
  have hA0 := hA3.alloc (.cells #[.pointer (some ⟨w2.heap.size, 0, none⟩)] 92)
  have hl0 := blk_lt (alloc_new w3 (.cells #[.pointer (some ⟨w2.heap.size, 0, none⟩)] 92))
  have hne : ¬ w3.heap.size = w2.heap.size := by omega
  clear hA3 hf1 hf3 hr hlt
  generalize w3.alloc (.cells #[.pointer (some ⟨w2.heap.size, 0, none⟩)] 92) = u0 at *
  generalize w3.heap.size = rc at *
  generalize w2.heap.size = g at *
  refine (N1.out _ rc g hrc0 hr0).mono ?_
  rintro e u1 ⟨rfl, hr1, hf1⟩
  have hrc1 := cell_ne hrc0 hf1 hl0 hne
  have hl1 : rc < u1.heap.size := Nat.lt_of_lt_of_le hl0 hf1.size
  have hA1 := hA0.fresh hf1 (fun i hi => by subst hi; exact hgs)
  clear hrc0 hr0 hf1 hl0 hA0
  go_wp2_with fail
  refine (N2.out _ rc g hrc1 hr1).mono ?_
  rintro e u2 ⟨rfl, hr2, hf2⟩
  have hrc2 := cell_ne hrc1 hf2 hl1 hne
  have hl2 : rc < u2.heap.size := Nat.lt_of_lt_of_le hl1 hf2.size
  have hA2 := hA1.fresh hf2 (fun i hi => by subst hi; exact hgs)
  clear hrc1 hr1 hf2 hl1 hA1
  go_wp2_with fail
  refine (N3.out _ rc g hrc2 hr2).mono ?_
  rintro e u3 ⟨rfl, hr3, hf3⟩
  have hrc3 := cell_ne hrc2 hf3 hl2 hne
  have hl3 : rc < u3.heap.size := Nat.lt_of_lt_of_le hl2 hf3.size
  have hA3 := hA2.fresh hf3 (fun i hi => by subst hi; exact hgs)
  clear hrc2 hr2 hf3 hl2 hA2
  go_wp2_with fail
  refine (N4.out _ rc g hrc3 hr3).mono ?_
  rintro e u4 ⟨rfl, hr4, hf4⟩
  have hrc4 := cell_ne hrc3 hf4 hl3 hne
  have hl4 : rc < u4.heap.size := Nat.lt_of_lt_of_le hl3 hf4.size
  have hA4 := hA3.fresh hf4 (fun i hi => by subst hi; exact hgs)
  clear hrc3 hr3 hf4 hl3 hA3
  go_wp2_with fail
  refine (N5.out _ rc g hrc4 hr4).mono ?_
  rintro e u5 ⟨rfl, hr5, hf5⟩
  have hrc5 := cell_ne hrc4 hf5 hl4 hne
  have hl5 : rc < u5.heap.size := Nat.lt_of_lt_of_le hl4 hf5.size
  have hA5 := hA4.fresh hf5 (fun i hi => by subst hi; exact hgs)
  clear hrc4 hr4 hf5 hl4 hA4
  go_wp2_with fail
  have hmb := alloc_new u5 (.cells #[.int .i64 v1, .int .i64 v2, .int .i64 v3, .int .i64 v4, .int .i64 v5, .slice none 0 0] 24)
  have hrc5 := (World.cell?_of_block (Below.heap_alloc u5 (.cells #[.int .i64 v1, .int .i64 v2, .int .i64 v3, .int .i64 v4, .int .i64 v5, .slice none 0 0] 24) rc hl5)).trans hrc5
  have hr5 : Rd (u5.alloc (.cells #[.int .i64 v1, .int .i64 v2, .int .i64 v3, .int .i64 v4, .int .i64 v5, .slice none 0 0] 24)) g t5 0 := (Below.heap_alloc _ _ _ (blk_lt hr5)).trans hr5
  have hl5 : rc < (u5.alloc (.cells #[.int .i64 v1, .int .i64 v2, .int .i64 v3, .int .i64 v4, .int .i64 v5, .slice none 0 0] 24)).heap.size := by simp; omega
  have hA5 := hA5.alloc (.cells #[.int .i64 v1, .int .i64 v2, .int .i64 v3, .int .i64 v4, .int .i64 v5, .slice none 0 0] 24)
  generalize u5.alloc (.cells #[.int .i64 v1, .int .i64 v2, .int .i64 v3, .int .i64 v4, .int .i64 v5, .slice none 0 0] 24) = um at *
  refine (NX.out _ rc g hrc5 hr5).mono ?_
  rintro e ux ⟨rfl, hfx⟩
  exact ⟨rfl, rfl, hA5.fresh hfx (fun i hi => by subst hi; exact hgs)⟩

end Go.Proofs.Ytmnmmmoeeapeiaa.Cw

