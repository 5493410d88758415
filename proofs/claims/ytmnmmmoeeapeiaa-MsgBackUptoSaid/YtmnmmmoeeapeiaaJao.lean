/- The reference's Reader: Text. Own work. -/
import Derived.Test.YtmnmmmoeeapeiaaJan
import Derived.Test.YtmnmmmoeeapeiaaJal
import Derived.Deep.MidRow
namespace Go.Proofs.Ytmnmmmoeeapeiaa.Cw
open Go.RowKit
set_option linter.unusedVariables false
set_option linter.unusedSimpArgs false

theorem Fr.setg {a b : World} {g : Nat} (h : Fr a b (fun i => i = g)) (o : Nat) (u : Value) : Fr a (b.setCell ⟨g, o, none⟩ u) (fun i => i = g) := Fr.set (S := fun i => i = g) h ⟨g, o, none⟩ (fun _ => rfl) u

theorem ext_head (s : ByteArray) (k n : Nat) (h : k + n ≤ s.size) : (s.extract k s.size).extract 0 n = s.extract k (k + n) := by
  rw [ByteArray.extract_extract]
  congr 1
  omega
theorem ext_tail (s : ByteArray) (k n : Nat) (h : k + n ≤ s.size) : (s.extract k s.size).extract n (s.size - k) = s.extract (k + n) s.size := by
  rw [ByteArray.extract_extract]
  congr 1
  omega

theorem qText_neg (w : World) (g : Nat) (n : Int) (h : n < 0) :
    Calls Try.prog 55 #[.pointer (some ⟨g, 0, none⟩), .int .i64 n] w fun e w' => e = .returned (.tuple #[.string ⟨#[]⟩, .int .i64 1]) ∧ w = w' := by
  go_enter Try.func55, Try.ntmps55
  go_wp2
  go_ret2
  exact ⟨rfl, rfl⟩

set_option maxRecDepth 100000 in
set_option maxHeartbeats 3200000 in
theorem qText_calls (w : World) (g : Nat) (s : ByteArray) (x : Nat) (most : Int) (hlo : -9223372036854775808 ≤ most) (hhi : most < 9223372036854775808) (h : RR w g s x) (hs : s.size ≤ maxLen) :
    Calls Try.prog 55 #[.pointer (some ⟨g, 0, none⟩), .int .i64 most] w fun e w' => e = .returned (.tuple #[.string (rdT most s x).1, .int .i64 (rdT most s x).2.1]) ∧ RR w' g (rdT most s x).2.2.1 (rdT most s x).2.2.2 ∧ Fr w w' (fun i => i = g) := by
  by_cases hneg : most < 0
  · have HR : rdT most s x = (⟨#[]⟩, 1, s, x) := if_pos hneg
    rw [HR]
    refine (qText_neg w g most hneg).mono ?_
    rintro e w' ⟨rfl, rfl⟩
    exact ⟨rfl, h, Fr.refl w _⟩
  have hpos : 0 ≤ most := by omega
  obtain ⟨m, rfl⟩ := Int.eq_ofNat_of_zero_le hpos
  have hm63 : m ≤ 2 ^ 63 - 1 := by omega
  clear hneg hlo hhi
  have h0 := h.c0
  have HQ := qUint_calls w g s x h hs
  have hs2 := hs
  unfold maxLen at hs2
  by_cases hx : x = 0
  · subst hx
    have hd : rdT (m : Int) s 0 = if (sv s 9 127 9 0 0).2.2 = 0 then
      if m < (sv s 9 127 9 0 0).1 then (⟨#[]⟩, 2, s, 2)
      else if s.size < (sv s 9 127 9 0 0).2.1 + (sv s 9 127 9 0 0).1 then (⟨#[]⟩, 20, s, 20)
      else (s.extract (sv s 9 127 9 0 0).2.1 ((sv s 9 127 9 0 0).2.1 + (sv s 9 127 9 0 0).1), 0, s.extract ((sv s 9 127 9 0 0).2.1 + (sv s 9 127 9 0 0).1) s.size, 0)
      else (⟨#[]⟩, (sv s 9 127 9 0 0).2.2, s, (sv s 9 127 9 0 0).2.2) := by
      unfold rdT
      rw [if_neg (by omega), if_pos rfl]
      simp only [Int.ofNat_lt]
    rw [hd]
    clear hd
    by_cases hw : (sv s 9 127 9 0 0).2.2 = 0
    · rw [if_pos hw]
      rw [rdN_ok _ _ _ hw] at HQ
      have hf := sv_facts s 9 127 9 0 0 (by simp) (by omega) hw
      have hl := sv_lt s 9 127 9 0 0 (by simp) (by omega)
      generalize sv s 9 127 9 0 0 = r at *
      obtain ⟨n, k, y⟩ := r
      simp only at HQ hw hf hl ⊢
      subst hw
      have hk1 := hf.1
      have hn63 : n ≤ 2 ^ 63 - 1 := by omega
      have HQh := hid HQ
      clear HQ hf hl
      by_cases hlong : m < n
      · rw [if_pos hlong]
        go_enter Try.func55, Try.ntmps55
        go_wp2_with fail
        refine HQh.out.mono ?_
        rintro e w1 ⟨rfl, hr, hf⟩
        have c0 := hr.c0
        have c1 := hr.c1
        have d0 := hr.f0
        have d1 := hr.f1
        clear h0
        go_wp2
        go_quiet (fail)
        go_wp2
        go_ret2
        exact ⟨rfl, (((hr.s1 20).s1 2).s0 s).drewN _, (((hf.setg 1 _).setg 1 _).setg 0 _).drewN _⟩
      · rw [if_neg hlong]
        have hl3 : n ≤ m := by omega
        clear hlong
        by_cases hcut : s.size < k + n
        · rw [if_pos hcut]
          have hcut2 : s.size - k < n := by omega
          go_enter Try.func55, Try.ntmps55
          go_wp2_with fail
          refine HQh.out.mono ?_
          rintro e w1 ⟨rfl, hr, hf⟩
          have c0 := hr.c0
          have c1 := hr.c1
          have d0 := hr.f0
          have d1 := hr.f1
          clear h0
          go_wp2
          go_quiet (fail)
          go_wp2
          go_ret2
          exact ⟨rfl, ((hr.s1 20).s0 s).drewN _, ((hf.setg 1 _).setg 0 _).drewN _⟩
        · rw [if_neg hcut]
          have hcut2 : n ≤ s.size - k := by omega
          have eh := hid (ext_head s k n (by omega))
          have et := hid (ext_tail s k n (by omega))
          clear hcut
          go_enter Try.func55, Try.ntmps55
          go_wp2_with fail
          refine HQh.out.mono ?_
          rintro e w1 ⟨rfl, hr, hf⟩
          have c0 := hr.c0
          have c1 := hr.c1
          have d0 := hr.f0
          have d1 := hr.f1
          clear h0
          go_wp2
          go_ret2
          rw [← eh.out, ← et.out]
          exact ⟨rfl, hr.s0 _, hf.setg 0 _⟩
    · rw [if_neg hw]
      rw [rdN_wrong _ _ _ hw] at HQ
      generalize sv s 9 127 9 0 0 = r at *
      obtain ⟨n, k, y⟩ := r
      simp only at HQ hw ⊢
      have hy : ((y : Int) != 0) = true := by rw [bne_iff_ne]; omega
      have HQh := hid HQ
      clear HQ hw
      go_enter Try.func55, Try.ntmps55
      go_wp2_with fail
      refine HQh.out.mono ?_
      rintro e w1 ⟨rfl, hr, hf⟩
      go_wp2
      go_ret2
      exact ⟨rfl, hr, hf⟩
  · have HR : rdT (m : Int) s x = (⟨#[]⟩, x, s, x) := by unfold rdT; rw [if_neg (by omega), if_neg hx]
    rw [HR]
    rw [rdN_failed _ _ _ _ hx] at HQ
    have hy : ((x : Int) != 0) = true := by rw [bne_iff_ne]; omega
    have HQh := hid HQ
    clear HQ hx
    go_enter Try.func55, Try.ntmps55
    go_wp2_with fail
    refine HQh.out.mono ?_
    rintro e w1 ⟨rfl, hr, hf⟩
    go_wp2
    go_ret2
    exact ⟨rfl, hr, hf⟩
end Go.Proofs.Ytmnmmmoeeapeiaa.Cw

/- A result that lies in a block of nine cells. Own work. -/
namespace Go.Proofs.Ytmnmmmoeeapeiaa.Cw
open Go.RowKit
set_option linter.unusedVariables false
set_option linter.unusedSimpArgs false

theorem set9 {w : World} {b : Nat} {t : TypeId} {o0 o1 o2 o3 o4 o5 o6 o7 o8 : Value} (v0 v1 v2 v3 v4 v5 v6 v7 v8 : Value) (h : w.heap[b]? = some (.cells #[o0, o1, o2, o3, o4, o5, o6, o7, o8] t (0, 0))) :
    (((((((((w.setCell ⟨b, 0, none⟩ v0).setCell ⟨b, 1, none⟩ v1).setCell ⟨b, 2, none⟩ v2).setCell ⟨b, 3, none⟩ v3).setCell ⟨b, 4, none⟩ v4).setCell ⟨b, 5, none⟩ v5).setCell ⟨b, 6, none⟩ v6).setCell ⟨b, 7, none⟩ v7).setCell ⟨b, 8, none⟩ v8).heap[b]? = some (.cells #[v0, v1, v2, v3, v4, v5, v6, v7, v8] t (0, 0)) := by
  have g0 := set_blk h 0 v0
  have g1 := set_blk g0 1 v1
  have g2 := set_blk g1 2 v2
  have g3 := set_blk g2 3 v3
  have g4 := set_blk g3 4 v4
  have g5 := set_blk g4 5 v5
  have g6 := set_blk g5 6 v6
  have g7 := set_blk g6 7 v7
  have g8 := set_blk g7 8 v8
  simp only [List.setIfInBounds_toArray, List.set_cons_zero, List.set_cons_succ] at g8
  exact g8
theorem fr9 {w0 w : World} {b : Nat} (v0 v1 v2 v3 v4 v5 v6 v7 v8 : Value) (h : Fr w0 w (fun _ => False)) (hb : w0.heap.size ≤ b) :
    Fr w0 (((((((((w.setCell ⟨b, 0, none⟩ v0).setCell ⟨b, 1, none⟩ v1).setCell ⟨b, 2, none⟩ v2).setCell ⟨b, 3, none⟩ v3).setCell ⟨b, 4, none⟩ v4).setCell ⟨b, 5, none⟩ v5).setCell ⟨b, 6, none⟩ v6).setCell ⟨b, 7, none⟩ v7).setCell ⟨b, 8, none⟩ v8) (fun _ => False) := by
  have n : ∀ k : Nat, (⟨b, k, none⟩ : Addr).block < w0.heap.size → False := fun k x => by
    have : b < w0.heap.size := x
    omega
  exact ((((((((h.set _ (n 0) v0).set _ (n 1) v1).set _ (n 2) v2).set _ (n 3) v3).set _ (n 4) v4).set _ (n 5) v5).set _ (n 6) v6).set _ (n 7) v7).set _ (n 8) v8

theorem heap_drw (w : World) : w.drew.heap = w.heap := rfl
theorem info_entry : (Try.prog.info? 52).map (·.size) = some 9 := by kernel_rfl
theorem load9 {w : World} {b : Nat} {t : TypeId} {v0 v1 v2 v3 v4 v5 v6 v7 v8 : Value} (h : w.heap[b]? = some (.cells #[v0, v1, v2, v3, v4, v5, v6, v7, v8] t (0, 0))) :
    (loadVar 52 ⟨b, 0, none⟩).run Try.prog w = .ok (.agg #[v0, v1, v2, v3, v4, v5, v6, v7, v8]) w := by
  refine run_loadVar_mid w b 0 52 [v0, v1, v2, v3, v4, v5, v6, v7, v8] _ ?_ Try.underlying52 rfl (info_entry.trans rfl)
  intro j v hj
  rw [cell_blk h, Nat.zero_add]
  simpa using hj
theorem results_entry {fn : Func} {u x y : Tmp} (h : fn.results = #[.cell u 52, .tmp x, .tmp y]) (tmps : Array Value) (w : World) (b : Nat) (hb : tmps.getD u undef = .pointer (some ⟨b, 0, none⟩)) {cs : Value}
    (hl : (loadVar 52 ⟨b, 0, none⟩).run Try.prog w = .ok cs w) :
    (results fn tmps).run Try.prog w = .ok (.tuple #[cs, tmps.getD x undef, tmps.getD y undef]) w := by
  have hb' : tmps[u]?.getD undef = .pointer (some ⟨b, 0, none⟩) := by simpa using hb
  simp [results, h, hb', hl, Sem.run_bind, asAddr]
end Go.Proofs.Ytmnmmmoeeapeiaa.Cw
