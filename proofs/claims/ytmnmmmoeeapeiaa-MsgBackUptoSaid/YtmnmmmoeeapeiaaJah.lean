/- The writer's Fixed at what it refuses, and Text. Own work. -/
import Derived.Test.YtmnmmmoeeapeiaaJag
namespace Go.Proofs.Ytmnmmmoeeapeiaa.Cw
open Go.RowKit
set_option linter.unusedVariables false
set_option linter.unusedSimpArgs false

set_option maxRecDepth 100000 in
set_option maxHeartbeats 1600000 in
theorem wFixed_bad (w : World) (p : Option Addr) (n size : Int) (hmax : n < 9223372036854775808) (h : ¬ ((size = 1 ∨ size = 2 ∨ size = 4 ∨ size = 8) ∧ 0 ≤ n ∧ n < 256 ^ size.toNat)) :
    Calls Try.prog 60 #[.pointer p, .int .i64 n, .int .i64 size] w fun e w' => e = .returned (.int .i64 1) ∧ w = w' := by
  by_cases hz : size = 1 ∨ size = 2 ∨ size = 4 ∨ size = 8
  · obtain ⟨k, rfl⟩ := Int.eq_ofNat_of_zero_le (show 0 ≤ size by omega)
    have hk : k = 1 ∨ k = 2 ∨ k = 4 ∨ k = 8 := by omega
    have HK := hid hk
    by_cases hn : n < 0
    · clear hz h hk hmax
      go_enter Try.func60, Try.ntmps60
      go_wp2_with (go_at_call 66; refine (sized_yes _ _ HK.out).mono ?_; rintro e w' ⟨rfl, rfl⟩)
      go_ret
      exact ⟨rfl, rfl⟩
    · obtain ⟨m, rfl⟩ := Int.eq_ofNat_of_zero_le (show 0 ≤ n by omega)
      have hb : ¬ m < 256 ^ k := by
        intro hm
        refine h ⟨hz, by omega, ?_⟩
        rw [Int.toNat_natCast]
        exact_mod_cast hm
      have hk8 : k < 8 := by
        rcases Nat.lt_or_ge k 8 with h8 | h8
        · exact h8
        · exfalso
          have : k = 8 := by omega
          subst this
          omega
      have hq : ((m : Int) / 2 ^ (8 * k) != 0) = true := by
        have e2 : (2 : Nat) ^ (8 * k) = 256 ^ k := by rw [Nat.pow_mul]
        have e : (2 : Int) ^ (8 * k) = ((256 ^ k : Nat) : Int) := by rw [← e2]; simp
        have hd : 0 < m / 256 ^ k := Nat.div_pos (by omega) (Nat.pow_pos (by decide))
        rw [e, ← Int.natCast_ediv, bne_iff_ne]
        omega
      clear hz h hk hmax hb
      go_enter Try.func60, Try.ntmps60
      go_wp2_with (go_at_call 66; refine (sized_yes _ _ HK.out).mono ?_; rintro e w' ⟨rfl, rfl⟩)
      go_ret
      exact ⟨rfl, rfl⟩
  · have HZ := hid hz
    clear hz h hmax
    go_enter Try.func60, Try.ntmps60
    go_wp2_with (go_at_call 66; refine (sized_no _ _ HZ.out).mono ?_; rintro e w' ⟨rfl, rfl⟩)
    go_ret
    exact ⟨rfl, rfl⟩

set_option maxRecDepth 100000 in
theorem wText_long (w : World) (p : Option Addr) (s : ByteArray) (h : 65535 < s.size) (hs : s.size ≤ maxLen) :
    Calls Try.prog 58 #[.pointer p, .string s] w fun e w' => e = .returned (.int .i64 2) ∧ w = w' := by
  unfold maxLen at hs
  go_enter Try.func58, Try.ntmps58
  go_wp2
  go_ret
  exact ⟨rfl, rfl⟩

theorem run_append_str2 {P : Program} (w : World) (base : Nat) (t u ty e : TypeId) (i : TypeInfo) (ht : P.underlying t = some (.slice e)) (hu : P.underlying u = some .string) (hi : P.info? e = some i) (hz : i.zero = some (.int .u8 0))
    (hsize : i.size = 1) (hby : i.bytes = 1)
    (v : Value) (n : Nat) (xs : List Value) (hown : w.ownsRow base e 1 v n xs) (s : ByteArray)
    (h63 : n + s.size ≤ maxLen) (hbytes : n + s.size ≤ 140737488355328) (hbase : base ≤ w.heap.size) :
    ∃ v' w', (Builtin.append_ #[t, u] ty #[v, .string s]).run P w = .ok v' w' ∧ w'.ownsRow base e 1 v' (n + s.size) (xs ++ Lib.strCells s) ∧ w.grownBy w' v.ownBlock ∧ Wn w v v' := by
  obtain ⟨v', w', hr, h2, h3, _⟩ := Lib.run_append_own_string (P := P) w base t u ty e i ht hu hi hz hsize hby v n xs hown s h63 hbytes hbase
  refine ⟨v', w', hr, h2, h3, ?_⟩
  intro b hb
  rcases hown.2 with ⟨rfl, rfl⟩ | ⟨g, cap, cur, rfl, hbg, hg, hnc, hcm, hcs, htake⟩
  · have hx : xs = [] := List.eq_nil_of_length_eq_zero (by simpa using hown.1)
    subst hx
    obtain ⟨v2, w2, hr2, k2, _, _⟩ := Lib.run_append_own_string (P := P) w w.heap.size t u ty e i ht hu hi hz hsize hby (.slice none 0 0) 0 [] (World.ownsRow_nil w _ e 1) s h63 hbytes (Nat.le_refl _)
    rw [hr] at hr2
    injection hr2 with e1 e2
    subst e1
    exact .inr (k2.lt b hb).1
  · have hxl : xs.length = n := by simpa using hown.1
    have hsmall : n + s.size ≤ 9223372036854775807 := by simp only [maxLen] at h63; omega
    by_cases hroom : n + s.size ≤ cap
    · have hcs' : cur.size = cap := by simpa using hcs
      have hr2 := Lib.run_append_room_string (P := P) w t u ty e i ht hu hi hsize g n cap cur hg s hroom (by omega)
      rw [hr] at hr2
      injection hr2 with e1 e2
      subst e1
      exact .inl hb
    · have holds : ∀ j u, xs[j]? = some u → w.cell? ((⟨g, 0, none⟩ : Addr).add j) = some u := hown.cells (g := g) rfl
      have hr2 := Lib.run_append_grow_string (P := P) w t u ty e i (.int .u8 0) ht hu hi hz ⟨g, 0, none⟩ n cap xs (by rw [hsize]; simpa using hxl) holds s (by omega) (by omega) (by rw [hby]; exact growslice_fits (by omega) (by omega))
      rw [hr] at hr2
      injection hr2 with e1 e2
      subst e1
      injection hb with hb
      have hb2 : w.heap.size = b := hb
      exact .inr (by omega)

theorem wpList_append_str2 {P : Program} (w : World) {ops : Array Oper} {rest : List Oper} {o : Oper} {a : Act} {Q : Exit → Act → World → Prop} (hgd : o.guard = none) (sl x : Operand) (t u : TypeId)
    (ho : o.op = .call { callee := .builtin .append, args := #[sl, x], argTypes := #[t, u] })
    (base : Nat) (e : TypeId) (i : TypeInfo) (ht : P.underlying t = some (.slice e)) (hu : P.underlying u = some .string) (hi : P.info? e = some i) (hz : i.zero = some (.int .u8 0))
    (hsize : i.size = 1) (hby : i.bytes = 1)
    (v : Value) (n : Nat) (xs : List Value) (hs : a.eval sl = v) (hown : w.ownsRow base e 1 v n xs) (s : ByteArray) (hx : a.eval x = .string s)
    (h63 : n + s.size ≤ maxLen) (hbytes : n + s.size ≤ 140737488355328) (hbase : base ≤ w.heap.size)
    (h : ∀ v' w', w'.ownsRow base e 1 v' (n + s.size) (xs ++ Lib.strCells s) → w.grownBy w' v.ownBlock → Wn w v v' → wpList P ops Q rest (a.put o.dst v') w') : wpList P ops Q (o :: rest) a w := by
  refine wpList_plain hgd fun K hK => ?_
  obtain ⟨v', w', hr, h2, h3, h4⟩ := run_append_str2 (P := P) w base t u o.type e i ht hu hi hz hsize hby v n xs hown s h63 hbytes hbase
  unfold Oper.wp execOp
  simp only [ho, resolve, invoke, builtin, Sem.run_bind, Sem.run_pure, Result.andThen_ok, List.map_toArray, List.map_cons, List.map_nil, hs, hx, hr]
  exact hK _ _ (h v' w' h2 h3 h4)

theorem strCells_cells (s : ByteArray) : Lib.strCells s = cellsOf s.data.toList := by
  unfold Lib.strCells cellsOf
  simp

set_option maxRecDepth 100000 in
set_option maxHeartbeats 1600000 in
theorem wText_calls (w : World) (g : Nat) (v : Value) (bs : List UInt8) (s : ByteArray) (h : Wr w g v bs) (hs : s.size ≤ 65535) (hl : Len bs 70000) :
    Calls Try.prog 58 #[.pointer (some ⟨g, 0, none⟩), .string s] w fun e w' => e = .returned (.int .i64 0) ∧ Wrote w w' g v (bs ++ (uv s.size ++ s.data.toList)) := by
  have HL := hid hl
  have HU := hid (wUint_calls w g v bs s.size h (by omega) (by unfold Len at *; omega))
  have HUL := hid (uv_len10 s.size (by omega))
  clear hl
  obtain ⟨i0, hi, hz0, hz1, hz2⟩ := info_parts info_u8
  go_enter Try.func58, Try.ntmps58
  go_wp2_with fail
  refine HU.out.mono ?_
  rintro e w1 ⟨rfl, v1, h1, hf, hw⟩
  have c0 := h1.c0
  have f0 := h1.f0
  go_wp2_with (at_builtin; refine wpList_append_str2 _ rfl _ _ 35 9 rfl 0 5 i0 Try.underlying35 Try.underlying9 hi hz0 hz1 hz2 _ _ _ rfl h1.2 s rfl ?c1 ?c2 ?c3 ?_)
  case c1 => have := HL.out; have := HUL.out; unfold Len at *; simp only [List.length_append]; unfold maxLen; omega
  case c2 => have := HL.out; have := HUL.out; unfold Len at *; simp only [List.length_append]; omega
  case c3 => omega
  · intro v' w2 hown' hgrow hwn
    rw [strCells_cells] at hown'
    have hcf : w2.cell? ⟨g, 0, none⟩ = some v1 ∧ w2.frozen? ⟨g, 0, none⟩ = false := by
      have hb : w2.heap[g]? = some (.cells #[v1] 85 (0, 0)) := (hgrow.block g h1.lt (fun e => h1.ne e.symm)).trans h1.1
      exact ⟨cell_blk hb 0, free_blk hb 0⟩
    have hsz : s.data.toList.length = s.size := Array.length_toList
    have hpos := uv_pos s.size
    obtain ⟨R1, R2, R3⟩ := h1.push (news := s.data.toList) (by rw [hsz, List.length_append]; exact hown') hgrow hwn
    obtain ⟨gn, capn, rfl⟩ := own_shape hown' (by omega)
    obtain ⟨c1, f1⟩ := hcf
    have HR1 := hid R1
    clear hown' hgrow hwn c0 f0 hpos hsz
    go_wp2
    go_ret
    refine ⟨rfl, _, ?_, hf.next hw R2, hw.trans hf.size R3⟩
    rw [← List.append_assoc]
    exact HR1.out
end Go.Proofs.Ytmnmmmoeeapeiaa.Cw

