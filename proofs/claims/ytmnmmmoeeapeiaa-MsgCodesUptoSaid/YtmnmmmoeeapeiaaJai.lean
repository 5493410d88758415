/- The reader's Text. Own work. -/
import Derived.Test.YtmnmmmoeeapeiaaJag
import Derived.WalkSpells
import Derived.Test.YtmnmmmoeeapeiaaJah
import Derived.Test.YtmnmmmoeeapeiaaJad
namespace Go.Proofs.Ytmnmmmoeeapeiaa.Cw
open Go.RowKit
set_option linter.unusedVariables false
set_option linter.unusedSimpArgs false

/-- A text is read: the text, what is wrong, what is left, what is wrong from now on. -/
def rdT (most : Int) (s : ByteArray) (e : Nat) : ByteArray × Nat × ByteArray × Nat :=
  if most < 0 then (⟨#[]⟩, 1, s, e)
  else if e = 0 then
    if (sv s 9 127 9 0 0).2.2 = 0 then
      if most < (sv s 9 127 9 0 0).1 then (⟨#[]⟩, 2, s, 2)
      else if s.size < (sv s 9 127 9 0 0).2.1 + (sv s 9 127 9 0 0).1 then (⟨#[]⟩, 20, s, 20)
      else (s.extract (sv s 9 127 9 0 0).2.1 ((sv s 9 127 9 0 0).2.1 + (sv s 9 127 9 0 0).1), 0, s.extract ((sv s 9 127 9 0 0).2.1 + (sv s 9 127 9 0 0).1) s.size, 0)
    else (⟨#[]⟩, (sv s 9 127 9 0 0).2.2, s, (sv s 9 127 9 0 0).2.2)
  else (⟨#[]⟩, e, s, e)

theorem ret2s {s t : ByteArray} {b d : Int} {k' : IntKind} (h1 : s = t) (h2 : b = d) : Ending.returned (.tuple #[.string s, .int k' b]) = .returned (.tuple #[.string t, .int k' d]) := by subst h1; subst h2; rfl

set_option maxRecDepth 100000 in
set_option maxHeartbeats 1600000 in
theorem rText_calls (w : World) (g : Nat) (s : ByteArray) (x : Nat) (most : Int) (hlo : -9223372036854775808 ≤ most) (hhi : most < 9223372036854775808) (h : Rd w g s x) (hs : s.size ≤ maxLen) :
    Calls Try.prog 63 #[.pointer (some ⟨g, 0, none⟩), .int .i64 most] w fun e w' => e = .returned (.tuple #[.string (rdT most s x).1, .int .i64 (rdT most s x).2.1]) ∧ Rd w' g (rdT most s x).2.2.1 (rdT most s x).2.2.2 ∧ Fr w w' (fun i => i = g) := by
  have h1 := h.c1
  have h0 := h.c0
  have f0 := h.f0
  have f1 := h.f1
  have hs2 := hs
  unfold maxLen at hs2
  by_cases hneg : most < 0
  · have HR : Hid (rdT most s x = (⟨#[]⟩, 1, s, x)) := hid (if_pos hneg)
    rw [HR.out]
    go_enter Try.func63, Try.ntmps63
    go_wp2
    go_ret2
    exact ⟨rfl, h, Fr.refl w _⟩
  have hpos : 0 ≤ most := by omega
  obtain ⟨m, rfl⟩ := Int.eq_ofNat_of_zero_le hpos
  have hhi2 : m ≤ 2 ^ 63 - 1 := by omega
  clear hneg hlo hhi
  by_cases hx : x = 0
  · subst hx
    have H7 := seven_calls s 9 127 (by omega) (by omega) (by omega) hs
    have hf := sv_facts s 9 127 9 0 0 (by simp) (by omega)
    have hl := sv_lt s 9 127 9 0 0 (by simp) (by omega)
    have hd : rdT (m : Int) s 0 = if (sv s 9 127 9 0 0).2.2 = 0 then
      if m < (sv s 9 127 9 0 0).1 then (⟨#[]⟩, 2, s, 2)
      else if s.size < (sv s 9 127 9 0 0).2.1 + (sv s 9 127 9 0 0).1 then (⟨#[]⟩, 20, s, 20)
      else (s.extract (sv s 9 127 9 0 0).2.1 ((sv s 9 127 9 0 0).2.1 + (sv s 9 127 9 0 0).1), 0, s.extract ((sv s 9 127 9 0 0).2.1 + (sv s 9 127 9 0 0).1) s.size, 0)
      else (⟨#[]⟩, (sv s 9 127 9 0 0).2.2, s, (sv s 9 127 9 0 0).2.2) := by
      unfold rdT
      rw [if_neg (by omega), if_pos rfl]
      simp only [Int.ofNat_lt]
    rw [hd]
    clear hd
    generalize sv s 9 127 9 0 0 = r at *
    obtain ⟨n, k, y⟩ := r
    simp only at H7 hf hl ⊢
    have H7h := hid H7
    clear H7
    have hl2 : n ≤ 2 ^ 63 - 1 := by omega
    clear hl
    by_cases hw : y = 0
    · subst hw
      have hk := hf rfl
      have hk1 := hk.1
      have hk2 := hk.2.2.1
      clear hk hf
      rw [if_pos rfl]
      by_cases hlong : m < n
      · rw [if_pos hlong]
        go_enter Try.func63, Try.ntmps63
        go_wp2_with (first | (go_at_call 67; refine (failed_some _ _ _ _ h).mono ?_; rintro e w' ⟨rfl, rfl⟩) | (go_at_call 68; refine (H7h.out _).mono ?_; rintro e w' ⟨rfl, rfl⟩) | (go_at_call 69; refine (fail_calls _ _ _ _ 2 h).mono ?_; rintro e w' ⟨rfl, rfl⟩))
        go_ret2
        exact ⟨rfl, h.s1 2, Fr.set1 w g 1 _⟩
      · rw [if_neg hlong]
        have hl3 : n ≤ m := by omega
        clear hlong
        by_cases hcut : s.size < k + n
        · rw [if_pos hcut]
          go_enter Try.func63, Try.ntmps63
          go_wp2_with (first | (go_at_call 67; refine (failed_some _ _ _ _ h).mono ?_; rintro e w' ⟨rfl, rfl⟩) | (go_at_call 68; refine (H7h.out _).mono ?_; rintro e w' ⟨rfl, rfl⟩) | (go_at_call 69; refine (fail_calls _ _ _ _ 20 h).mono ?_; rintro e w' ⟨rfl, rfl⟩))
          go_ret2
          exact ⟨rfl, h.s1 20, Fr.set1 w g 1 _⟩
        · rw [if_neg hcut]
          have hl4 : k + n ≤ s.size := by omega
          clear hcut
          go_enter Try.func63, Try.ntmps63
          go_wp2_with (first | (go_at_call 67; refine (failed_some _ _ _ _ h).mono ?_; rintro e w' ⟨rfl, rfl⟩) | (go_at_call 68; refine (H7h.out _).mono ?_; rintro e w' ⟨rfl, rfl⟩) | (go_at_call 69; refine (fail_calls _ _ _ _ 20 h).mono ?_; rintro e w' ⟨rfl, rfl⟩))
          go_ret2
          exact ⟨rfl, h.s0 _, Fr.set1 w g 0 _⟩
    · rw [if_neg hw]
      have hy : ((y : Int) != 0) = true := by rw [bne_iff_ne]; omega
      clear hw hf
      go_enter Try.func63, Try.ntmps63
      go_wp2_with (first | (go_at_call 67; refine (failed_some _ _ _ _ h).mono ?_; rintro e w' ⟨rfl, rfl⟩) | (go_at_call 68; refine (H7h.out _).mono ?_; rintro e w' ⟨rfl, rfl⟩) | (go_at_call 69; refine (fail_calls _ _ _ _ y h).mono ?_; rintro e w' ⟨rfl, rfl⟩))
      go_ret2
      exact ⟨rfl, h.s1 y, Fr.set1 w g 1 _⟩
  · have HR : Hid (rdT m s x = (⟨#[]⟩, x, s, x)) := hid (by unfold rdT; rw [if_neg (by omega), if_neg hx])
    rw [HR.out]
    have hy : ((x : Int) != 0) = true := by rw [bne_iff_ne]; omega
    clear hx
    go_enter Try.func63, Try.ntmps63
    go_wp2_with (first | (go_at_call 67; refine (failed_some _ _ _ _ h).mono ?_; rintro e w' ⟨rfl, rfl⟩))
    go_ret2
    exact ⟨rfl, h, Fr.refl w _⟩
end Go.Proofs.Ytmnmmmoeeapeiaa.Cw

/- What the statements of layer 2 ask first: two numbers and a text are written and read. Own work. -/
namespace Go.Proofs.Ytmnmmmoeeapeiaa.Cw
open Go.RowKit
set_option linter.unusedVariables false
set_option linter.unusedSimpArgs false

theorem s_uv : ([] : List UInt8) ++ uv 300 ++ uv (zig (-1)) ++ (uv 2 ++ [97, 98]) = [172, 2, 1, 2, 97, 98] := by
  rw [uv_big 300 (by decide), show 300 / 128 = 2 from rfl, uv_small 2 (by decide), show zig (-1) = 1 from rfl, uv_small 1 (by decide)]
  rfl
theorem s_r1 : rdN 9 127 ⟨#[172, 2, 1, 2, 97, 98]⟩ 0 = (300, 0, ⟨#[1, 2, 97, 98]⟩, 0) := by kernel_rfl
theorem s_r2 : rdN 10 1 ⟨#[1, 2, 97, 98]⟩ 0 = (1, 0, ⟨#[2, 97, 98]⟩, 0) := by kernel_rfl
theorem s_r3 : rdT 9 ⟨#[2, 97, 98]⟩ 0 = (⟨#[97, 98]⟩, 0, ⟨#[]⟩, 0) := by kernel_rfl

theorem len2 (a b : List UInt8) (ha : a.length ≤ 10) (hb : b.length ≤ 10) : Len ([] ++ a) 10 ∧ Len ([] ++ a ++ b) 70000 := by
  unfold Len
  simp only [List.length_append, List.length_nil]
  omega
theorem s_z : zig (-1) = 1 := rfl
theorem s_l1 : Len ([] ++ uv 300) 10 := (len2 (uv 300) (uv 300) (uv_len10 300 (by decide)) (uv_len10 300 (by decide))).1
theorem s_l2 : Len ([] ++ uv 300 ++ uv (zig (-1))) 70000 := by
  rw [s_z]
  exact (len2 (uv 300) (uv 1) (uv_len10 300 (by decide)) (uv_len10 1 (by decide))).2

theorem Wrote.out {w w' : World} {g : Nat} {v : Value} {bs : List UInt8} (h : Wrote w w' g v bs) : ∃ v', Wr w' g v' bs ∧ Fr w w' (WS g v) ∧ Wn w v v' := h

/-- A new writer. -/
theorem Wr.new {w : World} {g : Nat} (h : w.heap[g]? = some (.cells #[.slice none 0 0] 85 (0, 0))) : Wr w g (.slice none 0 0) [] := ⟨h, World.ownsRow_nil w 0 _ 1⟩

end Go.Proofs.Ytmnmmmoeeapeiaa.Cw

/- The reference's Uint. Own work. -/
namespace Go.Proofs.Ytmnmmmoeeapeiaa.Cw
open Go.RowKit
set_option linter.unusedVariables false
set_option linter.unusedSimpArgs false

/-- A call's own row in a loop: the slice v owns these bytes, in blocks from w on. -/
def Ow (w wr : World) (v : Value) (bs : List UInt8) : Prop := wr.ownsRow w.heap.size 5 1 v bs.length (cellsOf bs)

theorem Ow.push {w wr w1 : World} {v v' : Value} {bs news : List UInt8} {k : Nat} {o : Obj} (hf : Fr w wr (fun _ => False)) (h : Ow w wr v bs) (hk : k = bs.length + news.length) (hown : w1.ownsRow w.heap.size 5 1 v' k (cellsOf bs ++ cellsOf news)) (hg : (wr.alloc o).grownBy w1 v.ownBlock) :
    Ow w w1 v' (bs ++ news) ∧ Fr w w1 (fun _ => False) := by
  subst hk
  constructor
  · unfold Ow cellsOf at *
    rw [List.length_append, List.map_append]
    exact hown
  · refine (hf.alloc o).fresh (S := fun i => v.ownBlock = some i) ?_ (fun i hi => (h.lt i hi).1)
    exact (Fr.refl _ _).grown hg (fun k hk _ => hk)

theorem add128 (n : Nat) : (n : Int) % 128 + 128 = ((hi8 n).toNat : Int) := by
  rw [hi8_toNat]
  omega

set_option maxRecDepth 100000 in
set_option maxHeartbeats 1600000 in
theorem refUint_calls (w : World) (n : Nat) (hn : n ≤ 2 ^ 63 - 1) :
    Calls Try.prog 28 #[.int .i64 n] w fun e w' => e = .returned (.string ⟨(uv n).toArray⟩) ∧ Fr w w' (fun _ => False) := by
  have HL := hid (uv_len10 n (by omega))
  obtain ⟨i0, hi, hz0, hz1, hz2⟩ := info_parts info_u8
  have HN := hid hn
  clear hn
  go_enter Try.func28, Try.ntmps28
  go_wp2
  go_loopw [0, 3] (fun x v wr => ∃ (m : Nat) (ds : List UInt8), x = .int .i64 m ∧ Hid (m ≤ n) ∧ Hid (ds ++ uv m = uv n) ∧ Ow w wr v ds ∧ Fr w wr (fun _ => False)) (fun x _ _ => (intOf x).toNat)
  case atStart => exact ⟨n, [], rfl, Nat.le_refl _, rfl, World.ownsRow_nil w _ _ 1, Fr.refl w _⟩
  case round =>
    obtain ⟨m, ds, rfl, hmn, hm, h1, hf⟩ := hrel
    have hm63 : m ≤ 2 ^ 63 - 1 := by have := HN.out; have := hmn.out; omega
    by_cases hlt : 128 ≤ m
    · have hb : Hid (ds.length + 1 ≤ 10) := hid (by
        have h2 := HL.out
        have h3 := congrArg List.length hm.out
        have h4 := uv_pos m
        simp only [List.length_append] at h3
        omega)
      have hnew := hid (uv_big m (by omega))
      go_wp2_with (at_builtin; refine wpList_append_own _ rfl _ _ 35 rfl w.heap.size 5 i0 (.int .u8 0) 1 1 Try.underlying35 hi hz0 hz1 hz2 rfl (by decide) _ _ _ rfl (h1.alloc _) ⟨_, 0, none⟩ 1 1 (cellsOf [hi8 m]) rfl rfl ?c1 ?c2 ?c3 ?c4 ?c5 ?_)
      case c1 => exact cell_new1 wr _ _ _ (val_u8 (add128 m))
      case c2 => exact one_u8 _
      case c3 => have := hb.out; unfold maxLen; omega
      case c4 => have := hb.out; omega
      case c5 => have := hf.size; simp; omega
      · intro v' w1 hown' hgrow _
        have R := Ow.push (news := [hi8 m]) hf h1 rfl hown' hgrow
        clear hown' hgrow
        go_wp2
        go_roundw
        case rel => exact ⟨m / 128, ds ++ [hi8 m], by simp, hid (by have := hmn.out; omega), hid (by rw [List.append_assoc]; have := hm.out; rw [hnew.out] at this; exact this), R.1, R.2⟩
        case measure => simp [intOf]; omega
    · have hb : Hid (ds.length + 1 ≤ 10) := hid (by
        have h2 := HL.out
        have h3 := congrArg List.length hm.out
        have h4 := uv_pos m
        simp only [List.length_append] at h3
        omega)
      have hle : m ≤ 127 := by omega
      have hnew := hid (uv_small m hle)
      go_wp2_with (at_builtin; refine wpList_append_own _ rfl _ _ 35 rfl w.heap.size 5 i0 (.int .u8 0) 1 1 Try.underlying35 hi hz0 hz1 hz2 rfl (by decide) _ _ _ rfl (h1.alloc _) ⟨_, 0, none⟩ 1 1 (cellsOf [lo8 m]) rfl rfl ?d1 ?d2 ?d3 ?d4 ?d5 ?_)
      case d1 => exact cell_new1 wr _ _ _ (val_u8 (u8n m (by omega)).symm)
      case d2 => exact one_u8 _
      case d3 => have := hb.out; unfold maxLen; omega
      case d4 => have := hb.out; omega
      case d5 => have := hf.size; simp; omega
      · intro v' w1 hown' hgrow _
        have R := Ow.push (news := [lo8 m]) hf h1 rfl hown' hgrow
        have hcv := conv_own Try.underlying35 Try.underlying5 R.1 9 Try.underlying9
        have he : Hid (ds ++ [lo8 m] = uv n) := hid (by rw [← hnew.out]; exact hm.out)
        have hR := hid R.2
        clear hown' hgrow R
        go_wp2
        go_ret
        rw [he.out]
        exact ⟨rfl, hR.out⟩
end Go.Proofs.Ytmnmmmoeeapeiaa.Cw
