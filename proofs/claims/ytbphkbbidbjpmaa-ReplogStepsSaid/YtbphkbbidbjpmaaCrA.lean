/- The reference's Uint. Own work. -/
import Derived.Test.YtbphkbbidbjpmaaCwG
namespace Go.Proofs.Ytbphkbbidbjpmaa.Cw
open Go.RowKit
set_option linter.unusedVariables false
set_option linter.unusedSimpArgs false

/-- A call's own row in a loop: the slice v owns these bytes, in blocks from w on. -/
def Ow (w wr : World) (v : Value) (bs : List UInt8) : Prop := wr.ownsRow w.heap.size 5 1 v bs.length (cellsOf bs)

theorem Ow.push {w wr w1 : World} {v v' : Value} {bs news : List UInt8} {k : Nat} {o : Obj} (hf : Fr w wr (fun _ => False)) (h : Ow w wr v bs) (hk : k = bs.length + news.length) (hown : w1.ownsRow w.heap.size 5 1 v' k (cellsOf bs ++ cellsOf news)) (hg : (wr.alloc o).grownBy w1 v.ownBlock) :
    Ow w w1 v' (bs ++ news) ∧ Fr w w1 (fun _ => False) := by
  subst hk
  constructor
  · unfold Ow cellsOf at *
    rw [List.length_append, List.map_append]
    exact hown
  · refine (hf.alloc o).fresh (S := fun i => v.ownBlock = some i) ?_ (fun i hi => (h.lt i hi).1)
    exact (Fr.refl _ _).grown hg (fun k hk _ => hk)

theorem add128 (n : Nat) : (n : Int) % 128 + 128 = ((hi8 n).toNat : Int) := by
  rw [hi8_toNat]
  omega

set_option maxRecDepth 100000 in
set_option maxHeartbeats 1600000 in
theorem refUint_calls (w : World) (n : Nat) (hn : n ≤ 2 ^ 63 - 1) :
    Calls Try.prog 37 #[.int .i64 n] w fun e w' => e = .returned (.string ⟨(uv n).toArray⟩) ∧ Fr w w' (fun _ => False) := by
  have HL := hid (uv_len10 n (by omega))
  obtain ⟨i0, hi, hz0, hz1, hz2⟩ := info_parts info_u8
  have HN := hid hn
  clear hn
  go_enter Try.func37, Try.ntmps37
  go_wp2
  go_loopw [0, 3] (fun x v wr => ∃ (m : Nat) (ds : List UInt8), x = .int .i64 m ∧ Hid (m ≤ n) ∧ Hid (ds ++ uv m = uv n) ∧ Ow w wr v ds ∧ Fr w wr (fun _ => False)) (fun x _ _ => (intOf x).toNat)
  case atStart => exact ⟨n, [], rfl, Nat.le_refl _, rfl, World.ownsRow_nil w _ _ 1, Fr.refl w _⟩
  case round =>
    obtain ⟨m, ds, rfl, hmn, hm, h1, hf⟩ := hrel
    have hm63 : m ≤ 2 ^ 63 - 1 := by have := HN.out; have := hmn.out; omega
    by_cases hlt : 128 ≤ m
    · have hb : Hid (ds.length + 1 ≤ 10) := hid (by
        have h2 := HL.out
        have h3 := congrArg List.length hm.out
        have h4 := uv_pos m
        simp only [List.length_append] at h3
        omega)
      have hnew := hid (uv_big m (by omega))
      go_wp2_with (at_builtin; refine wpList_append_own _ rfl _ _ 93 rfl w.heap.size 5 i0 (.int .u8 0) 1 1 Try.underlying93 hi hz0 hz1 hz2 rfl (by decide) _ _ _ rfl (h1.alloc _) ⟨_, 0, none⟩ 1 1 (cellsOf [hi8 m]) rfl rfl ?c1 ?c2 ?c3 ?c4 ?c5 ?_)
      case c1 => exact cell_new1 wr _ _ _ (val_u8 (add128 m))
      case c2 => exact one_u8 _
      case c3 => have := hb.out; unfold maxLen; omega
      case c4 => have := hb.out; omega
      case c5 => have := hf.size; simp; omega
      · intro v' w1 hown' hgrow _
        have R := Ow.push (news := [hi8 m]) hf h1 rfl hown' hgrow
        clear hown' hgrow
        go_wp2
        go_roundw
        case rel => exact ⟨m / 128, ds ++ [hi8 m], by simp, hid (by have := hmn.out; omega), hid (by rw [List.append_assoc]; have := hm.out; rw [hnew.out] at this; exact this), R.1, R.2⟩
        case measure => simp [intOf]; omega
    · have hb : Hid (ds.length + 1 ≤ 10) := hid (by
        have h2 := HL.out
        have h3 := congrArg List.length hm.out
        have h4 := uv_pos m
        simp only [List.length_append] at h3
        omega)
      have hle : m ≤ 127 := by omega
      have hnew := hid (uv_small m hle)
      go_wp2_with (at_builtin; refine wpList_append_own _ rfl _ _ 93 rfl w.heap.size 5 i0 (.int .u8 0) 1 1 Try.underlying93 hi hz0 hz1 hz2 rfl (by decide) _ _ _ rfl (h1.alloc _) ⟨_, 0, none⟩ 1 1 (cellsOf [lo8 m]) rfl rfl ?d1 ?d2 ?d3 ?d4 ?d5 ?_)
      case d1 => exact cell_new1 wr _ _ _ (val_u8 (u8n m (by omega)).symm)
      case d2 => exact one_u8 _
      case d3 => have := hb.out; unfold maxLen; omega
      case d4 => have := hb.out; omega
      case d5 => have := hf.size; simp; omega
      · intro v' w1 hown' hgrow _
        have R := Ow.push (news := [lo8 m]) hf h1 rfl hown' hgrow
        have hcv := conv_own Try.underlying93 Try.underlying5 R.1 9 Try.underlying9
        have he : Hid (ds ++ [lo8 m] = uv n) := hid (by rw [← hnew.out]; exact hm.out)
        have hR := hid R.2
        clear hown' hgrow R
        go_wp2
        go_ret
        rw [he.out]
        exact ⟨rfl, hR.out⟩
end Go.Proofs.Ytbphkbbidbjpmaa.Cw
