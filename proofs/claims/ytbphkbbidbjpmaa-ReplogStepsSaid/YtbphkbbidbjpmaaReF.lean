/- A log that is made of entries: the walk. Own work. -/
import Derived.Test.YtbphkbbidbjpmaaReE
namespace Go.Proofs.Ytbphkbbidbjpmaa.Cw
open Go.RowKit
set_option linter.unusedVariables false
set_option linter.unusedSimpArgs false

theorem Fr.behind {a b c : World} {S : Nat → Prop} (h : Fr a b (fun _ => False)) (k : Fr b c S) (hs : ∀ i, i < a.heap.size → ¬ S i) : Fr a c (fun _ => False) :=
  ⟨k.os.trans h.os, k.tape.trans h.tape, k.output.trans h.output, Nat.le_trans h.size k.size, fun i hi _ => (k.block i (Nat.lt_of_lt_of_le hi h.size) (hs i hi)).trans (h.block i hi (fun x => x))⟩
set_option maxRecDepth 100000 in
set_option maxHeartbeats 3200000 in
theorem made_calls (w : World) (v : Value) (l : List En) (hl : Sv w v l) (hn : l.length ≤ 4611686018427387904) :
    Calls Try.prog 14 #[v] w fun e w' => ∃ g v', e = .returned (.pointer (some ⟨g, 0, none⟩)) ∧ Lg w' g v' (madeL l) ∧ Fr w w' (fun _ => False) ∧ w.heap.size ≤ g ∧ ∀ b, v'.ownBlock = some b → w.heap.size ≤ b := by
  obtain ⟨A, cap, rfl, h1, h2, h3⟩ := hl
  have HA := hid h3
  have HX := hid (fun (i : Nat) (hi : i < l.length) => (⟨_, List.getElem?_eq_getElem hi⟩ : ∃ x, l[i]? = some x))
  have HP := hid (fun (i : Nat) (hi : i < l.length) (e : l = []) => (by rw [e] at hi; simp at hi : False))
  have HE : Hid (l.take l.length = l) := hid (List.take_length)
  have HS := hid (fun (i : Nat) (x : En) (hx : l[i]? = some x) => (by
    obtain ⟨hi, hx⟩ := List.getElem?_eq_some_iff.1 hx
    rw [List.take_succ_eq_append_getElem hi, hx, madeL_step] : madeL (l.take (i + 1)) = app (madeL (l.take i)) x))
  clear h3
  generalize l.length = N at *
  go_enter Try.func14, Try.ntmps14
  go_wp2_with fail
  refine (new20_calls _).mono ?_
  rintro e w1 ⟨rfl, hL, hf1⟩
  have HL := hid hL
  have HF1 := hid hf1
  clear hL hf1
  generalize hg : w.heap.size = g at *
  have HG := hid hg
  clear hg
  go_wp2_with fail
  go_loopw [9] (fun t wr => ∃ i : Nat, i ≤ N ∧ t = .int .i64 i ∧ Fr w wr (fun _ => False) ∧ ∃ v', Lg wr g v' (madeL (l.take i)) ∧ ∀ b, v'.ownBlock = some b → g ≤ b) (fun t _ => N - (intOf t).toNat)
  case atStart => exact ⟨0, by omega, rfl, HF1.out, _, by simpa [madeL] using HL.out, fun b hb => by cases hb⟩
  case round =>
    obtain ⟨i, hi, rfl, hf, v', hL, hO⟩ := hrel
    by_cases hlt : i < N
    · obtain ⟨x, hx⟩ := HX.out i hlt
      obtain ⟨b, off, rfl, hb, HA1⟩ := HA.out (HP.out i hlt)
      obtain ⟨a0, a1, a2, a3, a4, a5, a6, a7, a8⟩ := (HA1.fr hf).nine hx
      have HT := hid (HS.out i x hx)
      have AC := hid (fun (W : World) (h : Fr wr W (fun _ => False)) => append_any W g v' (madeL (l.take i)) x (hL.heap h) (madeL_len _))
      have HF := hid hf
      have HL2 := hid hL
      have HO := hid hO
      clear hx hf hL hO HA1
      unfold En.V at AC
      unfold enV at AC
      generalize hAp : app (madeL (l.take i)) x = es2 at *
      have HAp := hid hAp
      clear hAp
      generalize apN (madeL (l.take i)) x = r1 at *
      generalize apE (madeL (l.take i)) x = r2 at *
      obtain ⟨a, b, c, k, t, n, p, q, r⟩ := x
      simp only at a0 a1 a2 a3 a4 a5 a6 a7 a8 AC
      go_wp2_with fail
      refine (AC.out _ ((Fr.refl wr _).alloc _)).mono ?_
      rintro e w2 ⟨rfl, v2, k1, k2, k3⟩
      have HK1 := hid k1
      have HK2 := hid k2
      have HK3 := hid k3
      clear k1 k2 k3
      go_wp2_with fail
      go_round
      case rel =>
        refine ⟨i + 1, by omega, by go_num, ?_, v2, ?_, ?_⟩
        · refine (HF.out.alloc _).behind HK2.out ?_
          intro j hj hs
          rcases hs with hs | hs
          · have := HG.out; omega
          · have := HO.out j hs; have := HG.out; omega
        · rw [HT.out]; exact HK1.out
        · intro b3 hb3
          rcases HK3.out b3 hb3 with h9 | h9
          · exact HO.out b3 h9
          · exact Nat.le_trans (Nat.le_trans (Nat.le_of_eq HG.out.symm) (HF.out.alloc _).size) h9
      case measure => simp [intOf]; omega
    · have he : i = N := by omega
      subst he
      have HK := hid hL
      have HF := hid hf
      have HO := hid hO
      clear hL hf hO
      go_wp2_with fail
      go_ret
      exact ⟨g, v', rfl, by have := HK.out; rwa [HE.out] at this, HF.out, Nat.le_of_eq HG.out, fun b hb => Nat.le_trans (Nat.le_of_eq HG.out) (HO.out b hb)⟩
end Go.Proofs.Ytbphkbbidbjpmaa.Cw
