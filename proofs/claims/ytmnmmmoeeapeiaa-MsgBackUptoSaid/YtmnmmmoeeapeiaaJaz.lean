/- Size, both. Own work. -/
import Derived.Test.YtmnmmmoeeapeiaaJax
import Derived.Test.YtmnmmmoeeapeiaaJak
import Derived.Test.YtmnmmmoeeapeiaaJag
namespace Go.Proofs.Ytmnmmmoeeapeiaa.Cw
open Go.RowKit
set_option linter.unusedVariables false
set_option linter.unusedSimpArgs false

theorem jnS_size (l : List En) : (jnS l).size = if arB l = true then (jnB l).length else 0 := by
  unfold jnS
  split
  · show (jnB l).toArray.size = _
    rw [List.size_toArray]
  · rfl
theorem S_size {x : En} (h : x.R) : x.S.size = x.B.length := by
  rw [(S_yes h).1]
  show x.B.toArray.size = _
  rw [List.size_toArray]

theorem size_calls (w : World) (v : Value) (l : List En) (hl : Sv w v l) (hok : ∀ x ∈ l, x.Ok) (hn : l.length ≤ 1466015503701) (hb : Hb l) :
    Calls Try.prog 14 #[v] w fun e w' => e = .returned (.tuple #[.int .i64 ((jnS l).size : Nat), .int .i64 (jnE l)]) ∧ Fr w w' (fun _ => False) := by
  have JC := hid (joined_calls w v l hl hok hn hb)
  clear hl hok hn hb
  generalize jnS l = J at *
  go_enter Try.func14, Try.ntmps14
  go_wp2_with (first | (go_at_call 16; refine JC.out.mono ?_; rintro e w1 ⟨rfl, hf1⟩))
  go_ret2
  exact ⟨rfl, hf1⟩

set_option maxRecDepth 100000 in
set_option maxHeartbeats 6400000 in
theorem refSize_calls (w : World) (v : Value) (l : List En) (hl : Sv w v l) (hok : ∀ x ∈ l, x.Ok) (hn : l.length ≤ 1466015503701) (hb : Hb l) :
    Calls Try.prog 15 #[v] w fun e w' => e = .returned (.tuple #[.int .i64 ((jnS l).size : Nat), .int .i64 (jnE l)]) ∧ Fr w w' (fun _ => False) := by
  obtain ⟨A, cap, rfl, h1, h2, h3⟩ := hl
  have HA := hid (fun hn => h3 hn)
  have HX := hid (fun (i : Nat) (hi : i < l.length) => (⟨l[i], List.getElem?_eq_getElem hi, hok _ (List.getElem_mem hi)⟩ : ∃ x, l[i]? = some x ∧ x.Ok))
  have HNN := hid (fun (i : Nat) (x : En) (hx : l[i]? = some x) => (fun e => by rw [e] at hx; simp at hx : ¬ l = []))
  have HTK := hid (fun (i : Nat) (x : En) (hx : l[i]? = some x) => jnB_take hx)
  have HAR := hid (fun (i : Nat) (x : En) (hx : l[i]? = some x) (hr : x.R) (ha : arB (l.take i) = true) => arB_take hx hr ha)
  have HNO : Hid (∀ (i : Nat) (x : En), l[i]? = some x → ¬ x.R → (jnS l).size = 0 ∧ jnE l = 4) := hid (fun i x hx hr => by
    rw [jnS_size]
    unfold jnE
    rw [arB_no hx hr]
    exact ⟨rfl, rfl⟩)
  have HYES : Hid (arB (l.take l.length) = true → (jnS l).size = (jnB (l.take l.length)).length ∧ jnE l = 0) := hid (fun h => by
    rw [List.take_length] at *
    rw [jnS_size]
    unfold jnE
    rw [h]
    exact ⟨rfl, rfl⟩)
  have HBL := hid hb
  clear h3 hok h2 hb
  generalize hN : l.length = N at *
  clear hN
  go_enter Try.func15, Try.ntmps15
  go_wp2_with fail
  go_loopw [4, 11] (fun nv t wr => ∃ i : Nat, i ≤ N ∧ t = .int .i64 i ∧ nv = .int .i64 ((jnB (l.take i)).length : Nat) ∧ Fr w wr (fun _ => False) ∧ arB (l.take i) = true) (fun _ t _ => N - (intOf t).toNat)
  case atStart => exact ⟨0, by omega, rfl, rfl, Fr.refl w _, rfl⟩
  case round =>
    obtain ⟨i, hi, rfl, rfl, hf, har⟩ := hrel
    by_cases hlt : i < N
    · obtain ⟨x, hx, hok⟩ := HX.out i hlt
      obtain ⟨b, off, rfl, hbb, hat⟩ := HA.out (HNN.out i x hx)
      obtain ⟨c0, c1, c2, c3, c4, c5, c6, c7, c8⟩ := (hat.fr hf).nine hx
      have HF := hid hf
      have HAS := hid har
      have HXX := hid hx
      have EC := hid (fun (W : World) => refEncE_calls W x hok)
      clear hf har hx hat hok
      by_cases hr : x.R
      · have hle1 := HBL.out (i + 1) (HAR.out i x HXX.out hr HAS.out)
        rw [HTK.out i x HXX.out, List.length_append] at hle1
        have HSZ := hid (S_size hr)
        rw [(S_yes hr).2] at EC
        have HR := hid hr
        clear hr
        obtain ⟨xB, hxB⟩ : ∃ xB, x.B = xB := ⟨_, rfl⟩
        rw [hxB] at HSZ hle1
        have HXB := hid hxB
        clear hxB
        obtain ⟨lb, hlb⟩ : ∃ lb, xB.length = lb := ⟨_, rfl⟩
        obtain ⟨nb, hnb⟩ : ∃ nb, (jnB (l.take i)).length = nb := ⟨_, rfl⟩
        rw [hlb] at HSZ hle1
        rw [hnb] at hle1 ⊢
        have hbnd : nb + lb ≤ 70368744177664 := by omega
        have HLB := hid hlb
        have HNB := hid hnb
        clear hlb hnb hle1
        obtain ⟨xS, hxS⟩ : ∃ xS, x.S = xS := ⟨_, rfl⟩
        rw [hxS] at EC HSZ
        have hsz := HSZ.out
        clear hxS
        obtain ⟨xa, xb, xc, xk, xt, xn, xp, xq, xr⟩ := x
        unfold En.V enV at EC
        simp only at c0 c1 c2 c3 c4 c5 c6 c7 c8 EC
        go_wp2_with (first
          | (go_at_call 29
             refine (EC.out _).mono ?_
             rintro e w3 ⟨rfl, hf3⟩
             have HF3 := hid (HF.out.trans ((Fr.alloc (Fr.refl wr (fun _ => False)) (.cells #[.int .i64 xa, .int .i64 xb, .int .i64 xc, .int .i64 xk, .int .i64 xt, .int .i64 xn, .string xp, .string xq, .string xr] 52)).trans hf3))
             clear hf3))
        go_roundw
        case rel => exact ⟨i + 1, by omega, by go_num, by rw [HTK.out i _ HXX.out, List.length_append, HXB.out, HLB.out, HNB.out]; go_num, HF3.out, HAR.out i _ HXX.out HR.out HAS.out⟩
        case measure => simp [intOf]; omega
      · rw [(S_no hr).1, (S_no hr).2] at EC
        have HNR := hid (HNO.out i x HXX.out hr)
        clear hr
        generalize (jnB (l.take i)).length = nb at *
        obtain ⟨xa, xb, xc, xk, xt, xn, xp, xq, xr⟩ := x
        unfold En.V enV at EC
        simp only at c0 c1 c2 c3 c4 c5 c6 c7 c8 EC
        go_wp2_with (first
          | (go_at_call 29
             refine (EC.out _).mono ?_
             rintro e w3 ⟨rfl, hf3⟩))
        go_ret2
        refine ⟨by rw [HNR.out.1, HNR.out.2]; rfl, HF.out.trans (Fr.trans (Fr.alloc (Fr.refl wr _) _) hf3)⟩
    · have he : i = N := by omega
      subst he
      have HY := hid (HYES.out har)
      have HF := hid hf
      clear hf har
      generalize (jnB (l.take i)).length = nb at *
      go_wp2_with fail
      go_ret2
      exact ⟨by rw [HY.out.1, HY.out.2]; rfl, HF.out⟩
end Go.Proofs.Ytmnmmmoeeapeiaa.Cw

/- Seal and Open, both. Own work. -/
namespace Go.Proofs.Ytmnmmmoeeapeiaa.Cw
open Go.RowKit
set_option linter.unusedVariables false
set_option linter.unusedSimpArgs false

/-- A text that carries its sum. -/
def sealS (s : ByteArray) : ByteArray := s ++ ⟨(fixB (crc s.data.toList) 4).toArray⟩

theorem fixed23_calls (w : World) (n : Nat) (hn : n < 4294967296) :
    Calls Try.prog 38 #[.int .i64 n, .int .i64 4] w fun e w' => e = .returned (.string ⟨(fixB n 4).toArray⟩) ∧ Fr w w' (fun _ => False) := by
  have HN := hid hn
  clear hn
  go_enter Try.func38, Try.ntmps38
  go_wp2_with (first
    | (go_at_call 20; refine (new_calls w).mono ?_; rintro e w1 ⟨rfl, hb, hf1⟩; have hw : Wr w1 w.heap.size (.slice none 0 0) [] := ⟨hb, World.ownsRow_nil _ _ _ _⟩)
    | (go_at_call 60; refine (wFixed_calls w1 w.heap.size _ [] n 4 (by omega) (by have := HN.out; omega) (by have := HN.out; omega) hw (by unfold Len; simp)).mono ?_; rintro e w2 ⟨rfl, v2, hw2, hf2, hn2⟩; rw [List.nil_append] at hw2)
    | (go_at_call 22; refine (wOut_calls w2 w.heap.size v2 _ hw2).mono ?_; rintro e w3 ⟨rfl, rfl⟩))
  go_ret
  exact ⟨rfl, hf1.fresh hf2 (fun i hi => by rcases hi with rfl | hi; exact Nat.le_refl _; cases hi)⟩

set_option maxRecDepth 100000 in
theorem seal_calls (w : World) (s : ByteArray) (hs : s.size ≤ 70368744177664) :
    Calls Try.prog 23 #[.string s] w fun e w' => e = .returned (.string (sealS s)) ∧ Fr w w' (fun _ => False) := by
  have SO := hid (fun (W : World) => sumOf_calls W s (by unfold maxLen; omega))
  have FC := hid (fun (W : World) => fixed23_calls W (crc s.data.toList) (crc_lt s.data.toList))
  unfold sealS
  have hz : (⟨(fixB (crc s.data.toList) 4).toArray⟩ : ByteArray).size = 4 := rfl
  have hss : ¬ 9223372036854775807 < s.size + (⟨(fixB (crc s.data.toList) 4).toArray⟩ : ByteArray).size := by rw [hz]; omega
  clear hs
  generalize crc s.data.toList = q at *
  generalize (⟨(fixB q 4).toArray⟩ : ByteArray) = fx at *
  go_enter Try.func23, Try.ntmps23
  go_wp2_with (first
    | (go_at_call 39; refine (SO.out _).mono ?_; rintro e w' ⟨rfl, rfl⟩)
    | (go_at_call 38; refine (FC.out _).mono ?_; rintro e w3 ⟨rfl, hf3⟩))
  go_ret
  exact ⟨rfl, hf3⟩
set_option maxRecDepth 100000 in
theorem refSeal_calls (w : World) (s : ByteArray) (hs : s.size ≤ 70368744177664) :
    Calls Try.prog 30 #[.string s] w fun e w' => e = .returned (.string (sealS s)) ∧ Fr w w' (fun _ => False) := by
  have SO := hid (fun (W : World) => refOf_calls W s (by unfold maxLen; omega))
  have hq := crc_lt s.data.toList
  have FC := hid (fun (W : World) => refFixed_calls W (crc s.data.toList) 4 (by omega) (by omega))
  unfold sealS
  have hz : (⟨(fixB (crc s.data.toList) 4).toArray⟩ : ByteArray).size = 4 := rfl
  have hss : ¬ 9223372036854775807 < s.size + (⟨(fixB (crc s.data.toList) 4).toArray⟩ : ByteArray).size := by rw [hz]; omega
  clear hs hq
  generalize crc s.data.toList = q at *
  generalize (⟨(fixB q 4).toArray⟩ : ByteArray) = fx at *
  go_enter Try.func30, Try.ntmps30
  go_wp2_with (first
    | (go_at_call 52; refine (SO.out _).mono ?_; rintro e w' ⟨rfl, rfl⟩)
    | (go_at_call 51; refine (FC.out _).mono ?_; rintro e w3 ⟨rfl, hf3⟩))
  go_ret
  exact ⟨rfl, hf3⟩
end Go.Proofs.Ytmnmmmoeeapeiaa.Cw
