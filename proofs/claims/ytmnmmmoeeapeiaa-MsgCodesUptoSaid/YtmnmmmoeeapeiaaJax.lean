/- Entries' bytes, one behind the other: plain, and replog's Encode whatever the entry. Own work. -/
import Derived.Test.YtmnmmmoeeapeiaaJav
import Derived.Test.YtmnmmmoeeapeiaaJaw
namespace Go.Proofs.Ytmnmmmoeeapeiaa.Cw
open Go.RowKit
set_option linter.unusedVariables false
set_option linter.unusedSimpArgs false

instance (x : En) : Decidable x.R := by unfold En.R; infer_instance
def En.B (x : En) : List UInt8 := enB x.a x.b x.c x.k x.t x.n x.p x.q x.r
/-- An entry's bytes, if it is right. -/
def En.S (x : En) : ByteArray := if x.R then ⟨x.B.toArray⟩ else ⟨#[]⟩
def En.E (x : En) : Int := if x.R then 0 else 4
def jnB (l : List En) : List UInt8 := l.flatMap En.B
def arB (l : List En) : Bool := l.all (fun x => decide x.R)
/-- What joined answers. -/
def jnE (l : List En) : Int := if arB l = true then 0 else 4
def jnS (l : List En) : ByteArray := if arB l = true then ⟨(jnB l).toArray⟩ else ⟨#[]⟩

theorem jnB_take {l : List En} {i : Nat} {x : En} (h : l[i]? = some x) : jnB (l.take (i + 1)) = jnB (l.take i) ++ x.B := by
  obtain ⟨hi, e⟩ := List.getElem?_eq_some_iff.1 h
  unfold jnB
  rw [List.take_succ_eq_append_getElem hi, List.flatMap_append, e]
  simp
theorem jnB_le (l : List En) (i : Nat) : (jnB (l.take i)).length ≤ (jnB l).length := by
  have : jnB l = jnB (l.take i) ++ jnB (l.drop i) := by
    unfold jnB
    rw [← List.flatMap_append, List.take_append_drop]
  rw [this, List.length_append]
  omega
theorem arB_take {l : List En} {i : Nat} {x : En} (h : l[i]? = some x) (hr : x.R) (ha : arB (l.take i) = true) : arB (l.take (i + 1)) = true := by
  obtain ⟨hi, e⟩ := List.getElem?_eq_some_iff.1 h
  unfold arB at *
  rw [List.take_succ_eq_append_getElem hi, List.all_append, ha, e]
  simp [hr]
theorem arB_no {l : List En} {i : Nat} {x : En} (h : l[i]? = some x) (hr : ¬ x.R) : arB l = false := by
  unfold arB
  rw [List.all_eq_false]
  exact ⟨x, List.mem_of_getElem? h, by simpa using hr⟩
/-- What right entries at the beginning have is short enough to be kept. -/
def Hb (l : List En) : Prop := ∀ i, arB (l.take i) = true → (jnB (l.take i)).length ≤ 70368744177664
theorem Hb.all {l : List En} (h : Hb l) (ha : arB l = true) : (jnB l).length ≤ 70368744177664 := by
  have := h l.length (by rw [List.take_length]; exact ha)
  rwa [List.take_length] at this
theorem encE_calls (w : World) (x : En) (h : x.Ok) :
    Calls Try.prog 34 #[x.V] w fun e w' => e = .returned (.tuple #[.string x.S, .int .i64 x.E]) ∧ Fr w w' (fun _ => False) := by
  unfold En.S En.E
  by_cases hr : x.R
  · rw [if_pos hr, if_pos hr]
    obtain ⟨a, b, c, k, t, n, p, q, r⟩ := x
    have hr2 : Rt a b c p q r := hr
    obtain ⟨a, rfl⟩ : ∃ a' : Nat, a = a' := ⟨a.toNat, by unfold Rt at hr2; omega⟩
    obtain ⟨b, rfl⟩ : ∃ b' : Nat, b = b' := ⟨b.toNat, by unfold Rt at hr2; omega⟩
    obtain ⟨c, rfl⟩ : ∃ c' : Nat, c = c' := ⟨c.toNat, by unfold Rt at hr2; omega⟩
    exact encode_yes w a b c k t n p q r hr2 h.1.2.2.2.1 h.1.2.2.2.2.1 h.1.2.2.2.2.2
  · rw [if_neg hr, if_neg hr]
    exact encode_no w x.a x.b x.c x.k x.t x.n x.p x.q x.r hr
theorem refEncE_calls (w : World) (x : En) (h : x.Ok) :
    Calls Try.prog 29 #[x.V] w fun e w' => e = .returned (.tuple #[.string x.S, .int .i64 x.E]) ∧ Fr w w' (fun _ => False) := by
  unfold En.S En.E
  by_cases hr : x.R
  · rw [if_pos hr, if_pos hr]
    obtain ⟨a, b, c, k, t, n, p, q, r⟩ := x
    have hr2 : Rt a b c p q r := hr
    obtain ⟨a, rfl⟩ : ∃ a' : Nat, a = a' := ⟨a.toNat, by unfold Rt at hr2; omega⟩
    obtain ⟨b, rfl⟩ : ∃ b' : Nat, b = b' := ⟨b.toNat, by unfold Rt at hr2; omega⟩
    obtain ⟨c, rfl⟩ : ∃ c' : Nat, c = c' := ⟨c.toNat, by unfold Rt at hr2; omega⟩
    exact refEncode_yes w a b c k t n p q r hr2 h.1.2.2.2.1 h.1.2.2.2.2.1 h.1.2.2.2.2.2
  · rw [if_neg hr, if_neg hr]
    exact refEncode_no w x.a x.b x.c x.k x.t x.n x.p x.q x.r hr
end Go.Proofs.Ytmnmmmoeeapeiaa.Cw

/- joined. Own work. -/
namespace Go.Proofs.Ytmnmmmoeeapeiaa.Cw
open Go.RowKit
set_option linter.unusedVariables false
set_option linter.unusedSimpArgs false

theorem Fr.belowed23 {w a b : World} (h : Fr w a (fun _ => False)) (hb : Below w.heap.size a b) : Fr w b (fun _ => False) :=
  ⟨hb.os.trans h.os, hb.tape.trans h.tape, hb.output.trans h.output, Nat.le_trans h.size hb.size, fun i hi _ => (hb.block i hi).trans (h.block i hi (fun x => x))⟩
theorem byte_app (a b : List UInt8) : Lib.byteCells (a ++ b) = Lib.byteCells a ++ Lib.byteCells b := List.map_append
theorem S_yes {x : En} (h : x.R) : x.S = ⟨x.B.toArray⟩ ∧ x.E = 0 := ⟨if_pos h, if_pos h⟩
theorem S_no {x : En} (h : ¬ x.R) : x.S = ⟨#[]⟩ ∧ x.E = 4 := ⟨if_neg h, if_neg h⟩
theorem str_of (l : List UInt8) : Lib.strCells ⟨l.toArray⟩ = Lib.byteCells l := rfl

theorem ownsRow_fr23 {w w' : World} {B : Nat} {t : TypeId} {k : Nat} {v : Value} {n : Nat} {xs : List Value} (h : w.ownsRow B t k v n xs) (hf : Fr w w' (fun _ => False)) : w'.ownsRow B t k v n xs := by
  refine ⟨h.1, ?_⟩
  rcases h.2 with hn | ⟨g', cap, cur, rfl, hb, hg, hr⟩
  · exact .inl hn
  · exact .inr ⟨g', cap, cur, rfl, hb, hf.at_ hg (fun x => x), hr⟩
theorem isb_fr {T e : TypeId} {B b : Nat} {bs : List Value} {w w' : World} (h : Lib.IsBuilder T e B b bs w) (hf : Fr w w' (fun _ => False)) : Lib.IsBuilder T e B b bs w' := by
  rcases h with ⟨h1, v, h2, h3, h4⟩ | ⟨h1, v, h2, h3, h4⟩
  · exact .inl ⟨h1, v, hf.at_ h2 (fun x => x), ownsRow_fr23 h3 hf, h4⟩
  · exact .inr ⟨h1, v, hf.at_ h2 (fun x => x), ownsRow_fr23 h3 hf, h4⟩

set_option maxRecDepth 100000 in
set_option maxHeartbeats 6400000 in
theorem joined_calls (w : World) (v : Value) (l : List En) (hl : Sv w v l) (hok : ∀ x ∈ l, x.Ok) (hn : l.length ≤ 1466015503701) (hb : Hb l) :
    Calls Try.prog 16 #[v] w fun e w' => e = .returned (.tuple #[.string (jnS l), .int .i64 (jnE l)]) ∧ Fr w w' (fun _ => False) := by
  obtain ⟨A, cap, rfl, h1, h2, h3⟩ := hl
  have HA := hid (fun hn => h3 hn)
  have HX := hid (fun (i : Nat) (hi : i < l.length) => (⟨l[i], List.getElem?_eq_getElem hi, hok _ (List.getElem_mem hi)⟩ : ∃ x, l[i]? = some x ∧ x.Ok))
  have HNN := hid (fun (i : Nat) (x : En) (hx : l[i]? = some x) => (fun e => by rw [e] at hx; simp at hx : ¬ l = []))
  have HTK := hid (fun (i : Nat) (x : En) (hx : l[i]? = some x) => jnB_take hx)
  have HAR := hid (fun (i : Nat) (x : En) (hx : l[i]? = some x) (hr : x.R) (ha : arB (l.take i) = true) => arB_take hx hr ha)
  have HNO : Hid (∀ (i : Nat) (x : En), l[i]? = some x → ¬ x.R → jnS l = ⟨#[]⟩ ∧ jnE l = 4) := hid (fun i x hx hr => by
    unfold jnS jnE
    rw [arB_no hx hr]
    exact ⟨rfl, rfl⟩)
  have HYES : Hid (arB (l.take l.length) = true → jnS l = ⟨(jnB (l.take l.length)).toArray⟩ ∧ jnE l = 0) := hid (fun h => by
    rw [List.take_length] at *
    unfold jnS jnE
    rw [h]
    exact ⟨rfl, rfl⟩)
  have HBL := hid hb
  clear h3 hok h2 hb
  generalize hN : l.length = N at *
  have HN := hid hN
  clear hN
  have HB0 := Lib.fresh_isBuilder 78 5 w
  have HF2 := hid (Fr.alloc (Fr.refl w (fun _ => False)) (.cells #[.pointer none, .slice none 0 0] 78))
  go_enter Try.func16, Try.ntmps16
  go_wp2_with fail
  obtain ⟨B, hB⟩ : ∃ B, w.heap.size = B := ⟨_, rfl⟩
  rw [hB] at HB0
  have HB0 := hid HB0
  have HB : Hid (w.heap.size = B) := hid hB
  rw [hB]
  clear hB
  generalize w.alloc (.cells #[.pointer none, .slice none 0 0] 78) = w2 at *
  go_loopw [11] (fun t wr => ∃ i : Nat, i ≤ N ∧ t = .int .i64 i ∧ Fr w wr (fun _ => False) ∧ Lib.IsBuilder 78 5 B B (Lib.byteCells (jnB (l.take i))) wr ∧ arB (l.take i) = true) (fun t _ => N - (intOf t).toNat)
  case atStart => exact ⟨0, by omega, rfl, HF2.out, HB0.out, rfl⟩
  case round =>
    obtain ⟨i, hi, rfl, hf, hbl, har⟩ := hrel
    by_cases hlt : i < N
    · obtain ⟨x, hx, hok⟩ := HX.out i hlt
      obtain ⟨b, off, rfl, hbb, hat⟩ := HA.out (HNN.out i x hx)
      obtain ⟨c0, c1, c2, c3, c4, c5, c6, c7, c8⟩ := (hat.fr hf).nine hx
      have HF := hid hf
      have HIB := hid hbl
      have HAS := hid har
      have HXX := hid hx
      have EC := hid (fun (W : World) => encE_calls W x hok)
      clear hf hbl har hx hat hok
      by_cases hr : x.R
      · have hle1 := HBL.out (i + 1) (HAR.out i x HXX.out hr HAS.out)
        rw [HTK.out i x HXX.out, List.length_append] at hle1
        have HL1 := hid hle1
        clear hle1
        rw [(S_yes hr).1, (S_yes hr).2] at EC
        have HR := hid hr
        clear hr
        obtain ⟨xB, hxB⟩ : ∃ xB, x.B = xB := ⟨_, rfl⟩
        rw [hxB] at EC HL1
        have HXB := hid hxB
        clear hxB
        obtain ⟨xa, xb, xc, xk, xt, xn, xp, xq, xr⟩ := x
        unfold En.V enV at EC
        simp only at c0 c1 c2 c3 c4 c5 c6 c7 c8 EC
        go_wp2_with (first
          | (go_at_call 34
             refine (EC.out _).mono ?_
             rintro e w3 ⟨rfl, hf3⟩
             have hf4 := (Fr.alloc (Fr.refl wr (fun _ => False)) (.cells #[.int .i64 xa, .int .i64 xb, .int .i64 xc, .int .i64 xk, .int .i64 xt, .int .i64 xn, .string xp, .string xq, .string xr] 52)).trans hf3
             have HI3 := hid (isb_fr HIB.out hf4)
             have HF3 := hid (HF.out.trans hf4)
             clear hf3 hf4)
          | (go_at_call 35
             refine (Sh.write B B _ ⟨xB.toArray⟩ w3 HI3.out (by have := HL1.out; rw [Lib.byteCells_length]; show _ + xB.toArray.size ≤ _; rw [List.size_toArray]; omega) (by rw [← HB.out]; exact HF3.out.size)).mono ?_
             rintro e w5 ⟨rfl, hw5, hbw⟩))
        go_roundw
        case rel => exact ⟨i + 1, by omega, by go_num, Fr.belowed23 HF3.out (by rw [HB.out]; exact hbw), by rw [HTK.out i _ HXX.out, HXB.out, byte_app]; exact .inr hw5, HAR.out i _ HXX.out HR.out HAS.out⟩
        case measure => simp [intOf]; omega
      · rw [(S_no hr).1, (S_no hr).2] at EC
        have HNR := hid (HNO.out i x HXX.out hr)
        clear hr
        obtain ⟨xa, xb, xc, xk, xt, xn, xp, xq, xr⟩ := x
        unfold En.V enV at EC
        simp only at c0 c1 c2 c3 c4 c5 c6 c7 c8 EC
        go_wp2_with (first
          | (go_at_call 34
             refine (EC.out _).mono ?_
             rintro e w3 ⟨rfl, hf3⟩))
        go_ret2
        refine ⟨by rw [HNR.out.1, HNR.out.2]; rfl, HF.out.trans (Fr.trans (Fr.alloc (Fr.refl wr _) _) hf3)⟩
    · have he : i = N := by omega
      subst he
      have HY : Hid (jnS l = ⟨(jnB (l.take i)).toArray⟩ ∧ jnE l = 0) := hid (HYES.out har)
      have HF := hid hf
      have ST := hid (Sh.str B B (jnB (l.take i)) wr hbl (by rw [← HB.out]; exact hf.size))
      clear hf hbl har
      generalize jnB (l.take i) = J at *
      go_wp2_with (first
        | (go_at_call 36; refine ST.out.mono ?_; rintro e w3 ⟨rfl, hw3⟩))
      go_ret2
      exact ⟨by rw [HY.out.1, HY.out.2]; rfl, Fr.belowed23 HF.out (by rw [HB.out]; exact hw3)⟩
end Go.Proofs.Ytmnmmmoeeapeiaa.Cw
