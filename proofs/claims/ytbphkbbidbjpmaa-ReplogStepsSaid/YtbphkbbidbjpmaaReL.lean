/- Replace, whatever it answers. Own work. -/
import Derived.Test.YtbphkbbidbjpmaaReK
namespace Go.Proofs.Ytbphkbbidbjpmaa.Cw
open Go.RowKit
set_option linter.unusedVariables false
set_option linter.unusedSimpArgs false

def allR (l : List En) : Prop := ∀ x ∈ l, x.R
instance (l : List En) : Decidable (allR l) := by unfold allR; infer_instance
/-- What Replace answers, and what the log is then. -/
def rpE (es : List En) (k : Int) (ns : List En) : Int :=
  if k < 0 ∨ (es.length : Int) < k then 1 else if ¬ allR ns then 4 else if srt (es.take k.toNat ++ ns) = false then 7 else if 4096 < (es.take k.toNat).length + ns.length then 5 else 0
def rpL (es : List En) (k : Int) (ns : List En) : List En := if rpE es k ns = 0 then es.take k.toNat ++ ns else es

def RP (w : World) (g : Nat) (v : Value) (r : Int) (fs : List En) (e : Ending) (w' : World) : Prop := e = .returned (.int .i64 r) ∧ ∃ v', Lw w' g v' fs ∧ Fr w w' (fun i => i = g) ∧ Wn w v v'
/-- Replace's end: L0 is what is kept. -/
def RX (w : World) (g : Nat) (v : Value) (es L0 ns : List En) (e : Ending) (w' : World) : Prop := ∃ r fs, RP w g v r fs e w' ∧ r = (if srt (L0 ++ ns) = false then 7 else if 4096 < L0.length + ns.length then 5 else 0) ∧ fs = (if r = 0 then L0 ++ ns else es)
theorem RP.stay {w w' : World} {g : Nat} {v : Value} {es : List En} {r : Int} (h : Lw w g v es) (hf : Fr w w' (fun _ => False)) : RP w g v r es (.returned (.int .i64 r)) w' :=
  ⟨rfl, v, h.heap hf, hf.mono (fun _ _ x => x.elim), Wn.refl w v⟩
theorem RP.done {w w4 w5 : World} {g : Nat} {v v' : Value} {es fs : List En} (h : Lw w4 g v es) (h4 : Fr w w4 (fun _ => False)) (hf : Fr w4 w5 (fun _ => False)) (hW : WR w4 v' fs) (hw : Wn w v v') : RP w g v 0 fs (.returned (.int .i64 0)) (w5.setCell ⟨g, 0, none⟩ v') :=
  ⟨rfl, v', Lw.put (h.heap hf).1 (hW.fr hf (fun _ _ x => x)), Fr.set (S := fun i => i = g) ((h4.trans hf).mono (fun _ _ x => x.elim)) ⟨g, 0, none⟩ (fun _ => rfl) v', hw⟩

set_option maxRecDepth 100000 in
set_option maxHeartbeats 1600000 in
theorem replace_arg (w : World) (g : Nat) (v u : Value) (es : List En) (k : Int) (h : Lw w g v es) (hk : k < 0 ∨ (es.length : Int) < k) :
    Calls Try.prog 20 #[.pointer (some ⟨g, 0, none⟩), .int .i64 k, u] w fun e w' => e = .returned (.int .i64 1) ∧ Fr w w' (fun _ => False) := by
  obtain ⟨A, cap, rfl, _, _⟩ := h.shape
  have c0 := h.c0
  clear h
  generalize es.length = N at *
  by_cases h1 : k < 0
  · clear hk
    go_enter Try.func20, Try.ntmps20
    go_wp2
    go_ret
    exact ⟨rfl, Fr.refl w _⟩
  · have h2 : (N : Int) < k := by omega
    have h3 : 0 ≤ k := by omega
    clear hk
    go_enter Try.func20, Try.ntmps20
    go_wp2_with (go_at_call 18; refine (len_cell _ _ _ _ _ c0).mono ?_; rintro e w' ⟨rfl, rfl⟩)
    go_ret
    exact ⟨rfl, Fr.refl _ _⟩

theorem allR_step {l : List En} {i : Nat} {x : En} (hx : l[i]? = some x) (hR : x.R) (h : allR (l.take i)) : allR (l.take (i + 1)) := by
  obtain ⟨hi, e⟩ := List.getElem?_eq_some_iff.1 hx
  intro y hy
  rw [List.take_succ_eq_append_getElem hi, List.mem_append, List.mem_singleton] at hy
  rcases hy with hy | hy
  · exact h y hy
  · rw [hy, e]; exact hR

set_option maxRecDepth 100000 in
set_option maxHeartbeats 3200000 in
theorem replace_form (w : World) (g : Nat) (v u : Value) (es ns : List En) (k : Nat) (h : Lw w g v es) (hk : k ≤ es.length) (hu : Sv w u ns) (hn : ns.length ≤ 4611686018427387904) (hes : es.length ≤ 4096) (hR : ¬ allR ns) :
    Calls Try.prog 20 #[.pointer (some ⟨g, 0, none⟩), .int .i64 k, u] w fun e w' => e = .returned (.int .i64 4) ∧ Fr w w' (fun _ => False) := by
  obtain ⟨A, cap, rfl, _, _⟩ := h.shape
  obtain ⟨B, ucap, rfl, u1, u2, u3⟩ := hu
  have c0 := h.c0
  have hnn : ns ≠ [] := by
    intro e
    subst e
    exact hR (by intro x hx; simp at hx)
  obtain ⟨b, off, rfl, hb, HA⟩ := u3 hnn
  have HA := hid HA
  have HX := hid (fun (i : Nat) (hi : i < ns.length) => (⟨_, List.getElem?_eq_getElem hi⟩ : ∃ x, ns[i]? = some x))
  have HS := hid (fun (i : Nat) (x : En) (hx : ns[i]? = some x) (hR : x.R) (h : allR (ns.take i)) => allR_step hx hR h)
  have HE := hid (fun (h : allR (ns.take ns.length)) => (by rw [List.take_length] at h; exact hR h : False))
  clear h u3 hnn hR
  generalize es.length = N at *
  generalize ns.length = M at *
  have hd : decide ((N : Int) < k) = false := decide_eq_false (by omega)
  have hd0 : decide ((k : Int) < 0) = false := decide_eq_false (by omega)
  have hdn : decide (N < k) = false := decide_eq_false (by omega)
  go_enter Try.func20, Try.ntmps20
  go_wp2_with (go_at_call 18; refine (len_cell _ _ _ _ _ c0).mono ?_; rintro e w' ⟨rfl, rfl⟩)
  go_loopw [20] (fun t wr => ∃ i : Nat, i ≤ M ∧ t = .int .i64 i ∧ allR (ns.take i) ∧ Fr w' wr (fun _ => False)) (fun t _ => M - (intOf t).toNat)
  case atStart => exact ⟨0, by omega, rfl, by intro x hx; simp at hx, Fr.refl _ _⟩
  case round =>
    obtain ⟨i, hi, rfl, hs, hf⟩ := hrel
    by_cases hlt : i < M
    · obtain ⟨x, hx⟩ := HX.out i hlt
      obtain ⟨a0, a1, a2, a3, a4, a5, a6, a7, a8⟩ := (HA.out.fr hf).nine hx
      have HF := hid hf
      by_cases hxR : x.R
      · have HT := hid (HS.out i x hx hxR hs)
        have RC := hid (fun W => right_calls W x.a x.b x.c x.k x.t x.n x.p x.q x.r)
        rw [decide_eq_true (show Rt x.a x.b x.c x.p x.q x.r from hxR)] at RC
        clear hs hx hf hxR
        obtain ⟨a, b, c, k, t, n, p, q, r⟩ := x
        unfold enV at RC
        simp only at a0 a1 a2 a3 a4 a5 a6 a7 a8 RC
        go_wp2_with fail
        refine (RC.out _).mono ?_
        rintro e w2 ⟨rfl, hf2⟩
        go_wp2_with fail
        go_round
        case rel => exact ⟨i + 1, by omega, by go_num, HT.out, (HF.out.alloc _).trans hf2⟩
        case measure => simp [intOf]; omega
      · have RC := hid (fun W => right_calls W x.a x.b x.c x.k x.t x.n x.p x.q x.r)
        rw [decide_eq_false (show ¬ Rt x.a x.b x.c x.p x.q x.r from hxR)] at RC
        clear hs hx hf hxR
        obtain ⟨a, b, c, k, t, n, p, q, r⟩ := x
        unfold enV at RC
        simp only at a0 a1 a2 a3 a4 a5 a6 a7 a8 RC
        go_wp2_with fail
        refine (RC.out _).mono ?_
        rintro e w2 ⟨rfl, hf2⟩
        go_wp2_with fail
        go_ret
        exact ⟨rfl, (HF.out.alloc _).trans hf2⟩
    · have he : i = M := by omega
      subst he
      exact (HE.out hs).elim

theorem Wn.cut {w : World} {b n cap k k2 : Nat} : Wn w (.slice (some ⟨b, 0, none⟩) n cap) (.slice (some ⟨b, 0, none⟩) k k2) := fun _ h => .inl h
theorem Wn.new {w w4 : World} {v : Value} {g n cap : Nat} (h : w.heap.size ≤ g) : Wn w v (.slice (some ⟨g, 0, none⟩) n cap) := fun b hb => by
  injection hb with hb
  have hb : g = b := hb
  exact .inr (by omega)

end Go.Proofs.Ytbphkbbidbjpmaa.Cw
