/- Append, whatever it answers; a log that is made of entries. Own work. -/
import Derived.Test.YtbphkbbidbjpmaaReD
namespace Go.Proofs.Ytbphkbbidbjpmaa.Cw
open Go.RowKit
set_option linter.unusedVariables false
set_option linter.unusedSimpArgs false

instance (x : En) : Decidable x.R := by unfold En.R; infer_instance
/-- What Append makes of a log, and what it answers. -/
def app (es : List En) (x : En) : List En := if x.R ∧ ¬ x.a < lastV es ∧ es.length < 4096 then es ++ [x] else es
def apN (es : List En) (x : En) : Int := if x.R ∧ ¬ x.a < lastV es ∧ es.length < 4096 then ((es.length + 1 : Nat) : Int) else 0
def apE (es : List En) (x : En) : Int := if ¬ x.R then 4 else if x.a < lastV es then 7 else if es.length < 4096 then 0 else 5
theorem app_len {es : List En} (x : En) (h : es.length ≤ 4096) : (app es x).length ≤ 4096 := by
  unfold app
  split
  · rw [List.length_append, List.length_singleton]
    omega
  · exact h

set_option maxRecDepth 100000 in
set_option maxHeartbeats 1600000 in
theorem append_no (w : World) (P : Value) (x : En) (h : ¬ x.R) :
    Calls Try.prog 22 #[P, x.V] w fun e w' => e = .returned (.tuple #[.int .i64 0, .int .i64 4]) ∧ Fr w w' (fun _ => False) := by
  obtain ⟨a, b, c, k, t, n, p, q, r⟩ := x
  have RC := hid (fun w => right_calls w a b c k t n p q r)
  rw [decide_eq_false (show ¬ Rt a b c p q r from h)] at RC
  unfold En.V at *
  unfold enV at *
  clear h
  go_enter Try.func22, Try.ntmps22
  go_wp2_with fail
  refine (RC.out _).mono ?_
  rintro e w1 ⟨rfl, hf1⟩
  go_wp2_with fail
  go_ret2
  exact ⟨rfl, ((Fr.refl w _).alloc _).trans hf1⟩

set_option maxRecDepth 100000 in
set_option maxHeartbeats 3200000 in
theorem append_low (w : World) (g : Nat) (v : Value) (es : List En) (x : En) (h : Lg w g v es) (hR : x.R) (hv : x.a < lastV es) (hlen : es.length ≤ 4096) :
    Calls Try.prog 22 #[.pointer (some ⟨g, 0, none⟩), x.V] w fun e w' => e = .returned (.tuple #[.int .i64 0, .int .i64 7]) ∧ Fr w w' (fun _ => False) := by
  obtain ⟨a, b, c, k, t, n, p, q, r⟩ := x
  have RC := hid (fun w => right_calls w a b c k t n p q r)
  rw [decide_eq_true (show Rt a b c p q r from hR)] at RC
  unfold En.V at *
  unfold enV at *
  simp only at hv ⊢
  have HL := hid hlen
  have hvd : decide (a < lastV es) = true := decide_eq_true hv
  generalize hlv : lastV es = lv at hvd
  have HLV := hid hlv
  clear hlen hv hR hlv
  go_enter Try.func22, Try.ntmps22
  go_wp2_with fail
  refine (RC.out _).mono ?_
  rintro e w1 ⟨rfl, hf1⟩
  have hx1 := hf1.at_ (alloc_new w _) (fun x => x)
  have h1 := (h.alloc _).heap hf1
  have hA := ((Fr.refl w (fun _ => False)).alloc _).trans hf1
  have c0 := cell_blk hx1 0
  simp only [List.getElem?_toArray, List.getElem?_cons_zero, List.getElem?_cons_succ] at c0
  go_wp2_with fail
  have VC := hid (fun n => Calls.quiet_of (view_calls (w1.drewN n) g v es (h1.fr ((Fr.refl w1 (fun _ => False)).drewN n) (fun x => x) (fun _ _ x => x)) (by have := HL.out; omega)))
  rw [HLV.out] at VC
  go_quiet (first | (go_at_call 27; exact VC.out _))
  go_wp2_with fail
  go_ret2
  exact ⟨rfl, hA.drewN _⟩

set_option maxRecDepth 100000 in
set_option maxHeartbeats 3200000 in
theorem append_full (w : World) (g : Nat) (v : Value) (es : List En) (x : En) (h : Lg w g v es) (hR : x.R) (hv : ¬ x.a < lastV es) (hlen : es.length = 4096) :
    Calls Try.prog 22 #[.pointer (some ⟨g, 0, none⟩), x.V] w fun e w' => e = .returned (.tuple #[.int .i64 0, .int .i64 5]) ∧ Fr w w' (fun _ => False) := by
  obtain ⟨a, b, c, k, t, n, p, q, r⟩ := x
  have RC := hid (fun w => right_calls w a b c k t n p q r)
  rw [decide_eq_true (show Rt a b c p q r from hR)] at RC
  unfold En.V at *
  unfold enV at *
  simp only at hv ⊢
  have HL := hid hlen
  have hvd : decide (a < lastV es) = false := decide_eq_false hv
  generalize hlv : lastV es = lv at hvd
  have HLV := hid hlv
  clear hlen hv hR hlv
  go_enter Try.func22, Try.ntmps22
  go_wp2_with fail
  refine (RC.out _).mono ?_
  rintro e w1 ⟨rfl, hf1⟩
  have hx1 := hf1.at_ (alloc_new w _) (fun x => x)
  have h1 := (h.alloc _).heap hf1
  have hA := ((Fr.refl w (fun _ => False)).alloc _).trans hf1
  have c0 := cell_blk hx1 0
  simp only [List.getElem?_toArray, List.getElem?_cons_zero, List.getElem?_cons_succ] at c0
  go_wp2_with fail
  have VC := hid (fun n => Calls.quiet_of (view_calls (w1.drewN n) g v es (h1.fr ((Fr.refl w1 (fun _ => False)).drewN n) (fun x => x) (fun _ _ x => x)) (by have := HL.out; omega)))
  rw [HLV.out] at VC
  go_quiet (first | (go_at_call 27; exact VC.out _))
  go_wp2_with fail
  have h2 := h1.heap ((Fr.refl w1 (fun _ => False)).drewN nq)
  have hA2 := hA.drewN nq
  generalize w1.drewN nq = w2 at *
  have LC := len_calls w2 g v es h2
  rw [HL.out] at LC
  refine LC.mono ?_
  rintro e w3 ⟨rfl, rfl⟩
  go_wp2_with fail
  go_ret2
  exact ⟨rfl, hA2⟩

theorem append_any (w : World) (g : Nat) (v : Value) (es : List En) (x : En) (h : Lg w g v es) (hlen : es.length ≤ 4096) :
    Calls Try.prog 22 #[.pointer (some ⟨g, 0, none⟩), x.V] w fun e w' => e = .returned (.tuple #[.int .i64 (apN es x), .int .i64 (apE es x)]) ∧ ∃ v', Lg w' g v' (app es x) ∧ Fr w w' (WS g v) ∧ Wn w v v' := by
  have stay : ∀ w', Fr w w' (fun _ => False) → ¬ (x.R ∧ ¬ x.a < lastV es ∧ es.length < 4096) → ∃ v', Lg w' g v' (app es x) ∧ Fr w w' (WS g v) ∧ Wn w v v' := by
    intro w' hf hc
    refine ⟨v, ?_, hf.mono (fun _ _ x => x.elim), fun b hb => .inl hb⟩
    unfold app
    rw [if_neg hc]
    exact h.heap hf
  by_cases hR : x.R
  · by_cases hv : x.a < lastV es
    · have hc : ¬ (x.R ∧ ¬ x.a < lastV es ∧ es.length < 4096) := fun e => e.2.1 hv
      refine (append_low w g v es x h hR hv hlen).mono ?_
      rintro e w' ⟨rfl, hf⟩
      refine ⟨?_, stay w' hf hc⟩
      unfold apN apE
      rw [if_neg hc, if_neg (not_not_intro hR), if_pos hv]
    · by_cases hl : es.length < 4096
      · have hc : x.R ∧ ¬ x.a < lastV es ∧ es.length < 4096 := ⟨hR, hv, hl⟩
        refine (append_ok w g v es x h hR hv hl).mono ?_
        rintro e w' ⟨rfl, v', h1, h2, h3⟩
        refine ⟨?_, v', ?_, h2, h3⟩
        · unfold apN apE
          rw [if_pos hc, if_neg (not_not_intro hR), if_neg hv, if_pos hl]
        · unfold app
          rw [if_pos hc]
          exact h1
      · have hc : ¬ (x.R ∧ ¬ x.a < lastV es ∧ es.length < 4096) := fun e => hl e.2.2
        refine (append_full w g v es x h hR hv (by omega)).mono ?_
        rintro e w' ⟨rfl, hf⟩
        refine ⟨?_, stay w' hf hc⟩
        unfold apN apE
        rw [if_neg hc, if_neg (not_not_intro hR), if_neg hv, if_neg hl]
  · have hc : ¬ (x.R ∧ ¬ x.a < lastV es ∧ es.length < 4096) := fun e => hR e.1
    refine (append_no w _ x hR).mono ?_
    rintro e w' ⟨rfl, hf⟩
    refine ⟨?_, stay w' hf hc⟩
    unfold apN apE
    rw [if_neg hc, if_pos hR]

/-- The log that is made of entries. -/
def madeL (l : List En) : List En := l.foldl app []
theorem madeL_step (l : List En) (x : En) : madeL (l ++ [x]) = app (madeL l) x := by
  unfold madeL
  rw [List.foldl_append]
  rfl
theorem madeL_len (l : List En) : (madeL l).length ≤ 4096 := by
  have : ∀ (l es : List En), es.length ≤ 4096 → (l.foldl app es).length ≤ 4096 := by
    intro l
    induction l with
    | nil => intro es h; exact h
    | cons x r ih => intro es h; exact ih _ (app_len x h)
  exact this l [] (by simp)
/-- A log that may be: each of its beginnings is made as it is. -/
def Gd (es : List En) : Prop := ∀ i, i ≤ es.length → madeL (es.take i) = es.take i
theorem Gd.nil : Gd [] := fun i h => by simp [madeL]
theorem Gd.self {es : List En} (h : Gd es) : madeL es = es := by
  have := h es.length (Nat.le_refl _)
  rwa [List.take_length] at this
theorem Gd.take {es : List En} (h : Gd es) {n : Nat} (hn : n ≤ es.length) : Gd (es.take n) := by
  intro i hi
  rw [List.length_take] at hi
  rw [List.take_take, Nat.min_eq_left (by omega)]
  exact h i (by omega)
theorem Gd.app {es : List En} (h : Gd es) (x : En) : Gd (app es x) := by
  by_cases hc : x.R ∧ ¬ x.a < lastV es ∧ es.length < 4096
  · have he : Cw.app es x = es ++ [x] := if_pos hc
    rw [he]
    intro i hi
    rw [List.length_append, List.length_singleton] at hi
    by_cases h1 : i ≤ es.length
    · rw [List.take_append_of_le_length h1]
      exact h i h1
    · have : i = es.length + 1 := by omega
      subst this
      rw [List.take_of_length_le (by simp), madeL_step, h.self, he]
  · have he : Cw.app es x = es := if_neg hc
    rw [he]
    exact h
theorem madeL_gd (l : List En) : Gd (madeL l) := by
  have : ∀ (l es : List En), Gd es → Gd (l.foldl app es) := by
    intro l
    induction l with
    | nil => intro es h; exact h
    | cons x r ih => intro es h; exact ih _ (h.app x)
  exact this l [] Gd.nil
end Go.Proofs.Ytbphkbbidbjpmaa.Cw
