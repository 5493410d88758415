/- Replace, From and Get, whatever they answer; the logs that may be. Own work. -/
import Derived.Test.YtbphkbbidbjpmaaReM
namespace Go.Proofs.Ytbphkbbidbjpmaa.Cw
open Go.RowKit
set_option linter.unusedVariables false
set_option linter.unusedSimpArgs false

theorem rpE_of {es ns : List En} {k : Nat} (hk : k ≤ es.length) (hR : allR ns) : rpE es k ns = if srt (es.take k ++ ns) = false then 7 else if 4096 < (es.take k).length + ns.length then 5 else 0 := by
  unfold rpE
  rw [if_neg (by omega), if_neg (not_not_intro hR), Int.toNat_natCast]
theorem replace_any (w : World) (g : Nat) (v u : Value) (es ns : List En) (k : Int) (h : Lw w g v es) (hu : Sv w u ns) (hn : ns.length ≤ 1466015503701) (hes : es.length ≤ 4096) (hV : ∀ x ∈ es, VB x) :
    Calls Try.prog 20 #[.pointer (some ⟨g, 0, none⟩), .int .i64 k, u] w (RP w g v (rpE es k ns) (rpL es k ns)) := by
  by_cases hk : k < 0 ∨ (es.length : Int) < k
  · refine (replace_arg w g v u es k h hk).mono ?_
    rintro e w' ⟨rfl, hf⟩
    have hr : rpE es k ns = 1 := if_pos hk
    unfold rpL
    rw [hr, if_neg (by decide)]
    exact RP.stay h hf
  · obtain ⟨m, rfl⟩ : ∃ m : Nat, k = m := ⟨k.toNat, by omega⟩
    have hm : m ≤ es.length := by omega
    by_cases hR : allR ns
    · have hr := rpE_of hm hR
      have fin : ∀ e w', RX w g v es (es.take m) ns e w' → RP w g v (rpE es m ns) (rpL es m ns) e w' := by
        rintro e w' ⟨r, fs, h1, h2, h3⟩
        rw [← hr] at h2
        unfold rpL
        rw [Int.toNat_natCast, ← h2, ← h3]
        exact h1
      rcases h.2 with ⟨rfl, rfl⟩ | ⟨b, cap, cur, rfl, _, hc, _⟩
      · obtain rfl : m = 0 := by simpa using hm
        by_cases h0 : ns = []
        · exact (replaceN0 w g u ns h hu hn hR h0).mono fin
        · exact (replaceN1 w g u ns h hu hn hR h0).mono fin
      · by_cases h0 : ns = []
        · exact (replaceB0 w g b cap u es ns m h hm hc hu hn hes hV hR h0).mono fin
        · exact (replaceB1 w g b cap u es ns m h hm hc hu hn hes hV hR h0).mono fin
    · refine (replace_form w g v u es ns m h hm hu (by omega) hes hR).mono ?_
      rintro e w' ⟨rfl, hf⟩
      have hr : rpE es m ns = 4 := by
        unfold rpE
        rw [if_neg hk, if_pos hR]
      unfold rpL
      rw [hr, if_neg (by decide)]
      exact RP.stay h hf

/-- A log that may be. -/
def GE (es : List En) : Prop := allR es ∧ srt es = true ∧ es.length ≤ 4096
theorem GE.nil : GE [] := ⟨fun x hx => by simp at hx, rfl, by simp⟩
theorem GE.vb {es : List En} (h : GE es) : ∀ x ∈ es, VB x := fun x hx => ⟨(h.1 x hx).1.1, (h.1 x hx).1.2⟩
theorem srt_snoc : ∀ (es : List En) (x : En), srt es = true → (∀ y, es.getLast? = some y → y.a ≤ x.a) → srt (es ++ [x]) = true := by
  intro es
  induction es with
  | nil => intro x _ _; rfl
  | cons y r ih =>
    intro x h hl
    cases r with
    | nil =>
      have := hl y rfl
      simp [srt, this]
    | cons z r =>
      simp only [srt, Bool.and_eq_true] at h
      have := ih x h.2 (fun y hy => hl y (by rw [List.getLast?_cons_cons]; exact hy))
      simp only [List.cons_append] at this ⊢
      simp only [srt, Bool.and_eq_true]
      exact ⟨h.1, this⟩
theorem GE.app {es : List En} (h : GE es) (x : En) : GE (app es x) := by
  unfold Cw.app
  split
  · rename_i hc
    refine ⟨?_, srt_snoc es x h.2.1 ?_, by rw [List.length_append, List.length_singleton]; omega⟩
    · intro y hy
      rcases List.mem_append.1 hy with hy | hy
      · exact h.1 y hy
      · rw [List.mem_singleton] at hy
        rw [hy]
        exact hc.1
    · intro y hy
      have := hc.2.1
      unfold lastV at this
      rw [hy] at this
      simpa using this
  · exact h
theorem GE.rp {es : List En} (h : GE es) (k : Int) (ns : List En) : GE (rpL es k ns) := by
  unfold rpL
  split
  · rename_i hr
    unfold rpE at hr
    split at hr
    · cases hr
    · split at hr
      · cases hr
      · rename_i hR
        split at hr
        · cases hr
        · rename_i hs
          split at hr
          · cases hr
          · rename_i hl
            refine ⟨?_, by simpa using hs, by rw [List.length_append]; omega⟩
            intro y hy
            rcases List.mem_append.1 hy with hy | hy
            · exact h.1 y (List.mem_of_mem_take hy)
            · exact (Decidable.not_not.1 hR) y hy
  · exact h
theorem madeL_ge (l : List En) : GE (madeL l) := by
  have : ∀ (l es : List En), GE es → GE (l.foldl app es) := by
    intro l
    induction l with
    | nil => intro es h; exact h
    | cons x r ih => intro es h; exact ih _ (h.app x)
  exact this l [] GE.nil
/-- What is behind an entry, put there again. -/
theorem GE.same {es : List En} (h : GE es) {n : Nat} (hn : n ≤ es.length) : rpE es n (es.drop n) = 0 ∧ rpL es n (es.drop n) = es := by
  have hR : allR (es.drop n) := fun x hx => h.1 x (List.mem_of_mem_drop hx)
  have h0 : rpE es n (es.drop n) = 0 := by
    rw [rpE_of hn hR, List.take_append_drop, if_neg (by rw [h.2.1]; decide), if_neg]
    rw [List.length_take, List.length_drop]
    have := h.2.2
    omega
  refine ⟨h0, ?_⟩
  unfold rpL
  rw [if_pos h0, Int.toNat_natCast, List.take_append_drop]

set_option maxRecDepth 100000 in
set_option maxHeartbeats 3200000 in
theorem from_far (w : World) (g : Nat) (v : Value) (es : List En) (n mm : Int) (c0 : w.cell? ⟨g, 0, none⟩ = some v) (hs : Sv w v es) (hl : es.length ≤ 4096) (hn : (es.length : Int) < n) (hn1 : 1 ≤ n) :
    Calls Try.prog 15 #[.pointer (some ⟨g, 0, none⟩), .int .i64 n, .int .i64 mm] w fun e w' => e = .returned (.slice none 0 0) ∧ w' = w := by
  obtain ⟨A, cap, rfl, h1, h2, h3⟩ := hs
  generalize es.length = N at *
  clear h3
  go_enter Try.func15, Try.ntmps15
  go_wp2_with (go_at_call 18; refine (len_cell _ _ _ _ _ c0).mono ?_; rintro e w' ⟨rfl, rfl⟩)
  go_ret
  exact ⟨rfl, rfl⟩
set_option maxRecDepth 100000 in
set_option maxHeartbeats 3200000 in
theorem from_far0 (w : World) (g : Nat) (v : Value) (n mm : Int) (c0 : w.cell? ⟨g, 0, none⟩ = some v) (hs : Sv w v []) (hn1 : n < 1) :
    Calls Try.prog 15 #[.pointer (some ⟨g, 0, none⟩), .int .i64 n, .int .i64 mm] w fun e w' => e = .returned (.slice none 0 0) ∧ w' = w := by
  obtain ⟨A, cap, rfl, h1, h2, h3⟩ := hs
  rw [List.length_nil] at *
  clear h3
  go_enter Try.func15, Try.ntmps15
  go_wp2_with (go_at_call 18; refine (len_cell _ _ _ _ _ c0).mono ?_; rintro e w' ⟨rfl, rfl⟩)
  go_ret
  exact ⟨rfl, rfl⟩

/-- What From tells. -/
def fromL (es : List En) (n : Int) (m : Nat) : List En := (es.drop (n - 1).toNat).take m
theorem from_pos (w : World) (g : Nat) (v : Value) (es : List En) (n : Int) (mm : Nat) (h : Lw w g v es) (hl : es.length ≤ 4096) (hn : 1 ≤ n) (hk : mm < 9223372036854775807) (hk1 : 1 ≤ mm) :
    Calls Try.prog 15 #[.pointer (some ⟨g, 0, none⟩), .int .i64 n, .int .i64 mm] w fun e w' => ∃ u, e = .returned u ∧ Sv w' u (fromL es n mm) ∧ Fr w w' (fun _ => False) := by
  by_cases hf : (es.length : Int) < n
  · refine (from_far w g v es n mm h.c0 h.sv hl hf hn).mono ?_
    rintro e w' ⟨rfl, rfl⟩
    refine ⟨_, rfl, ?_, Fr.refl _ _⟩
    unfold fromL
    rw [List.drop_eq_nil_of_le (by omega), List.take_nil]
    exact Sv.nil _
  · obtain ⟨m, hm⟩ : ∃ m : Nat, n = ((m + 1 : Nat) : Int) := ⟨(n - 1).toNat, by omega⟩
    refine (from_core w g v es n mm m h.c0 h.sv hl hn hm (by omega) (by omega) (by omega)).mono ?_
    rintro e w' ⟨u, rfl, ho, hf, hb⟩
    refine ⟨u, rfl, ?_, hf⟩
    have : (n - 1).toNat = m := by omega
    unfold fromL
    rw [this]
    rw [Int.toNat_natCast] at ho
    exact OwE.sv ho
theorem fromL_all {es : List En} (h : es.length ≤ 4096) : fromL es 1 5000 = es := by
  unfold fromL
  exact List.take_of_length_le (by simp; omega)
theorem refl_dec (l : List En) : decide (l = l) = true := decide_eq_true rfl
end Go.Proofs.Ytbphkbbidbjpmaa.Cw
