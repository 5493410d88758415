/- A collector's Add: whatever it answers. Own work. -/
import Derived.Test.YthnigmbdacjlnaaCkK
import Derived.Test.YthnigmbdacjlnaaCkL
import Derived.Test.YthnigmbdacjlnaaCkM
namespace Go.Proofs.Ythnigmbdacjlnaa.Cw
open Go.RowKit
set_option linter.unusedVariables false
set_option linter.unusedSimpArgs false

theorem add_calls (w : World) (g b : Nat) (f c : Ck) (L : List Ck) (h : Col w g b f L) :
    Calls Try.prog 15 #[.pointer (some ⟨g, 0, none⟩), c.V] w (AdP w g b (adB L c) (adE L c) (adL L c)) := by
  by_cases hc : ckB c = true
  · cases hL : L with
    | nil =>
      subst hL
      have e1 : adE [] c = 0 := by unfold adE; rw [if_neg (by rw [hc]; decide)]; rfl
      have e2 : adB [] c = true := by unfold adB; rw [e1]; rfl
      unfold adL
      rw [e1, e2, if_pos rfl]
      exact add_first w g b f c h hc
    | cons y r =>
      rw [← hL]
      have hne : L ≠ [] := by rw [hL]; simp
      have hh := h.hd hne
      obtain ⟨fd, ft, fn, fs, fc⟩ := f
      have hE : adE L c = if fd ≠ c.d ∨ ft ≠ c.t then 7 else 0 := by unfold adE; rw [if_neg (by rw [hc]; decide), hh]
      by_cases hd : c.d = fd
      · by_cases ht : c.t = ft
        · have e1 : adE L c = 0 := by rw [hE, if_neg (by rintro (e | e); exact e hd.symm; exact e ht.symm)]
          cases hn : hs L c.n with
          | none =>
            have e2 : adB L c = true := by unfold adB; rw [e1, hn]; rfl
            unfold adL
            rw [e1, e2, if_pos rfl]
            exact add_new w g b fd ft fn fc fs c L h hc hne hd ht hn
          | some sv =>
            have e2 : adB L c = false := by unfold adB; rw [e1, hn]; rfl
            unfold adL
            rw [e1, e2, if_neg (by decide)]
            exact add_there w g b fd ft fn fc fs c L h hc hne hd ht sv hn
        · have e1 : adE L c = 7 := by rw [hE, if_pos (.inr (fun e => ht e.symm))]
          have e2 : adB L c = false := by unfold adB; rw [e1]; rfl
          unfold adL
          rw [e1, e2, if_neg (by decide)]
          exact add_apart2 w g b fd ft fn fc fs c L h hc hne hd ht
      · have e1 : adE L c = 7 := by rw [hE, if_pos (.inl (fun e => hd e.symm))]
        have e2 : adB L c = false := by unfold adB; rw [e1]; rfl
        unfold adL
        rw [e1, e2, if_neg (by decide)]
        exact add_apart1 w g b fd ft fn fc fs c L h hc hne hd
  · rw [Bool.not_eq_true] at hc
    have e1 : adE L c = 4 := if_pos hc
    have e2 : adB L c = false := by unfold adB; rw [e1]; rfl
    unfold adL
    rw [e1, e2, if_neg (by decide)]
    exact add_no w g b f c L h hc
end Go.Proofs.Ythnigmbdacjlnaa.Cw
