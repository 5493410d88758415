/- What a file costs: the two countings agree. Plain. Own work. -/
import Derived.Test.YtmbfcnacoijmaaaIoN
namespace Go.Proofs.Ytmbfcnacoijmaaa.Cw
set_option linter.unusedVariables false

/-- The first m are numbers of blocks, each greater than the one before. -/
def okp (xs : Nat → Int) (m : Nat) : Prop := ∀ j, j < m → Ix (xs j) ∧ (0 < j → xs (j - 1) < xs j)
theorem okp_zero (xs : Nat → Int) : okp xs 0 := fun j h => absurd h (by omega)
theorem okp_succ {xs : Nat → Int} {m : Nat} (h : okp xs m) (h1 : Ix (xs m)) (h2 : 0 < m → xs (m - 1) < xs m) : okp xs (m + 1) := by
  intro j hj
  by_cases e : j = m
  · subst e; exact ⟨h1, h2⟩
  · exact h j (by omega)
theorem okp_le {xs : Nat → Int} {m n : Nat} (h : okp xs n) (hm : m ≤ n) : okp xs m := fun j hj => h j (by omega)
theorem okp_not {xs : Nat → Int} {m n : Nat} (hm : m < n) (h : ¬ Ix (xs m) ∨ (0 < m ∧ xs m ≤ xs (m - 1))) : ¬ okp xs n := by
  intro ho
  obtain ⟨h1, h2⟩ := ho m hm
  rcases h with h | ⟨h, h3⟩
  · exact h h1
  · have := h2 h
    omega
/-- The blocks of names so far. -/
def kstep (x : Int) (l : List (Int × Int)) : List (Int × Int) := if plL x = 0 then l else if plL x = 1 then addK l (1, -1) else addK (addK l (2, -1)) (2, plA x)
def ks (xs : Nat → Int) : Nat → List (Int × Int)
  | 0 => []
  | m + 1 => kstep (xs m) (ks xs m)
theorem kstep_0 {x : Int} (h : plL x = 0) (l : List (Int × Int)) : kstep x l = l := if_pos h
theorem kstep_1 {x : Int} (h : plL x = 1) (l : List (Int × Int)) : kstep x l = addK l (1, -1) := by unfold kstep; rw [if_neg (by omega), if_pos h]
theorem kstep_2 {x : Int} (h : plL x = 2) (l : List (Int × Int)) : kstep x l = addK (addK l (2, -1)) (2, plA x) := by unfold kstep; rw [if_neg (by omega), if_neg (by omega)]
theorem plL_cases (x : Int) : (plL x = 0 ∧ x < 6) ∨ (plL x = 1 ∧ 6 ≤ x ∧ x < 70) ∨ (plL x = 2 ∧ 70 ≤ x) := by
  unfold plL
  by_cases h : x < 6
  · rw [if_pos h]; exact .inl ⟨rfl, h⟩
  · rw [if_neg h]
    by_cases h2 : x < 70
    · rw [if_pos h2]; exact .inr (.inl ⟨rfl, by omega, h2⟩)
    · rw [if_neg h2]; exact .inr (.inr ⟨rfl, by omega⟩)
theorem plA_2 {x : Int} (h : 70 ≤ x) : plA x = (x - 70) / 64 := by unfold plA; rw [if_neg (by omega), if_neg (by omega)]
theorem addK_in {l : List (Int × Int)} {p : Int × Int} (h : p ∈ l) : addK l p = l := if_pos h
theorem addK_out {l : List (Int × Int)} {p : Int × Int} (h : p ∉ l) : (addK l p).length = l.length + 1 := by unfold addK; rw [if_neg h]; simp
theorem addK_mem {l : List (Int × Int)} {p q : Int × Int} : q ∈ addK l p ↔ q ∈ l ∨ q = p := by
  unfold addK
  by_cases h : p ∈ l
  · rw [if_pos h]
    constructor
    · exact .inl
    · rintro (h1 | h1)
      · exact h1
      · rw [h1]; exact h
  · rw [if_neg h]
    simp
theorem addK_len (l : List (Int × Int)) (p : Int × Int) : l.length ≤ (addK l p).length ∧ (addK l p).length ≤ l.length + 1 := by
  by_cases h : p ∈ l
  · rw [addK_in h]; omega
  · rw [addK_out h]; omega
theorem kstep_len (x : Int) (l : List (Int × Int)) : l.length ≤ (kstep x l).length ∧ (kstep x l).length ≤ l.length + 2 := by
  rcases plL_cases x with ⟨h, _⟩ | ⟨h, _⟩ | ⟨h, _⟩
  · rw [kstep_0 h]; omega
  · rw [kstep_1 h]; have := addK_len l (1, -1); omega
  · rw [kstep_2 h]; have := addK_len l (2, -1); have := addK_len (addK l (2, -1)) (2, plA x); omega
theorem ks_len (xs : Nat → Int) (m : Nat) : (ks xs m).length ≤ 2 * m := by
  induction m with
  | zero => simp [ks]
  | succ m ih => have := kstep_len (xs m) (ks xs m); rw [ks]; omega
/-- As the reference counts: is there one of the second kind; the last of the third; how many. -/
structure Ct where
  single : Bool
  last : Int
  n : Nat
def cstep (x : Int) (c : Ct) : Ct :=
  if plL x = 0 then c else if plL x = 1 then ⟨true, c.last, if c.single then c.n else c.n + 1⟩
  else ⟨c.single, plA x, c.n + (if c.last < 0 then 1 else 0) + (if plA x = c.last then 0 else 1)⟩
def ct (xs : Nat → Int) : Nat → Ct
  | 0 => ⟨false, -1, 0⟩
  | m + 1 => cstep (xs m) (ct xs m)
/-- The countings agree. -/
structure Agree (xs : Nat → Int) (m : Nat) (l : List (Int × Int)) (c : Ct) : Prop where
  n : c.n = l.length
  one : (1, -1) ∈ l ↔ c.single = true
  two : (2, -1) ∈ l ↔ 0 ≤ c.last
  lo : -1 ≤ c.last
  at_ : 0 ≤ c.last → 0 < m ∧ 70 ≤ xs (m - 1) ∧ c.last = plA (xs (m - 1)) ∧ (2, c.last) ∈ l
  top : ∀ a, 0 ≤ a → (2, a) ∈ l → a ≤ c.last
theorem agree (xs : Nat → Int) (m : Nat) (h : okp xs m) : Agree xs m (ks xs m) (ct xs m) := by
  induction m with
  | zero => exact ⟨rfl, by simp [ks, ct], by simp [ks, ct], by simp [ct], fun h => by simp [ct] at h, fun a _ h => by simp [ks] at h⟩
  | succ m ih =>
    have A := ih (okp_le h (by omega))
    obtain ⟨hix, hgt⟩ := h m (by omega)
    show Agree xs (m + 1) (kstep (xs m) (ks xs m)) (cstep (xs m) (ct xs m))
    generalize ks xs m = l at *
    generalize ct xs m = c at *
    rcases plL_cases (xs m) with ⟨hl, h1⟩ | ⟨hl, h1, h2⟩ | ⟨hl, h1⟩
    · rw [kstep_0 hl, show cstep (xs m) c = c from if_pos hl]
      refine ⟨A.n, A.one, A.two, A.lo, fun h0 => ?_, A.top⟩
      obtain ⟨a1, a2, _⟩ := A.at_ h0
      have := hgt a1
      omega
    · rw [kstep_1 hl, show cstep (xs m) c = ⟨true, c.last, if c.single then c.n else c.n + 1⟩ by unfold cstep; rw [if_neg (by omega), if_pos hl]]
      refine ⟨?_, ?_, ?_, A.lo, fun h0 => ?_, ?_⟩
      · show (if c.single = true then c.n else c.n + 1) = _
        by_cases hs : c.single = true
        · rw [if_pos hs, addK_in (A.one.2 hs)]; exact A.n
        · rw [if_neg hs, addK_out (fun x => hs (A.one.1 x)), A.n]
      · rw [addK_mem]; simp
      · rw [addK_mem]; simp only [Prod.mk.injEq]
        have := A.two
        constructor
        · rintro (x | x)
          · exact this.1 x
          · omega
        · intro x; exact .inl (this.2 x)
      · obtain ⟨a1, a2, _⟩ := A.at_ h0
        have := hgt a1
        omega
      · intro a ha hm
        rw [addK_mem] at hm
        rcases hm with hm | hm
        · exact A.top a ha hm
        · simp only [Prod.mk.injEq] at hm; omega
    · have hA := plA_2 h1
      have hA0 : 0 ≤ plA (xs m) := by rw [hA]; omega
      rw [kstep_2 hl, show cstep (xs m) c = ⟨c.single, plA (xs m), c.n + (if c.last < 0 then 1 else 0) + (if plA (xs m) = c.last then 0 else 1)⟩ by unfold cstep; rw [if_neg (by omega), if_neg (by omega)]]
      have hge : 0 ≤ c.last → c.last ≤ plA (xs m) := by
        intro h0
        obtain ⟨a1, a2, a3, _⟩ := A.at_ h0
        have := hgt a1
        rw [a3, hA, plA_2 a2]
        omega
      have e1 : (addK l (2, -1)).length = l.length + (if c.last < 0 then 1 else 0) := by
        by_cases h0 : c.last < 0
        · rw [if_pos h0, addK_out (fun x => by have := A.two.1 x; omega)]
        · rw [if_neg h0, addK_in (A.two.2 (by omega))]; omega
      have e2 : (addK (addK l (2, -1)) (2, plA (xs m))).length = (addK l (2, -1)).length + (if plA (xs m) = c.last then 0 else 1) := by
        by_cases h0 : plA (xs m) = c.last
        · rw [if_pos h0, addK_in]
          · omega
          · rw [addK_mem, h0]
            exact .inl (A.at_ (by omega)).2.2.2
        · rw [if_neg h0, addK_out]
          rw [addK_mem]
          rintro (x | x)
          · have := A.top _ hA0 x
            by_cases hh : 0 ≤ c.last
            · have := hge hh; omega
            · omega
          · simp only [Prod.mk.injEq] at x; omega
      refine ⟨?_, ?_, ?_, by show -1 ≤ plA (xs m); omega, fun _ => ?_, ?_⟩
      · show c.n + _ + _ = _
        rw [e2, e1, A.n]
      · rw [addK_mem, addK_mem]; simp only [Prod.mk.injEq]
        have := A.one
        constructor
        · rintro ((x | x) | x)
          · exact this.1 x
          · omega
          · omega
        · intro x; exact .inl (.inl (this.2 x))
      · rw [addK_mem, addK_mem]
        exact ⟨fun _ => hA0, fun _ => .inl (.inr rfl)⟩
      · exact ⟨by omega, by rw [Nat.add_sub_cancel]; exact h1, by rw [Nat.add_sub_cancel], by rw [addK_mem]; exact .inr rfl⟩
      · intro a ha hm
        show a ≤ plA (xs m)
        rw [addK_mem, addK_mem] at hm
        rcases hm with (hm | hm) | hm
        · have h1 := A.top a ha hm
          have := hge (by omega)
          omega
        · simp only [Prod.mk.injEq] at hm; omega
        · simp only [Prod.mk.injEq] at hm; omega
theorem count_eq (xs : Nat → Int) (m : Nat) (h : okp xs m) : (ct xs m).n = (ks xs m).length := (agree xs m h).n
end Go.Proofs.Ytmbfcnacoijmaaa.Cw
