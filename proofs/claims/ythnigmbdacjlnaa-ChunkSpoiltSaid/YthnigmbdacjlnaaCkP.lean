/- A collector's Missing, Blocks: plain, and Missing joined. Own work. -/
import Derived.Test.YthnigmbdacjlnaaCkO
namespace Go.Proofs.Ythnigmbdacjlnaa.Cw
open Go.RowKit
set_option linter.unusedVariables false
set_option linter.unusedSimpArgs false

/-- Chunks that were gathered: right ones, of one snapshot. -/
def Gd25 (L : List Ck) : Prop := ∀ c ∈ L, ckB c = true ∧ ∀ e ∈ L, c.d = e.d ∧ c.t = e.t
def hdT (L : List Ck) : Nat := match L.head? with | some f => f.t.toNat | none => 0
def hdD (L : List Ck) : Int := match L.head? with | some f => f.d | none => 0
def chs (L : List Ck) : Nat := (hdT L + 7) / 8
def msL (L : List Ck) : List Int := ms (chs L) L
/-- The texts of the first k chunks. -/
def up (k : Nat) (L : List Ck) : ByteArray := jn ((List.range k).map (fun i => (hs L (i : Nat)).getD ⟨#[]⟩))
def blE (L : List Ck) : Int := if L.length = 0 ∨ 0 < (msL L).length then 7 else if ((crc (up (chs L) L).data.toList : Nat) : Int) = hdD L then 0 else 30
def cut8 (k : Nat) (s : ByteArray) : List ByteArray := (List.range k).map (fun i => s.extract (128 * i) (128 * i + 128))
def blL (L : List Ck) : List ByteArray := if blE L = 0 then cut8 (hdT L) (up (chs L) L) else []

theorem ck_facts {c : Ck} (h : ckB c = true) : 1 ≤ c.t ∧ c.t ≤ 1024 ∧ 0 ≤ c.n ∧ 8 * c.n < c.t ∧ (c.s.size : Int) = mn c.t c.n * 128 := by
  unfold ckB at h
  have h := of_decide_eq_true h
  obtain ⟨h1, h2, _⟩ := h
  unfold mn at h1
  split at h1
  · omega
  · exact ⟨by omega, by omega, by omega, by omega, h2⟩
theorem hs_mem {L : List Ck} {n : Int} {s : ByteArray} (h : hs L n = some s) : ∃ c ∈ L, c.n = n ∧ c.s = s := by
  unfold hs at h
  cases hf : L.find? (fun c => c.n == n) with
  | none => rw [hf] at h; cases h
  | some c =>
    rw [hf] at h
    refine ⟨c, List.mem_of_find?_eq_some hf, ?_, Option.some.inj h⟩
    have := List.find?_some hf
    simpa using this
theorem up_succ (k : Nat) (L : List Ck) : up (k + 1) L = up k L ++ (hs L (k : Nat)).getD ⟨#[]⟩ := by
  unfold up
  rw [List.range_succ, List.map_append]
  exact jn_snoc _ _
theorem up_zero (L : List Ck) : up 0 L = ⟨#[]⟩ := rfl
theorem ms_all {M : Nat} {L : List Ck} (h : (ms M L).length = 0) {i : Nat} (hi : i < M) : (hs L (i : Nat)).isSome = true := by
  cases hn : hs L (i : Nat) with
  | some s => rfl
  | none =>
    exfalso
    unfold ms at h
    rw [List.length_map] at h
    have h := List.eq_nil_of_length_eq_zero h
    rw [List.filter_eq_nil_iff] at h
    exact h i (List.mem_range.2 hi) (by rw [hn]; rfl)
theorem hdT_in {L : List Ck} (hg : Gd25 L) (hne : L ≠ []) : 1 ≤ hdT L ∧ hdT L ≤ 1024 := by
  cases L with
  | nil => exact absurd rfl hne
  | cons c r =>
    have := ck_facts (hg c (List.mem_cons_self)).1
    show 1 ≤ c.t.toNat ∧ c.t.toNat ≤ 1024
    omega
theorem hdT_of {L : List Ck} (hg : Gd25 L) {c : Ck} (hc : c ∈ L) : c.t = (hdT L : Int) := by
  cases L with
  | nil => cases hc
  | cons x r =>
    have h1 := ck_facts (hg x (List.mem_cons_self)).1
    have h2 := ((hg c hc).2 x (List.mem_cons_self)).2
    show c.t = (x.t.toNat : Int)
    omega
theorem hs_size {L : List Ck} (hg : Gd25 L) {i : Nat} {s : ByteArray} (h : hs L (i : Nat) = some s) : s.size = 128 * min 8 (hdT L - 8 * i) := by
  obtain ⟨c, hc, h1, h2⟩ := hs_mem h
  obtain ⟨f1, f2, f3, f4, f5⟩ := ck_facts (hg c hc).1
  have ht := hdT_of hg hc
  subst h2
  rw [h1, ht] at f5
  rw [ht] at f1 f2
  rw [mn_in (by omega) (by omega)] at f5
  omega
theorem up_size {L : List Ck} (hg : Gd25 L) : ∀ k, (∀ i, i < k → (hs L (i : Nat)).isSome = true) → (up k L).size = 128 * min (8 * k) (hdT L)
  | 0, _ => by rw [up_zero, Nat.mul_zero, Nat.zero_min]; rfl
  | k + 1, h => by
    rw [up_succ, ByteArray.size_append, up_size hg k (fun i hi => h i (by omega))]
    cases hn : hs L (k : Nat) with
    | none =>
      have := h k (by omega)
      rw [hn] at this
      cases this
    | some s =>
      have := hs_size hg hn
      rw [Option.getD_some, this]
      omega
theorem cut8_len (k : Nat) (s : ByteArray) : (cut8 k s).length = k := by simp [cut8]
theorem cut8_succ (k : Nat) (s : ByteArray) : cut8 (k + 1) s = cut8 k s ++ [s.extract (128 * k) (128 * k + 128)] := by
  unfold cut8
  rw [List.range_succ, List.map_append]
  rfl

/-- What is gathered stays right. -/
theorem gd_add {L : List Ck} (hg : Gd25 L) (c : Ck) : Gd25 (adL L c) := by
  unfold adL
  split
  · rename_i hb
    unfold adB at hb
    rw [Bool.and_eq_true, decide_eq_true_eq] at hb
    have h1 := hb.1
    have hck : ckB c = true := by
      cases hck : ckB c with
      | true => rfl
      | false =>
        unfold adE at h1
        rw [if_pos hck] at h1
        cases h1
    unfold adE at h1
    rw [if_neg (by rw [hck]; decide)] at h1
    have hall : ∀ x ∈ L, x.d = c.d ∧ x.t = c.t := by
      intro x hx
      cases L with
      | nil => cases hx
      | cons f r =>
        simp only [List.head?_cons] at h1
        split at h1
        · cases h1
        · rename_i hne
          have := (hg x hx).2 f (List.mem_cons_self)
          exact ⟨by rw [this.1]; exact Classical.byContradiction fun e => hne (.inl e), by rw [this.2]; exact Classical.byContradiction fun e => hne (.inr e)⟩
    intro x hx
    rw [List.mem_append, List.mem_singleton] at hx
    rcases hx with hx | rfl
    · refine ⟨(hg x hx).1, fun e he => ?_⟩
      rw [List.mem_append, List.mem_singleton] at he
      rcases he with he | rfl
      · exact (hg x hx).2 e he
      · exact hall x hx
    · refine ⟨hck, fun e he => ?_⟩
      rw [List.mem_append, List.mem_singleton] at he
      rcases he with he | rfl
      · exact ⟨(hall e he).1.symm, (hall e he).2.symm⟩
      · exact ⟨rfl, rfl⟩
  · exact hg

theorem missing_new (w : World) (g b : Nat) (f : Ck) (L : List Ck) (h : Col w g b f L) (hg : Gd25 L) :
    Calls Try.prog 20 #[.pointer (some ⟨g, 0, none⟩)] w fun e w' => ∃ u, e = .returned u ∧ Nv w' u (msL L) ∧ Fr w w' (fun _ => False) ∧ ∀ b, u.ownBlock = some b → w.heap.size ≤ b := by
  by_cases hne : L = []
  · subst hne
    refine (missing_none w g b f h).mono ?_
    rintro e w' ⟨rfl, hf⟩
    exact ⟨_, rfl, Ev.nil w', hf, fun b hb => by cases hb⟩
  · have hh := h.hd hne
    have hb := hdT_in hg hne
    have hT : hdT L = f.t.toNat := by unfold hdT; rw [hh]
    unfold msL chs
    have hf := hg f (List.mem_of_mem_head? hh)
    have hk := ck_facts hf.1
    obtain ⟨d, t, n, s, c⟩ := f
    simp only at hT hk
    obtain ⟨T, rfl⟩ : ∃ T : Nat, t = T := ⟨t.toNat, by omega⟩
    rw [Int.toNat_natCast] at hT
    rw [hT]
    exact missing_some w g b d n c s T L h hne (by omega) (by omega)
theorem missing_calls (w : World) (g b : Nat) (f : Ck) (L : List Ck) (h : Col w g b f L) (hg : Gd25 L) :
    Calls Try.prog 20 #[.pointer (some ⟨g, 0, none⟩)] w fun e w' => ∃ u, e = .returned u ∧ Nv w' u (msL L) ∧ Fr w w' (fun _ => False) :=
  (missing_new w g b f L h hg).mono fun _ _ ⟨u, h1, h2, h3, _⟩ => ⟨u, h1, h2, h3⟩
end Go.Proofs.Ythnigmbdacjlnaa.Cw
