/- Which text is a message's bytes, and what was read of it: plain. Own work. -/
import Derived.Test.YtmnmmmoeeapeiaaJbh
namespace Go.Proofs.Ytmnmmmoeeapeiaa.Cw
open Go.RowKit
set_option linter.unusedVariables false
set_option linter.unusedSimpArgs false

/-- s is a right message's bytes. -/
def Enc (s : ByteArray) (k v n a c : Int) (l : List En) : Prop :=
  okM k v n a c l = true ∧ (∀ x ∈ l, x.Ok) ∧ s = sealS ⟨(hdB k.toNat v.toNat n.toNat a.toNat c.toNat l.length ++ jnB l).toArray⟩
def NoEnc (s : ByteArray) : Prop := ∀ k v n a c l, ¬ Enc s k v n a c l

theorem sealS_size (s : ByteArray) : (sealS s).size = s.size + 4 := by
  unfold sealS
  rw [ByteArray.size_append]
  rfl
theorem seal_part (t : ByteArray) : (sealS t).extract 0 ((sealS t).size - 4) = t := by
  rw [sealS_size, Nat.add_sub_cancel]
  unfold sealS
  apply ByteArray.ext
  apply Array.toList_inj.1
  rw [ext_mid, ByteArray.data_append, Array.toList_append, List.drop_zero, Nat.sub_zero, ← ba_len t, List.take_left]
theorem open_seal (t : ByteArray) : opE (sealS t) = 0 ∧ opS (sealS t) = t := by
  have h : opE (sealS t) = 0 := by
    unfold opE
    rw [if_neg (by rw [sealS_size]; omega), seal_part, if_pos rfl]
  refine ⟨h, ?_⟩
  unfold opS
  rw [if_pos h, seal_part]
theorem open_ok {s : ByteArray} (h : opE s = 0) : s = sealS (opS s) ∧ s.size = (opS s).size + 4 := by
  have h1 : s = sealS (opS s) := by
    have h2 := h
    unfold opE at h2
    by_cases hs : s.size < 4
    · rw [if_pos hs] at h2; omega
    · rw [if_neg hs] at h2
      by_cases hq : sealS (s.extract 0 (s.size - 4)) = s
      · unfold opS
        rw [if_pos h]
        exact hq.symm
      · rw [if_neg hq] at h2; omega
  refine ⟨h1, ?_⟩
  have := sealS_size (opS s)
  rw [← h1] at this
  exact this
theorem enc_open {s : ByteArray} {k v n a c : Int} {l : List En} (h : Enc s k v n a c l) : opE s = 0 ∧ (opS s).data.toList = hdB k.toNat v.toNat n.toNat a.toNat c.toNat l.length ++ jnB l := by
  obtain ⟨_, _, rfl⟩ := h
  obtain ⟨h1, h2⟩ := open_seal ⟨(hdB k.toNat v.toNat n.toNat a.toNat c.toNat l.length ++ jnB l).toArray⟩
  refine ⟨h1, ?_⟩
  rw [h2, list_of]
/-- What Encode makes is a right message's bytes; and the other way round. -/
theorem enc_of {k v n a c : Int} {l : List En} (ho : ∀ x ∈ l, x.Ok) (h : enE k v n a c l = 0) : Enc (enS k v n a c l) k v n a c l ∧ (enS k v n a c l).size ≤ 60000 := by
  have hs : enS k v n a c l = sealS ⟨(hdB k.toNat v.toNat n.toNat a.toNat c.toNat l.length ++ jnB l).toArray⟩ := if_pos h
  unfold enE at h
  cases hM : okM k v n a c l with
  | false => rw [if_pos hM] at h; omega
  | true =>
    rw [if_neg (by rw [hM]; decide)] at h
    refine ⟨⟨hM, ho, hs⟩, ?_⟩
    rw [hs, sealS_size]
    show (hdB k.toNat v.toNat n.toNat a.toNat c.toNat l.length ++ jnB l).toArray.size + 4 ≤ _
    rw [List.size_toArray, List.length_append]
    by_cases hb : 60000 < (hdB k.toNat v.toNat n.toNat a.toNat c.toNat l.length).length + (jnB l).length + 4
    · rw [if_pos hb] at h; omega
    · omega
theorem of_enc {s : ByteArray} {k v n a c : Int} {l : List En} (h : Enc s k v n a c l) (hz : s.size ≤ 60000) : enE k v n a c l = 0 ∧ enS k v n a c l = s := by
  obtain ⟨hM, _, hs⟩ := h
  have he : enE k v n a c l = 0 := by
    unfold enE
    rw [if_neg (by rw [hM]; decide), if_neg]
    have := sealS_size ⟨(hdB k.toNat v.toNat n.toNat a.toNat c.toNat l.length ++ jnB l).toArray⟩
    rw [← hs] at this
    have h2 : (⟨(hdB k.toNat v.toNat n.toNat a.toNat c.toNat l.length ++ jnB l).toArray⟩ : ByteArray).size = (hdB k.toNat v.toNat n.toNat a.toNat c.toNat l.length).length + (jnB l).length := by
      show (hdB k.toNat v.toNat n.toNat a.toNat c.toNat l.length ++ jnB l).toArray.size = _
      rw [List.size_toArray, List.length_append]
    omega
  refine ⟨he, ?_⟩
  rw [hs]
  exact if_pos he

theorem B_pos (x : En) : 1 ≤ x.B.length := by
  unfold En.B enB
  have := uv_pos x.a.toNat
  simp only [List.length_append]
  omega
theorem jnB_pos (l : List En) : l.length ≤ (jnB l).length := by
  induction l with
  | nil => simp
  | cons x r ih =>
    have h3 : jnB (x :: r) = x.B ++ jnB r := by unfold jnB; rw [List.flatMap_cons]
    have := B_pos x
    rw [h3, List.length_append, List.length_cons]
    omega
theorem jnB_cons (x : En) (r : List En) : jnB (x :: r) = x.B ++ jnB r := by unfold jnB; rw [List.flatMap_cons]
theorem jnB_snoc (l : List En) (x : En) : jnB (l ++ [x]) = jnB l ++ x.B := by
  unfold jnB
  rw [List.flatMap_append, List.flatMap_cons, List.flatMap_nil, List.append_nil]
/-- Entries' bytes have one form. -/
theorem jn_prefix : ∀ (m l : List En) (r : List UInt8), (∀ x ∈ m, x.R ∧ x.Ok) → (∀ x ∈ l, x.R ∧ x.Ok) → m.length ≤ l.length → jnB m ++ r = jnB l → m = l.take m.length ∧ r = jnB (l.drop m.length) := by
  intro m
  induction m with
  | nil =>
    intro l r _ _ _ h
    exact ⟨rfl, h⟩
  | cons x m ih =>
    intro l r hm hl hlen h
    cases l with
    | nil => simp at hlen
    | cons y l =>
      rw [jnB_cons, jnB_cons, List.append_assoc] at h
      have h1 := hm x List.mem_cons_self
      have h2 := hl y List.mem_cons_self
      obtain ⟨rfl, h3⟩ := B_cancel h1.1 h1.2 h2.1 h2.2 h
      obtain ⟨h4, h5⟩ := ih l r (fun z hz => hm z (List.mem_cons_of_mem _ hz)) (fun z hz => hl z (List.mem_cons_of_mem _ hz)) (by simpa using hlen) h3
      refine ⟨?_, h5⟩
      rw [List.length_cons, List.take_succ_cons, ← h4]

/-- The numbers ahead of a message's entries are read. -/
theorem hd_chain {t : ByteArray} {k v n a c len : Nat} {z : List UInt8} (h : t.data.toList = hdB k v n a c len ++ z) (hk : k ≤ 2 ^ 63 - 1) (hv : v ≤ 2 ^ 63 - 1) (hn : n ≤ 2 ^ 63 - 1) (ha : a ≤ 2 ^ 63 - 1) (hc : c ≤ 2 ^ 63 - 1) (hl : len ≤ 2 ^ 63 - 1) :
    ∃ t1 t2 t3 t4 t5 t6, rdN 9 127 t 0 = (k, 0, t1, 0) ∧ rdN 9 127 t1 0 = (v, 0, t2, 0) ∧ rdN 9 127 t2 0 = (n, 0, t3, 0) ∧ rdN 9 127 t3 0 = (a, 0, t4, 0) ∧ rdN 9 127 t4 0 = (c, 0, t5, 0) ∧ rdN 9 127 t5 0 = (len, 0, t6, 0) ∧ t6.data.toList = z := by
  have hs : t = ⟨(uv k ++ (uv v ++ (uv n ++ (uv a ++ (uv c ++ (uv len ++ z)))))).toArray⟩ := ba_of (h.trans (by
    unfold hdB
    simp only [List.append_assoc]))
  rw [hs]
  exact ⟨_, _, _, _, _, _, rd_uint k _ hk, rd_uint v _ hv, rd_uint n _ hn, rd_uint a _ ha, rd_uint c _ hc, rd_uint len _ hl, list_of z⟩
theorem enc_chain {s t : ByteArray} {k v n a c : Int} {l : List En} (h : Enc s k v n a c l) (hz : s.size ≤ 60000) (ht : opS s = t) :
    ∃ t1 t2 t3 t4 t5 t6, rdN 9 127 t 0 = (k.toNat, 0, t1, 0) ∧ rdN 9 127 t1 0 = (v.toNat, 0, t2, 0) ∧ rdN 9 127 t2 0 = (n.toNat, 0, t3, 0) ∧ rdN 9 127 t3 0 = (a.toNat, 0, t4, 0) ∧ rdN 9 127 t4 0 = (c.toNat, 0, t5, 0) ∧ rdN 9 127 t5 0 = (l.length, 0, t6, 0) ∧ t6.data.toList = jnB l := by
  obtain ⟨h0, h1⟩ := enc_open h
  rw [ht] at h1
  obtain ⟨f1, f2, f3, f4, f5, _⟩ := okM_facts h.1
  have hj := jnB_pos l
  have hlen := congrArg List.length h1
  rw [ba_len, List.length_append] at hlen
  have := (open_ok h0).2
  rw [ht] at this
  exact hd_chain h1 (by omega) (by omega) (by omega) (by omega) (by omega) (by omega)

/-- What was read up to an entry: the entries so far, and what is left of the bytes behind the numbers. -/
def Rdd (t6 : ByteArray) (i : Nat) (m : List En) (rest : ByteArray) : Prop := m.length = i ∧ (∀ x ∈ m, x.R ∧ x.Ok) ∧ jnB m ++ rest.data.toList = t6.data.toList
theorem Rdd.zero (t6 : ByteArray) : Rdd t6 0 [] t6 := ⟨rfl, (fun x hx => by simp at hx), rfl⟩
theorem Rdd.next {t6 : ByteArray} {i : Nat} {m : List En} {rest : ByteArray} (h : Rdd t6 i m rest) {x : En} {q : Nat} (hR : x.R) (hO : x.Ok) (hl : rest.data.toList = x.B ++ (rest.extract q rest.size).data.toList) : Rdd t6 (i + 1) (m ++ [x]) (rest.extract q rest.size) := by
  obtain ⟨h1, h2, h3⟩ := h
  refine ⟨by rw [List.length_append, h1]; rfl, ?_, ?_⟩
  · intro y hy
    rcases List.mem_append.1 hy with hy | hy
    · exact h2 y hy
    · rw [List.mem_singleton] at hy
      subst hy
      exact ⟨hR, hO⟩
  · rw [jnB_snoc, List.append_assoc, ← hl]
    exact h3
theorem Rdd.ok {t6 : ByteArray} {i : Nat} {m : List En} {rest : ByteArray} (h : Rdd t6 i m rest) : ∀ x ∈ m, x.Ok := fun x hx => (h.2.1 x hx).2
theorem Rdd.size {t6 : ByteArray} {i : Nat} {m : List En} {rest : ByteArray} (h : Rdd t6 i m rest) : rest.size ≤ t6.size ∧ (jnB m).length ≤ t6.size ∧ i ≤ t6.size := by
  obtain ⟨h1, _, h3⟩ := h
  have := congrArg List.length h3
  rw [List.length_append, ba_len, ba_len] at this
  have := jnB_pos m
  omega

/-- The six numbers were read. -/
def Six (t : ByteArray) (v1 v2 v3 v4 v5 v6 : Nat) (t6 : ByteArray) : Prop :=
  ∃ t1 t2 t3 t4 t5, rdN 9 127 t 0 = (v1, 0, t1, 0) ∧ rdN 9 127 t1 0 = (v2, 0, t2, 0) ∧ rdN 9 127 t2 0 = (v3, 0, t3, 0) ∧ rdN 9 127 t3 0 = (v4, 0, t4, 0) ∧ rdN 9 127 t4 0 = (v5, 0, t5, 0) ∧ rdN 9 127 t5 0 = (v6, 0, t6, 0)
theorem Six.list {t t6 : ByteArray} {v1 v2 v3 v4 v5 v6 : Nat} (h : Six t v1 v2 v3 v4 v5 v6 t6) : t.data.toList = hdB v1 v2 v3 v4 v5 v6 ++ t6.data.toList := by
  obtain ⟨t1, t2, t3, t4, t5, E1, E2, E3, E4, E5, E6⟩ := h
  rw [(rdN_one E1 rfl).1, (rdN_one E2 rfl).1, (rdN_one E3 rfl).1, (rdN_one E4 rfl).1, (rdN_one E5 rfl).1, (rdN_one E6 rfl).1]
  unfold hdB
  simp only [List.append_assoc]
/-- A right message's bytes tell its numbers, and its first entries. -/
theorem enc_key {s t t6 rest : ByteArray} {k v n a c : Int} {l m : List En} {v1 v2 v3 v4 v5 v6 i : Nat} (h : Enc s k v n a c l) (hz : s.size ≤ 60000) (ht : opS s = t) (h6 : Six t v1 v2 v3 v4 v5 v6 t6) (hr : Rdd t6 i m rest) (hi : i ≤ v6) :
    k = v1 ∧ v = v2 ∧ n = v3 ∧ a = v4 ∧ c = v5 ∧ l.length = v6 ∧ m = l.take i ∧ rest.data.toList = jnB (l.drop i) := by
  obtain ⟨u1, u2, u3, u4, u5, u6, F1, F2, F3, F4, F5, F6, hz6⟩ := enc_chain h hz ht
  obtain ⟨t1, t2, t3, t4, t5, E1, E2, E3, E4, E5, E6⟩ := h6
  obtain ⟨f1, f2, f3, f4, f5, har, _⟩ := okM_facts h.1
  rw [E1] at F1
  simp only [Prod.mk.injEq] at F1
  obtain ⟨g1, _, rfl, _⟩ := F1
  rw [E2] at F2
  simp only [Prod.mk.injEq] at F2
  obtain ⟨g2, _, rfl, _⟩ := F2
  rw [E3] at F3
  simp only [Prod.mk.injEq] at F3
  obtain ⟨g3, _, rfl, _⟩ := F3
  rw [E4] at F4
  simp only [Prod.mk.injEq] at F4
  obtain ⟨g4, _, rfl, _⟩ := F4
  rw [E5] at F5
  simp only [Prod.mk.injEq] at F5
  obtain ⟨g5, _, rfl, _⟩ := F5
  rw [E6] at F6
  simp only [Prod.mk.injEq] at F6
  obtain ⟨g6, _, rfl, _⟩ := F6
  obtain ⟨r1, r2, r3⟩ := hr
  have hl : ∀ x ∈ l, x.R ∧ x.Ok := by
    intro x hx
    refine ⟨?_, h.2.1 x hx⟩
    unfold arB at har
    have := List.all_eq_true.1 har x hx
    exact of_decide_eq_true this
  have hp := jn_prefix m l rest.data.toList r2 hl (by omega) (r3.trans hz6)
  rw [r1] at hp
  exact ⟨by omega, by omega, by omega, by omega, by omega, by omega, hp.1, hp.2⟩
/-- Where an entry is none, the text is no message. -/
theorem no_entry {s t t6 rest : ByteArray} {m : List En} {v1 v2 v3 v4 v5 v6 i : Nat} (hz : s.size ≤ 60000) (ht : opS s = t) (h6 : Six t v1 v2 v3 v4 v5 v6 t6) (hr : Rdd t6 i m rest) (hi : i < v6) (hn : ∀ (y : En) (z : List UInt8), y.R → y.Ok → ¬ rest.data.toList = y.B ++ z) : NoEnc s := by
  intro k v n a c l h
  obtain ⟨_, _, _, _, _, hl, _, hrest⟩ := enc_key h hz ht h6 hr (by omega)
  obtain ⟨_, _, _, _, _, har, _⟩ := okM_facts h.1
  have hil : i < l.length := by omega
  rw [List.drop_eq_getElem_cons hil, jnB_cons] at hrest
  refine hn l[i] _ ?_ (h.2.1 _ (List.getElem_mem hil)) hrest
  unfold arB at har
  exact of_decide_eq_true (List.all_eq_true.1 har _ (List.getElem_mem hil))
/-- Where something is left, the text is no message. -/
theorem no_rest {s t t6 rest : ByteArray} {m : List En} {v1 v2 v3 v4 v5 v6 : Nat} (hz : s.size ≤ 60000) (ht : opS s = t) (h6 : Six t v1 v2 v3 v4 v5 v6 t6) (hr : Rdd t6 v6 m rest) (hn : ¬ rest.size = 0) : NoEnc s := by
  intro k v n a c l h
  obtain ⟨_, _, _, _, _, hl, _, hrest⟩ := enc_key h hz ht h6 hr (Nat.le_refl _)
  rw [List.drop_eq_nil_of_le (by omega)] at hrest
  have := congrArg List.length hrest
  rw [ba_len] at this
  exact hn this
/-- What was read is the only message whose bytes the text can be. -/
theorem only_one {s t t6 rest : ByteArray} {k v n a c : Int} {l m : List En} {v1 v2 v3 v4 v5 v6 : Nat} (h : Enc s k v n a c l) (hz : s.size ≤ 60000) (ht : opS s = t) (h6 : Six t v1 v2 v3 v4 v5 v6 t6) (hr : Rdd t6 v6 m rest) : Enc s v1 v2 v3 v4 v5 m := by
  obtain ⟨rfl, rfl, rfl, rfl, rfl, hl, hm, _⟩ := enc_key h hz ht h6 hr (Nat.le_refl _)
  rw [List.take_of_length_le (by omega)] at hm
  rw [hm]
  exact h
theorem enc_right {s t t6 rest : ByteArray} {m : List En} {v1 v2 v3 v4 v5 v6 : Nat} (ho : opE s = 0) (ht : opS s = t) (h6 : Six t v1 v2 v3 v4 v5 v6 t6) (hr : Rdd t6 v6 m rest) (hn : rest.size = 0) (hM : okM v1 v2 v3 v4 v5 m = true) : Enc s v1 v2 v3 v4 v5 m := by
  refine ⟨hM, hr.ok, ?_⟩
  have h1 := h6.list
  have h2 : rest.data.toList = [] := List.eq_nil_of_length_eq_zero (by rw [ba_len]; exact hn)
  have h3 := hr.2.2
  rw [h2, List.append_nil] at h3
  rw [← h3] at h1
  have h4 := (open_ok ho).1
  rw [ht, ba_of h1] at h4
  rw [hr.1]
  exact h4
/-- Two messages of the same bytes are the same. -/
theorem enc_one {s : ByteArray} {k v n a c k' v' n' a' c' : Int} {l l' : List En} (h : Enc s k v n a c l) (h' : Enc s k' v' n' a' c' l') (hz : s.size ≤ 60000) : k = k' ∧ v = v' ∧ n = n' ∧ a = a' ∧ c = c' ∧ l = l' := by
  obtain ⟨u1, u2, u3, u4, u5, u6, F1, F2, F3, F4, F5, F6, hz6⟩ := enc_chain h' hz rfl
  obtain ⟨g1, g2, g3, g4, g5, har, _⟩ := okM_facts h'.1
  have hl : ∀ x ∈ l', x.R ∧ x.Ok := by
    intro x hx
    refine ⟨?_, h'.2.1 x hx⟩
    unfold arB at har
    exact of_decide_eq_true (List.all_eq_true.1 har x hx)
  have hr : Rdd u6 l'.length l' ⟨#[]⟩ := ⟨rfl, hl, by rw [hz6]; show jnB l' ++ [] = _; rw [List.append_nil]⟩
  obtain ⟨e1, e2, e3, e4, e5, e6, e7, _⟩ := enc_key h hz rfl ⟨_, _, _, _, _, F1, F2, F3, F4, F5, F6⟩ hr (Nat.le_refl _)
  rw [List.take_of_length_le (by omega)] at e7
  exact ⟨by omega, by omega, by omega, by omega, by omega, e7.symm⟩
end Go.Proofs.Ytmnmmmoeeapeiaa.Cw

