/- What both Decodes answer, together; speaks. Own work. -/
import Derived.Test.YtmnmmmoeeapeiaaJbp
import Derived.Test.YtmnmmmoeeapeiaaJar
import Derived.ProofKit
import Derived.Lib.SmallJoins
import Derived.OpenShut
import Derived.Deep.Slices
import Derived.Deep.Fields
import Derived.ChangeSame
import Derived.Test.YtmnmmmoeeapeiaaRows
namespace Go.Proofs.Ytmnmmmoeeapeiaa.Cw
open Go.RowKit
set_option linter.unusedVariables false
set_option linter.unusedSimpArgs false

/-- An answer of Decode: this message, and what is wrong. -/
def Ans (k v n a c : Int) (l : List En) (z : Int) (w : World) (e : Ending) (w' : World) : Prop :=
  ∃ A cap, e = .returned (.tuple #[.agg #[.int .i64 k, .int .i64 v, .int .i64 n, .int .i64 a, .int .i64 c, .slice A l.length cap], .int .i64 z]) ∧ Sv w' (.slice A l.length cap) l ∧ Fr w w' (fun _ => False)
theorem decP_yes {s : ByteArray} {w w' : World} {e : Ending} {k v n a c : Int} {l : List En} (h : DecP s w e w') (hz : s.size ≤ 60000) (hE : Enc s k v n a c l) : Ans k v n a c l 0 w e w' := by
  obtain ⟨hf, k', v', n', a', c', u, l', z, rfl, hs, h | ⟨_, _, h, _⟩ | ⟨_, rfl, h⟩⟩ := h
  · omega
  · exact absurd hE (h _ _ _ _ _ _)
  · obtain ⟨rfl, rfl, rfl, rfl, rfl, rfl⟩ := enc_one h hE hz
    obtain ⟨A, cap, rfl, g⟩ := hs
    exact ⟨A, cap, rfl, ⟨A, cap, rfl, g⟩, hf⟩
theorem decP_no {s : ByteArray} {w w' : World} {e : Ending} (h : DecP s w e w') (hz : s.size ≤ 60000) (hE : NoEnc s) : Ans 0 0 0 0 0 [] 4 w e w' := by
  obtain ⟨hf, k', v', n', a', c', u, l', z, rfl, hs, h | ⟨_, rfl, h, rfl, rfl, rfl, rfl, rfl, rfl⟩ | ⟨_, _, h⟩⟩ := h
  · omega
  · obtain ⟨A, cap, rfl, g⟩ := hs
    exact ⟨A, cap, rfl, ⟨A, cap, rfl, g⟩, hf⟩
  · exact absurd h (hE _ _ _ _ _ _)
theorem decP_long {s : ByteArray} {w w' : World} {e : Ending} (h : DecP s w e w') (hz : ¬ s.size ≤ 60000) : Ans 0 0 0 0 0 [] 2 w e w' := by
  obtain ⟨hf, k', v', n', a', c', u, l', z, rfl, hs, ⟨_, rfl, rfl, rfl, rfl, rfl, rfl, rfl⟩ | ⟨h, _⟩ | ⟨h, _⟩⟩ := h
  · obtain ⟨A, cap, rfl, g⟩ := hs
    exact ⟨A, cap, rfl, ⟨A, cap, rfl, g⟩, hf⟩
  · exact absurd h hz
  · exact absurd h hz
/-- What both Decodes answer of a text. -/
theorem dec23_any (s : ByteArray) (hs : s.size ≤ maxLen) : ∃ (k v n a c : Int) (l : List En) (z : Int),
    (∀ w, Calls Try.prog 8 #[.string s] w fun e w' => Ans k v n a c l z w e w') ∧
    (∀ w, Calls Try.prog 13 #[.string s] w fun e w' => Ans k v n a c l z w e w') ∧
    ((¬ z = 0 ∧ k = 0 ∧ v = 0 ∧ n = 0 ∧ a = 0 ∧ c = 0 ∧ l = []) ∨ (z = 0 ∧ s.size ≤ 60000 ∧ Enc s k v n a c l)) ∧ l.length ≤ 60000 := by
  by_cases hz : s.size ≤ 60000
  · by_cases hE : ∃ k v n a c l, Enc s k v n a c l
    · obtain ⟨k, v, n, a, c, l, hE⟩ := hE
      refine ⟨k, v, n, a, c, l, 0, fun w => (decode23_calls w s hs).mono fun e w' h => decP_yes h hz hE, fun w => (refDecode23_calls w s hs).mono fun e w' h => decP_yes h hz hE, .inr ⟨rfl, hz, hE⟩, ?_⟩
      have h1 := congrArg List.length (enc_open hE).2
      have h2 := (open_ok (enc_open hE).1).2
      rw [ba_len, List.length_append] at h1
      have := jnB_pos l
      omega
    · have hN : NoEnc s := fun k v n a c l h => hE ⟨k, v, n, a, c, l, h⟩
      exact ⟨0, 0, 0, 0, 0, [], 4, fun w => (decode23_calls w s hs).mono fun e w' h => decP_no h hz hN, fun w => (refDecode23_calls w s hs).mono fun e w' h => decP_no h hz hN, .inl ⟨by omega, rfl, rfl, rfl, rfl, rfl, rfl⟩, by simp⟩
  · exact ⟨0, 0, 0, 0, 0, [], 2, fun w => (decode23_calls w s hs).mono fun e w' h => decP_long h hz, fun w => (refDecode23_calls w s hs).mono fun e w' h => decP_long h hz, .inl ⟨by omega, rfl, rfl, rfl, rfl, rfl, rfl⟩, by simp⟩

theorem hb_nil : Hb [] := hb_of (fun x hx => by simp at hx) (by simp)
theorem small_hd : hdB 3 2 0 0 0 0 = [3, 2, 0, 0, 0, 0] := by
  unfold hdB
  rw [uv_small 3 (by omega), uv_small 2 (by omega), uv_small 0 (by omega)]
  rfl
theorem small_ok : okM 3 2 0 0 0 [] = true := by decide
theorem small_E : enE 3 2 0 0 0 [] = 0 := by
  unfold enE
  rw [if_neg (by rw [small_ok]; decide)]
  show (if 60000 < (hdB 3 2 0 0 0 0).length + (jnB []).length + 4 then (2 : Int) else 0) = 0
  rw [small_hd]
  rfl
theorem small_S : enS 3 2 0 0 0 [] = sealS ⟨#[3, 2, 0, 0, 0, 0]⟩ := by
  unfold enS
  rw [if_pos small_E]
  show sealS ⟨(hdB 3 2 0 0 0 0 ++ jnB []).toArray⟩ = _
  rw [small_hd]
  rfl
theorem seal_pre (t : ByteArray) : (sealS t).extract 0 t.size = t := by
  have := seal_part t
  rw [sealS_size, Nat.add_sub_cancel] at this
  exact this

set_option maxRecDepth 100000 in
set_option maxHeartbeats 3200000 in
theorem speaks23_calls (w : World) :
    Calls Try.prog 11 #[] w fun e w' => e = .returned (.bool true) ∧ Fr w w' (fun _ => False) := by
  have EC := hid (fun (W : World) => encode23_calls W 3 2 0 0 0 (.slice none 0 0) [] (Sv.nil23 W) (fun x hx => by simp at hx) (by simp) hb_nil)
  rw [small_E, small_S] at EC
  have hEn := (enc_of (k := 3) (v := 2) (n := 0) (a := 0) (c := 0) (l := []) (fun x hx => by simp at hx) small_E)
  rw [small_S] at hEn
  have hsz := sealS_size ⟨#[3, 2, 0, 0, 0, 0]⟩
  have hpre := seal_pre ⟨#[3, 2, 0, 0, 0, 0]⟩
  rw [show (⟨#[3, 2, 0, 0, 0, 0]⟩ : ByteArray).size = 6 from rfl] at hsz hpre
  generalize sealS ⟨#[3, 2, 0, 0, 0, 0]⟩ = S at *
  have DC := hid (fun (W : World) => (decode23_calls W S (by unfold maxLen; omega)).mono fun e w' h => decP_yes h hEn.2 hEn.1)
  clear hEn
  have e7 : ((S.extract 0 6).toList == (⟨#[3, 2, 0, 0, 0, 0]⟩ : ByteArray).toList) = true := by rw [hpre]; simp
  go_enter Try.func11, Try.ntmps11
  go_wp2_with (first
    | (go_at_call 7; refine (EC.out _).mono ?_; rintro e w1 ⟨rfl, hf1⟩)
    | (go_at_call 8; refine (DC.out _).mono ?_; rintro e w2 ⟨A, cap, rfl, hs, hf2⟩))
  go_ret
  exact ⟨rfl, (hf1.trans hf2).alloc _⟩
end Go.Proofs.Ytmnmmmoeeapeiaa.Cw

/- An argument that is an item, opened. Own work. -/
namespace Go.Proofs.Ytmnmmmoeeapeiaa.Cw
open Go.Joins Go.ChangeShapes Go.WideShapes Go.RowKit
set_option linter.unusedVariables false

theorem wf_i64 {n : Int} (h : (Lit.int .i64 n).wf = true) : -9223372036854775808 ≤ n ∧ n < 9223372036854775808 := by
  simp [Lit.wf, IntKind.min, IntKind.max, IntKind.bits, IntKind.signed] at h
  omega

end Go.Proofs.Ytmnmmmoeeapeiaa.Cw

/- A slice of items as an argument. Own work. -/
namespace Go.Proofs.Ytmnmmmoeeapeiaa.Cw
open Go.ChangeShapes Go.WideShapes Go.Deep Go.RowKit Go.Joins
set_option linter.unusedVariables false

/-- An item. -/
structure It where
  kind : Int
  n : Int
  size : Int
  s : ByteArray
def It.V (x : It) : Value := itemV x.kind x.n x.size x.s
def It.cells (x : It) : List Value := [.int .i64 x.kind, .int .i64 x.n, .int .i64 x.size, .string x.s]
/-- An item's numbers are ints, and its text is no longer than a text may be. -/
def It.Ok (x : It) : Prop := (-9223372036854775808 ≤ x.n ∧ x.n < 9223372036854775808) ∧ (-9223372036854775808 ≤ x.size ∧ x.size < 9223372036854775808) ∧ x.s.size ≤ maxLen

theorem add_plain (b o i : Nat) : (⟨b, o, none⟩ : Addr).add i = ⟨b, o + i, none⟩ := Addr.add_lit b o i

/-- An item lies at this place. -/
def ItAt (w : World) (b o : Nat) (x : It) : Prop := w.cell? ⟨b, o, none⟩ = some (.int .i64 x.kind) ∧ w.cell? ⟨b, o + 1, none⟩ = some (.int .i64 x.n) ∧ w.cell? ⟨b, o + 2, none⟩ = some (.int .i64 x.size) ∧ w.cell? ⟨b, o + 3, none⟩ = some (.string x.s)

/-- The slice value of these parts reads as these items; it lies below block B. -/
def Items (w : World) (B : Nat) (A : Option Addr) (len : Nat) (l : List It) : Prop :=
  l.length = len ∧ (∀ x ∈ l, x.Ok) ∧ (0 < len → ∃ b o : Nat, A = some ⟨b, o, none⟩ ∧ b < B ∧ ∀ (i : Nat) (x : It), l[i]? = some x → ItAt w b (o + i * 4) x)

theorem ItAt.fr {w W : World} {b o : Nat} {x : It} {S : Nat → Prop} (h : ItAt w b o x) (k : Fr w W S) (hb : b < w.heap.size) (hs : ¬ S b) : ItAt W b o x := by
  have e : ∀ q, W.cell? ⟨b, q, none⟩ = w.cell? ⟨b, q, none⟩ := fun q => World.cell?_of_block (k.block b hb hs)
  unfold ItAt at *
  rw [e, e, e, e]
  exact h

theorem spot_none {w : World} {a : Addr} {v : Value} (h : w.cell? (a.add (0 * 4 + 0)) = some v) : a = ⟨a.block, a.off, none⟩ := by
  obtain ⟨b, o, sp⟩ := a
  cases sp with
  | none => rfl
  | some q =>
    unfold World.cell? at h
    simp [Addr.add] at h
    split at h <;> simp at h

theorem cell_lt {w : World} {a : Addr} {k : Nat} {v : Value} (h : w.cell? (a.add k) = some v) : a.block < w.heap.size := by
  have hb : (a.add k).block = a.block := by unfold Addr.add; split <;> rfl
  unfold World.cell? at h
  rw [hb] at h
  rcases Nat.lt_or_ge a.block w.heap.size with h1 | h1
  · exact h1
  · rw [Array.getElem?_eq_none h1] at h
    cases h

section
variable {H : Type} {enc : TypeId × Value → H} {P : Program} {w : World} {base : Nat} {spare : Nat → Bool} {held : Bool}
theorem open_slice_fields {t e : TypeId} {fs : Array Field} {fuel : Nat} {cs : List Value} {x : DataW H × List MemPlace} (ht : P.underlying t = some (.slice e)) (he : P.underlying e = some (.struct fs))
    (hone : oneCellFields P fs = true) (hC : P.cellsOf e = fs.size) (h : DataW.trod enc P w base spare held fuel t cs = some x) :
    (cs = [.slice none 0 0] ∧ x = (.nil, [])) ∨
    ∃ (a : Addr) (len cap m : Nat) (D : Nat → DataW H) (Pl : Nat → List MemPlace), cs = [.slice (some a) len cap] ∧ base ≤ a.block ∧ len ≤ cap ∧ cap ≤ maxLen ∧ m = (if spare a.block then cap else len) ∧
      x = (.slice ((List.range len).map D) ((List.range (m - len)).map fun j => D (len + j)), MemPlace.row a (m * fs.size) ++ (List.range m).flatMap Pl) ∧
      ∀ i, i < m → ∃ (ys : List (DataW H × List MemPlace)) (n : Nat), D i = .agg (ys.map (·.1)) ∧ Pl i = ys.flatMap (·.2) ∧ ys.length = fs.size ∧
        ∀ (j : Nat) (f : Field), fs[j]? = some f → ∃ (v : Value) (y : DataW H × List MemPlace), w.cell? (a.add (i * fs.size + j)) = some v ∧ ys[j]? = some y ∧ DataW.trod enc P w base spare held n f.type [v] = some y := by
  rcases open_slice ht h with h0 | ⟨a, len, cap, m, n, D, Pl, hcs, hb, hl, hm, hmm, hx, hi⟩
  · exact .inl h0
  · refine .inr ⟨a, len, cap, m, D, Pl, hcs, hb, hl, hm, hmm, by rw [hC] at hx; exact hx, fun i him => ?_⟩
    obtain ⟨cs', hc, ht'⟩ := hi i him
    rw [hC] at hc
    obtain ⟨ys, n', hn', hy, hlen, hyl, hf⟩ := DataW.trod_struct he ht'
    obtain ⟨_, hcl, hat⟩ := World.cells?_some hc
    simp only [Prod.mk.injEq] at hy
    refine ⟨ys, n', hy.1, hy.2, hyl, fun j f hj => ?_⟩
    obtain ⟨ho, hk⟩ := hone_of hone j f hj
    have hjl : j < fs.size := (Array.getElem?_eq_some_iff.1 hj).1
    have hcell := hat j hjl
    have hv : cs'[j]? = some (cs'[j]'(by omega)) := List.getElem?_eq_getElem (by omega)
    have h1 := hf j f hj
    rw [ho, hk] at h1
    have hone' : (cs'.drop j).take 1 = [cs'[j]'(by omega)] := by
      rw [List.drop_eq_getElem_cons (by omega)]
      rfl
    rw [hone'] at h1
    have hys : ys[j]? = some (ys[j]'(by omega)) := List.getElem?_eq_getElem (by omega)
    refine ⟨_, _, ?_, hys, h1.trans hys⟩
    rw [← Go.Deep.add_add, hcell, hv]
end

end Go.Proofs.Ytmnmmmoeeapeiaa.Cw

/- What the bound of the narrower statements gives for a slice of items. Own work. -/
namespace Go.Proofs.Ytmnmmmoeeapeiaa.Cw
open Go.ChangeShapes Go.WideShapes Go.Deep Go.RowKit Go.Joins
set_option linter.unusedVariables false

theorem bulk_one {H : Type} (d : DataW H) : 1 ≤ Rows.uptoBulk d := by
  cases d with
  | lit l => cases l <;> simp [Rows.uptoBulk]
  | _ => simp [Rows.uptoBulk]
theorem bulk_part {H : Type} {d : DataW H} {l : List (DataW H)} (h : d ∈ l) : Rows.uptoBulk d ≤ Rows.uptoBulkAll l := by
  induction l with
  | nil => cases h
  | cons x r ih =>
    simp only [Rows.uptoBulkAll]
    rcases List.mem_cons.1 h with rfl | e
    · omega
    · have := ih e
      omega
theorem bulk_count {H : Type} (l : List (DataW H)) : l.length ≤ Rows.uptoBulkAll l := by
  induction l with
  | nil => simp
  | cons x r ih =>
    have := bulk_one x
    simp only [Rows.uptoBulkAll, List.length_cons]
    omega
theorem bulk_bound {H : Type} {l : List (DataW H)} (hk : Rows.uptoSmall H l = true) : Rows.uptoBulkAll l ≤ 1048576 := of_decide_eq_true hk

end Go.Proofs.Ytmnmmmoeeapeiaa.Cw
