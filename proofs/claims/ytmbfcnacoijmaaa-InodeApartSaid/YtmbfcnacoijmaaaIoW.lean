/- An argument that is a slice of numbers, opened; InodeCosts. Own work. -/
import Derived.Test.YtmbfcnacoijmaaaIoV
import Derived.ProofKit
import Derived.Lib.SmallJoins
import Derived.OpenShut
import Derived.ChangeSlices
import Derived.Deep.Slices
namespace Go.Proofs.Ytmbfcnacoijmaaa.Cw
open Go.Joins Go.ChangeShapes Go.WideShapes Go.RowKit
set_option linter.unusedVariables false
set_option linter.unusedSimpArgs false

theorem wf_i64b {n : Int} (h : (Lit.int .i64 n).wf = true) : -9223372036854775808 ≤ n ∧ n < 9223372036854775808 := by
  simp [Lit.wf, IntKind.min, IntKind.max, IntKind.bits, IntKind.signed] at h
  omega
/-- A slice of numbers that came in. -/
def Nums (w : World) (v : Value) (n : Nat) (xs : Nat → Int) : Prop := n ≤ 17592186043904 ∧ (∀ i, i < n → -9223372036854775808 ≤ xs i ∧ xs i < 9223372036854775808) ∧ ((n = 0 ∧ ∃ A cap, v = .slice A 0 cap) ∨ (0 < n ∧ ∃ b off cap, n ≤ cap ∧ cap ≤ maxLen ∧ v = .slice (some ⟨b, off, none⟩) n cap ∧ Sl w b off n xs))
theorem Nums.fr {w w' : World} {v : Value} {n : Nat} {xs : Nat → Int} (h : Nums w v n xs) (hf : Fr w w' (fun _ => False)) : Nums w' v n xs := by
  obtain ⟨h1, h2, h3 | ⟨h3, b, off, cap, h4, h5, h6, h7⟩⟩ := h
  · exact ⟨h1, h2, .inl h3⟩
  · exact ⟨h1, h2, .inr ⟨h3, b, off, cap, h4, h5, h6, h7.fr hf⟩⟩
theorem spot_none12 {w : World} {a : Addr} {v : Value} (h : w.cell? a = some v) : a = ⟨a.block, a.off, none⟩ := by
  obtain ⟨b, o, sp⟩ := a
  cases sp with
  | none => rfl
  | some q =>
    unfold World.cell? at h
    simp at h
    split at h <;> simp at h

set_option maxRecDepth 100000 in
theorem open_nums {H : Type} {enc : TypeId × Value → H} {w : World} {base : Nat} {spare : Nat → Bool} {held : Bool} {r : Reach} {b0 : Nat} {v : Value} {d : DataW H} {p : List MemPlace}
    (hv : Value.okWide Try.prog w r b0 38 v) (h : DataW.Trod enc Try.prog w base spare held 38 v d p)
    (hs : ∀ es sp, d = .slice es sp → (es.length + sp.length) * Try.prog.bytesOf 3 ≤ reachBytes) : ∃ n xs, Nums w v n xs := by
  obtain ⟨a0, len, cap, rfl⟩ := okWide_slice Try.underlying38 hv
  obtain ⟨fuel, hf⟩ := h
  rcases open_ints Try.underlying38 Try.underlying3 (by kernel_rfl) hf with ⟨hcs, _⟩ | ⟨a, len', cap', zs, hcs, _, hl, hm, hz, hx, hcell, hwz⟩
  · simp [Value.cells] at hcs
    obtain ⟨rfl, rfl, rfl⟩ := hcs
    exact ⟨0, fun _ => 0, by omega, fun i hi => absurd hi (by omega), .inl ⟨rfl, none, 0, rfl⟩⟩
  · simp [Value.cells] at hcs
    obtain ⟨rfl, rfl, rfl⟩ := hcs
    have hlz : len ≤ zs.length := by rw [hz]; split <;> omega
    have h8 : Try.prog.bytesOf 3 = 8 := by kernel_rfl
    have hsz := hs _ _ (congrArg Prod.fst hx)
    rw [h8] at hsz
    have hlen : len ≤ 17592186043904 := by
      simp only [lits, List.length_map, List.length_take, List.length_drop] at hsz
      unfold reachBytes at hsz
      omega
    refine ⟨len, fun i => zs.getD i 0, hlen, fun i hi => ?_, ?_⟩
    · have hm : zs.getD i 0 ∈ zs := by
        rw [List.getD_eq_getElem?_getD, List.getElem?_eq_getElem (by omega)]
        exact List.getElem_mem _
      exact wf_i64b (hwz _ hm)
    · by_cases h0 : len = 0
      · subst h0
        exact .inl ⟨rfl, some a, cap, rfl⟩
      · have hq := spot_none12 (hcell 0 (by omega))
        refine .inr ⟨by omega, a.block, a.off, cap, by omega, by omega, ?_, fun i hi => ?_⟩
        · rw [Addr.add_zero'] at hq
          exact congrArg (fun z => Value.slice (some z) len cap) hq
        · have := hcell i (by omega)
          rw [Addr.add_zero'] at hq
          generalize a.block = bb at *
          generalize a.off = oo at *
          subst hq
          rw [Addr.add_lit] at this
          exact this

theorem coV_split (n : Nat) (xs : Nat → Int) : ∃ c e : Int, coV n xs = .tuple #[.int .i64 c, .int .i64 e] := by
  by_cases h : okp xs n
  · exact ⟨_, _, coV_yes h⟩
  · exact ⟨_, _, coV_no h⟩
theorem cost_nums (w : World) (v : Value) (n : Nat) (xs : Nat → Int) (h : Nums w v n xs) :
    Calls Try.prog 17 #[v] w fun e w' => e = .returned (coV n xs) ∧ Fr w w' (fun _ => False) := by
  obtain ⟨h1, h2, ⟨rfl, A, cap, rfl⟩ | ⟨h3, b, off, cap, h4, h5, rfl, h7⟩⟩ := h
  · exact cost_none w A cap xs
  · exact cost_some w b off n cap xs h7 h2 h1
theorem refCost_nums (w : World) (v : Value) (n : Nat) (xs : Nat → Int) (h : Nums w v n xs) :
    Calls Try.prog 18 #[v] w fun e w' => e = .returned (coV n xs) ∧ w = w' := by
  obtain ⟨h1, h2, ⟨rfl, A, cap, rfl⟩ | ⟨h3, b, off, cap, h4, h5, rfl, h7⟩⟩ := h
  · exact refCost_none w A cap xs
  · exact refCost_some w b off n cap xs h7 h2 h1

set_option maxRecDepth 100000 in
set_option maxHeartbeats 3200000 in
theorem costs_calls (w : World) (v : Value) (n : Nat) (xs : Nat → Int) (h : Nums w v n xs) :
    Calls Try.prog 4 #[v] w fun e w' => e = .returned (.bool true) ∧ Fr w w' (fun _ => False) := by
  obtain ⟨c, e, hce⟩ := coV_split n xs
  have C1 := cost_nums w v n xs h
  have C2 := hid (fun w' (hf : Fr w w' (fun _ => False)) => refCost_nums w' v n xs (h.fr hf))
  rw [hce] at C1 C2
  have C1h := hid C1
  clear C1 hce h
  go_enter Try.func4, Try.ntmps4
  go_wp2_with fail
  refine C1h.out.mono ?_
  rintro e w1 ⟨rfl, hf1⟩
  go_wp2_with fail
  refine (C2.out w1 hf1).mono ?_
  rintro e w2 ⟨rfl, rfl⟩
  go_wp2_with (go_at_call 16; refine (speaks12_calls _).mono ?_; rintro e6 w6 ⟨rfl, hf6⟩)
  go_ret
  exact ⟨rfl, hf1.trans hf6⟩
end Go.Proofs.Ytmbfcnacoijmaaa.Cw
