/- InodeApart by a walk over contracts. Own work. -/
import Derived.Test.YtmbfcnacoijmaaaIoW
import Derived.Test.YtmbfcnacoijmaaaIoX
import Derived.Test.YtmbfcnacoijmaaaIoZ
import Derived.Deep.DeepCutAuto
import Derived.Deep.CutRange
namespace Go.Proofs.Ytmbfcnacoijmaaa.Cw
open Go.RowKit
set_option linter.unusedVariables false
set_option linter.unusedSimpArgs false

theorem beq_ff {a b : Int} (h : ¬ a = b) : (a == b) = false := beq_eq_false_iff_ne.2 h
set_option maxRecDepth 100000 in
set_option maxHeartbeats 6400000 in
theorem apart_calls (w : World) (a b : Int) (v : Value) (n : Nat) (xs : Nat → Int) (a1 : -9223372036854775808 ≤ a) (a2 : a < 9223372036854775808) (b1 : -9223372036854775808 ≤ b) (b2 : b < 9223372036854775808) (h : Nums w v n xs) :
    Calls Try.prog 5 #[.int .i64 a, .int .i64 b, v] w fun e w' => e = .returned (.bool true) ∧ Fr w w' (fun _ => False) := by
  have P1 := hid (fun w => place_calls w a a1 a2)
  have P2 := hid (fun w => place_calls w b b1 b2)
  obtain ⟨pa, qa, ra, ea, hpa⟩ := plV_split a
  obtain ⟨pb, qb, rb, eb, hpb⟩ := plV_split b
  have HAP : Hid (ea = 0 → eb = 0 → a ≠ b → ¬ (pa = pb ∧ qa = qb ∧ ra = rb)) := hid (fun h1 h2 h3 h4 => by
    have hia : Ix a := by
      by_cases hx : Ix a
      · exact hx
      · rw [plV_no hx] at hpa
        simp only [Value.tuple.injEq, Array.mk.injEq, List.cons.injEq, Value.int.injEq, true_and, and_true] at hpa
        omega
    have hib : Ix b := by
      by_cases hx : Ix b
      · exact hx
      · rw [plV_no hx] at hpb
        simp only [Value.tuple.injEq, Array.mk.injEq, List.cons.injEq, Value.int.injEq, true_and, and_true] at hpb
        omega
    rw [show plV a = _ from if_pos hia] at hpa
    rw [show plV b = _ from if_pos hib] at hpb
    simp only [Value.tuple.injEq, Array.mk.injEq, List.cons.injEq, Value.int.injEq, true_and, and_true] at hpa hpb
    exact place_apart a b hia hib h3 ⟨by omega, by omega, by omega⟩)
  rw [hpa] at P1
  rw [hpb] at P2
  have HN := hid h
  clear hpa hpb a1 a2 b1 b2 h
  go_enter Try.func5, Try.ntmps5
  go_wp2_with fail
  refine (P1.out _).mono ?_
  rintro e w1 ⟨rfl, rfl⟩
  go_wp2_with fail
  refine (P2.out _).mono ?_
  rintro e w1 ⟨rfl, rfl⟩
  go_upto_region 3 with fail
  go_cut [58] (fun c wx => c = .bool false ∧ w = wx)
  case first =>
    by_cases h1 : ea = 0
    · have h1b : (ea == 0) = true := beq_iff_eq.2 h1
      by_cases h2 : eb = 0
      · have h2b : (eb == 0) = true := beq_iff_eq.2 h2
        by_cases h3 : a = b
        · have h3b : (a != b) = false := by rw [h3]; simp
          have H3 := hid h3
          clear h1 h2 h3
          go_wp2_with fail
          go_meet
          exact ⟨rfl, rfl⟩
        · have h3b : (a != b) = true := bne_iff_ne.2 h3
          have hno := hid (HAP.out h1 h2 h3)
          clear h1 h2 h3
          by_cases h4 : pa = pb
          · have h4b : (pa == pb) = true := beq_iff_eq.2 h4
            have H4 := hid h4
            clear h4
            by_cases h5 : qa = qb
            · have h5b : (qa == qb) = true := beq_iff_eq.2 h5
              have H5 := hid h5
              clear h5
              have h6b : (ra == rb) = false := beq_ff (fun h6 => hno.out ⟨H4.out, H5.out, h6⟩)
              go_wp2_with fail
              go_meet
              exact ⟨rfl, rfl⟩
            · have h5b : (qa == qb) = false := beq_ff h5
              clear h5
              go_wp2_with fail
              go_meet
              exact ⟨rfl, rfl⟩
          · have h4b : (pa == pb) = false := beq_ff h4
            clear h4
            go_wp2_with fail
            go_meet
            exact ⟨rfl, rfl⟩
      · have h2b : (eb == 0) = false := beq_ff h2
        clear h1 h2
        go_wp2_with fail
        go_meet
        exact ⟨rfl, rfl⟩
    · have h1b : (ea == 0) = false := beq_ff h1
      clear h1
      go_wp2_with fail
      go_meet
      exact ⟨rfl, rfl⟩
  case rest =>
    obtain ⟨rfl, rfl⟩ := hcut
    clear HAP P1 P2
    by_cases hok : okp xs n
    · have C1 := hid (cost_nums w v n xs HN.out)
      rw [coV_yes hok] at C1
      obtain ⟨n1, n2, ⟨rfl, A, cap, rfl⟩ | ⟨n3, b, off, cap, n4, n5, rfl, n7⟩⟩ := HN.out
      · have C2 : Hid (Calls Try.prog 17 #[.slice A 0 cap] w fun e w' => e = .returned (.tuple #[.int .i64 0, .int .i64 0]) ∧ Fr w w' (fun _ => False)) := hid C1.out
        clear C1 hok n2
        go_wp2_with fail
        refine C2.out.mono ?_
        rintro e w1 ⟨rfl, hf1⟩
        go_wp2_with (go_at_call 16; refine (speaks12_calls _).mono ?_; rintro e6 w6 ⟨rfl, hf6⟩)
        go_ret
        exact ⟨rfl, hf1.trans hf6⟩
      · obtain ⟨m, rfl⟩ : ∃ m, n = m + 1 := ⟨n - 1, by omega⟩
        have hk := kstep_len (xs m) (ks xs m)
        rw [show kstep (xs m) (ks xs m) = ks xs (m + 1) from rfl] at hk
        have hk2 := ks_len xs m
        have C2 := hid (fun w' (hf : Fr w w' (fun _ => False)) => (by
          have hN : Nums w' (.slice (some ⟨b, off, none⟩) m cap) m xs := by
            refine Nums.fr ⟨by omega, fun i hi => n2 i (by omega), ?_⟩ hf
            by_cases h0 : m = 0
            · subst h0; exact .inl ⟨rfl, _, _, rfl⟩
            · exact .inr ⟨by omega, b, off, cap, by omega, n5, rfl, fun i hi => n7 i (by omega)⟩
          have := cost_nums w' _ m xs hN
          rw [coV_yes (okp_le hok (by omega))] at this
          exact this : Calls Try.prog 17 #[.slice (some ⟨b, off, none⟩) m cap] w' fun e w2 => e = .returned (.tuple #[.int .i64 ((m + (ks xs m).length : Nat) : Int), .int .i64 0]) ∧ Fr w' w2 (fun _ => False)))
        generalize (ks xs (m + 1)).length = K1 at *
        generalize (ks xs m).length = K0 at *
        have i1 : (0 : Int) ≤ (m : Int) := by omega
        have i2 : (m : Int) ≤ (cap : Int) := by omega
        have hb : (((m + 1 : Nat) : Int) == 0) = false := by rw [beq_eq_false_iff_ne]; omega
        unfold maxLen at n5
        clear n2 n3 n7 hok HN
        go_wp2_with fail
        refine C1.out.mono ?_
        rintro e w1 ⟨rfl, hf1⟩
        go_wp2_with fail
        refine (C2.out w1 hf1).mono ?_
        rintro e w2 ⟨rfl, hf2⟩
        have hF := hf1.trans hf2
        clear hf1 hf2
        go_wp2_with (go_at_call 16; refine (speaks12_calls _).mono ?_; rintro e6 w6 ⟨rfl, hf6⟩)
        all_goals
          go_ret
          exact ⟨rfl, hF.trans hf6⟩
    · have C1 := hid (cost_nums w v n xs HN.out)
      rw [coV_no hok] at C1
      obtain ⟨n1, n2, ⟨rfl, A, cap, rfl⟩ | ⟨n3, b, off, cap, n4, n5, rfl, n7⟩⟩ := HN.out
      · exact absurd (okp_zero xs) hok
      · clear hok n2 n7
        go_wp2_with fail
        refine C1.out.mono ?_
        rintro e w1 ⟨rfl, hf1⟩
        go_wp2_with (go_at_call 16; refine (speaks12_calls _).mono ?_; rintro e6 w6 ⟨rfl, hf6⟩)
        go_ret
        exact ⟨rfl, hf1.trans hf6⟩
/-- The same, the facts in the row's order. -/
theorem apart_row (w : World) (a b : Int) (v : Value) (n : Nat) (xs : Nat → Int) (a1 : -9223372036854775808 ≤ a) (a2 : a < 9223372036854775808) (b1 : -9223372036854775808 ≤ b) (b2 : b < 9223372036854775808) (h : Nums w v n xs) :
    Calls Try.prog 5 #[.int .i64 a, .int .i64 b, v] w fun e w' => e = .returned (.bool true) ∧ Fr w w' (fun _ => False) := apart_calls w a b v n xs a1 a2 b1 b2 h
end Go.Proofs.Ytmbfcnacoijmaaa.Cw
