/- What was encoded is decoded. Plain. Own work. -/
import Derived.Test.YtmbfcnacoijmaaaIoT
import Derived.Test.YtmbfcnacoijmaaaCwK
namespace Go.Proofs.Ytmbfcnacoijmaaa.Cw
set_option linter.unusedVariables false

theorem back_step (s : ByteArray) (j n : Nat) (rest : List UInt8) (h : rst s j = (⟨(fixB n (fsz j) ++ rest).toArray⟩, 0)) (hn : n ≤ 2 ^ 63 - 1) (hf : n < 256 ^ fsz j) : rvl s j = n ∧ rst s (j + 1) = (⟨rest.toArray⟩, 0) := by
  have hr := rd_fix n (fsz j) rest hn hf
  constructor
  · unfold rvl
    rw [h]
    show (((rdF (fsz j) ⟨(fixB n (fsz j) ++ rest).toArray⟩ 0).1 : Nat) : Int) = n
    rw [hr]
  · show ((rdF (fsz j) (rst s j).1 (rst s j).2).2.2.1, (rdF (fsz j) (rst s j).1 (rst s j).2).2.2.2) = _
    rw [h]
    show ((rdF (fsz j) ⟨(fixB n (fsz j) ++ rest).toArray⟩ 0).2.2.1, (rdF (fsz j) ⟨(fixB n (fsz j) ++ rest).toArray⟩ 0).2.2.2) = _
    rw [hr]
theorem ndB_nest (x : Nd) : ndB x = (fixB x.k.toNat 1 ++ (fixB x.l.toNat 1 ++ (fixB x.s.toNat 4 ++ (fixB x.d0.toNat 2 ++ (fixB x.d1.toNat 2 ++ (fixB x.d2.toNat 2 ++ (fixB x.d3.toNat 2 ++ (fixB x.d4.toNat 2 ++ (fixB x.d5.toNat 2 ++ (fixB x.a.toNat 2 ++ (fixB x.b.toNat 2 ++ zero10))))))))))) := by
  unfold ndB nd22
  simp only [ndBi, ndB3, Nd.d, List.append_assoc]
theorem back_nd (x : Nd) (h : x.R) : Nd.ofF (rvl ⟨(ndB x).toArray⟩) = x := by
  obtain ⟨hk, hl, hs, hd, ha, hb⟩ := R_nat h
  have g0 : 0 ≤ x.d0 ∧ x.d0 < 65536 := hd 0
  have g1 : 0 ≤ x.d1 ∧ x.d1 < 65536 := hd 1
  have g2 : 0 ≤ x.d2 ∧ x.d2 < 65536 := hd 2
  have g3 : 0 ≤ x.d3 ∧ x.d3 < 65536 := hd 3
  have g4 : 0 ≤ x.d4 ∧ x.d4 < 65536 := hd 4
  have g5 : 0 ≤ x.d5 ∧ x.d5 < 65536 := hd 5
  have e0 : rst ⟨(ndB x).toArray⟩ 0 = (⟨(fixB x.k.toNat 1 ++ (fixB x.l.toNat 1 ++ (fixB x.s.toNat 4 ++ (fixB x.d0.toNat 2 ++ (fixB x.d1.toNat 2 ++ (fixB x.d2.toNat 2 ++ (fixB x.d3.toNat 2 ++ (fixB x.d4.toNat 2 ++ (fixB x.d5.toNat 2 ++ (fixB x.a.toNat 2 ++ (fixB x.b.toNat 2 ++ zero10))))))))))).toArray⟩, 0) := by
    show ((⟨(ndB x).toArray⟩ : ByteArray), 0) = _
    rw [ndB_nest]
  generalize (⟨(ndB x).toArray⟩ : ByteArray) = s at *
  obtain ⟨v0, e1⟩ := back_step s 0 x.k.toNat (fixB x.l.toNat 1 ++ (fixB x.s.toNat 4 ++ (fixB x.d0.toNat 2 ++ (fixB x.d1.toNat 2 ++ (fixB x.d2.toNat 2 ++ (fixB x.d3.toNat 2 ++ (fixB x.d4.toNat 2 ++ (fixB x.d5.toNat 2 ++ (fixB x.a.toNat 2 ++ (fixB x.b.toNat 2 ++ zero10)))))))))) e0 (by omega) (by show x.k.toNat < 256 ^ 1; omega)
  obtain ⟨v1, e2⟩ := back_step s 1 x.l.toNat (fixB x.s.toNat 4 ++ (fixB x.d0.toNat 2 ++ (fixB x.d1.toNat 2 ++ (fixB x.d2.toNat 2 ++ (fixB x.d3.toNat 2 ++ (fixB x.d4.toNat 2 ++ (fixB x.d5.toNat 2 ++ (fixB x.a.toNat 2 ++ (fixB x.b.toNat 2 ++ zero10))))))))) e1 (by omega) (by show x.l.toNat < 256 ^ 1; omega)
  obtain ⟨v2, e3⟩ := back_step s 2 x.s.toNat (fixB x.d0.toNat 2 ++ (fixB x.d1.toNat 2 ++ (fixB x.d2.toNat 2 ++ (fixB x.d3.toNat 2 ++ (fixB x.d4.toNat 2 ++ (fixB x.d5.toNat 2 ++ (fixB x.a.toNat 2 ++ (fixB x.b.toNat 2 ++ zero10)))))))) e2 (by omega) (by show x.s.toNat < 256 ^ 4; omega)
  obtain ⟨v3, e4⟩ := back_step s 3 x.d0.toNat (fixB x.d1.toNat 2 ++ (fixB x.d2.toNat 2 ++ (fixB x.d3.toNat 2 ++ (fixB x.d4.toNat 2 ++ (fixB x.d5.toNat 2 ++ (fixB x.a.toNat 2 ++ (fixB x.b.toNat 2 ++ zero10))))))) e3 (by omega) (by show x.d0.toNat < 256 ^ 2; omega)
  obtain ⟨v4, e5⟩ := back_step s 4 x.d1.toNat (fixB x.d2.toNat 2 ++ (fixB x.d3.toNat 2 ++ (fixB x.d4.toNat 2 ++ (fixB x.d5.toNat 2 ++ (fixB x.a.toNat 2 ++ (fixB x.b.toNat 2 ++ zero10)))))) e4 (by omega) (by show x.d1.toNat < 256 ^ 2; omega)
  obtain ⟨v5, e6⟩ := back_step s 5 x.d2.toNat (fixB x.d3.toNat 2 ++ (fixB x.d4.toNat 2 ++ (fixB x.d5.toNat 2 ++ (fixB x.a.toNat 2 ++ (fixB x.b.toNat 2 ++ zero10))))) e5 (by omega) (by show x.d2.toNat < 256 ^ 2; omega)
  obtain ⟨v6, e7⟩ := back_step s 6 x.d3.toNat (fixB x.d4.toNat 2 ++ (fixB x.d5.toNat 2 ++ (fixB x.a.toNat 2 ++ (fixB x.b.toNat 2 ++ zero10)))) e6 (by omega) (by show x.d3.toNat < 256 ^ 2; omega)
  obtain ⟨v7, e8⟩ := back_step s 7 x.d4.toNat (fixB x.d5.toNat 2 ++ (fixB x.a.toNat 2 ++ (fixB x.b.toNat 2 ++ zero10))) e7 (by omega) (by show x.d4.toNat < 256 ^ 2; omega)
  obtain ⟨v8, e9⟩ := back_step s 8 x.d5.toNat (fixB x.a.toNat 2 ++ (fixB x.b.toNat 2 ++ zero10)) e8 (by omega) (by show x.d5.toNat < 256 ^ 2; omega)
  obtain ⟨v9, e10⟩ := back_step s 9 x.a.toNat (fixB x.b.toNat 2 ++ zero10) e9 (by omega) (by show x.a.toNat < 256 ^ 2; omega)
  obtain ⟨v10, e11⟩ := back_step s 10 x.b.toNat zero10 e10 (by omega) (by show x.b.toNat < 256 ^ 2; omega)
  unfold Nd.ofF
  rw [v0, v1, v2, v3, v4, v5, v6, v7, v8, v9, v10]
  obtain ⟨k, l, s', d0, d1, d2, d3, d4, d5, a, b⟩ := x
  simp only [Nd.mk.injEq]
  simp only at hk hl hs ha hb g0 g1 g2 g3 g4 g5
  omega
/-- Its bytes tell it. -/
theorem ndV_back (x : Nd) (h : x.R) : ndV (Nd.ofF (rvl ⟨(ndB x).toArray⟩)) ⟨(ndB x).toArray⟩ = .tuple #[x.V, .int .i64 0] := by
  rw [back_nd x h]
  exact ndV_yes ⟨h, rfl⟩
end Go.Proofs.Ytmbfcnacoijmaaa.Cw
