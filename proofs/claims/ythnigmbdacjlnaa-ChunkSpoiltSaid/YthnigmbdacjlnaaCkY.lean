/- The law's own small case. Own work. -/
import Derived.Test.YthnigmbdacjlnaaCkX
import Derived.Test.YthnigmbdacjlnaaCkW
namespace Go.Proofs.Ythnigmbdacjlnaa.Cw
open Go.RowKit
set_option linter.unusedVariables false
set_option linter.unusedSimpArgs false

def zO128 : Obj := .cells (Array.replicate 128 (.int .u8 0)) 5
def zb : ByteArray := strOfNums (List.replicate 128 0)
theorem zb_size : zb.size = 128 := by kernel_rfl
theorem info_byte25 : (Try.prog.info? 5).map (fun i => (i.zero, i.size, i.bytes)) = some (some (.int .u8 0), 1, 1) := by kernel_rfl
theorem made128 (w : World) : (Instr.makeSlice 59 (.int .i64 128) (.int .i64 128)).run Try.prog w = .ok (.slice (some ⟨w.heap.size, 0, none⟩) 128 128) (w.alloc zO128) := by
  obtain ⟨i0, hi, hz0, hz1, hz2⟩ := info_parts info_byte25
  have hr := run_make (P := Try.prog) w 59 5 i0 (.int .u8 0) Try.underlying59 hi hz0 .i64 .i64 128 128 (by omega) (by omega) (by rw [hz2]; omega) (by omega)
  rw [hr, hz1]
  have e : madeCells (Value.int .u8 0).cells (Int.toNat 128 * 1) = Array.replicate 128 (.int .u8 0) := by kernel_rfl
  rw [e]
  rfl
theorem conv128 (w : World) : (convert 59 9 (.slice (some ⟨w.heap.size, 0, none⟩) 128 128)).run Try.prog (w.alloc zO128) = .ok (.string zb) (w.alloc zO128) := by
  rw [run_convert_bytes_arg (w.alloc zO128) 59 5 Try.underlying59 Try.underlying5 w.heap.size 0 128 128 (List.replicate 128 0) (by simp) (fun i hi => by
    rw [Nat.zero_add]
    refine (cell_blk (alloc_new w _) i).trans ?_
    rw [Array.getElem?_replicate, if_pos hi, List.getD_eq_getElem?_getD, List.getElem?_replicate, if_pos hi]
    rfl) 9 Try.underlying9]
  rfl
theorem rep_succ (j : Nat) : (List.replicate (j + 1) zb).map Value.string = (List.replicate j zb).map Value.string ++ [.string zb] := by
  rw [List.replicate_succ', List.map_append]
  rfl

def bs10 : List ByteArray := List.replicate 10 zb
theorem vs10 : Vs bs10 := ⟨by unfold bs10; rw [List.length_replicate]; omega, fun b hb => by
  rw [List.eq_of_mem_replicate hb]; exact zb_size⟩
theorem mch10 : mch bs10 = 2 := by unfold mch bs10; rw [List.length_replicate]
theorem spl10 : splL bs10 = [ckAt bs10 0, ckAt bs10 1] := by
  rw [splL_of (spl_no vs10)]
  unfold spl
  rw [show (bs10.length + 7) / 8 = 2 from mch10]
  rfl
theorem ms10 : msL (Sub bs10 [1]) = [0] := by
  unfold msL
  rw [(sub_chs (by simp)).2.1, mch10]
  unfold ms
  have e0 : hs (Sub bs10 [1]) ((0 : Nat) : Int) = none := (sub_hs [1] 0).trans (if_neg (by decide))
  have e1 : hs (Sub bs10 [1]) ((1 : Nat) : Int) = some (jn (part bs10 1)) := (sub_hs [1] 1).trans (if_pos (by decide))
  rw [show List.range 2 = [0, 1] from rfl, List.filter_cons_of_pos (by rw [e0]; rfl), List.filter_cons_of_neg (by rw [e1]; exact Bool.false_ne_true)]
  rfl
theorem in10 : ∀ k ∈ [1], k < mch bs10 := by rw [mch10]; decide
theorem in10b : ∀ k ∈ [1, 0], k < mch bs10 := by rw [mch10]; decide
theorem cell_lt25b {w : World} {b o : Nat} {v : Value} (h : w.cell? ⟨b, o, none⟩ = some v) : b < w.heap.size := by
  rcases Nat.lt_or_ge b w.heap.size with h1 | h1
  · exact h1
  · unfold World.cell? at h
    simp [Array.getElem?_eq_none h1] at h
theorem sp_split (w : World) (v : Value) (h : Tv w v bs10) :
    Calls Try.prog 9 #[v] w fun e w' => ∃ u, e = .returned (.tuple #[u, .int .i64 0]) ∧ Cv w' u [ckAt bs10 0, ckAt bs10 1] ∧ Fr w w' (fun _ => False) := by
  have := split_calls w v bs10 h
  rwa [spl_no vs10, spl10] at this
theorem sp_add1 (w : World) (g b : Nat) (f : Ck) (h : Col w g b f []) : Calls Try.prog 15 #[.pointer (some ⟨g, 0, none⟩), (ckAt bs10 1).V] w (AdP w g b true 0 (Sub bs10 [1])) := by
  have := add_calls w g b f (ckAt bs10 1) (Sub bs10 []) h
  rwa [sub_adB vs10 (by rw [mch10]; decide), sub_adE vs10 (by rw [mch10]; decide), sub_adL vs10 (by rw [mch10]; decide)] at this
theorem sp_add0 (w : World) (g b : Nat) (f : Ck) (h : Col w g b f (Sub bs10 [1])) : Calls Try.prog 15 #[.pointer (some ⟨g, 0, none⟩), (ckAt bs10 0).V] w (AdP w g b true 0 (Sub bs10 [1, 0])) := by
  have := add_calls w g b f (ckAt bs10 0) (Sub bs10 [1]) h
  rwa [sub_adB vs10 (by rw [mch10]; decide), sub_adE vs10 (by rw [mch10]; decide), sub_adL vs10 (by rw [mch10]; decide)] at this
theorem sp_miss (w : World) (g b : Nat) (f : Ck) (h : Col w g b f (Sub bs10 [1])) : Calls Try.prog 20 #[.pointer (some ⟨g, 0, none⟩)] w fun e w' => ∃ u, e = .returned u ∧ Nv w' u [0] ∧ Fr w w' (fun _ => False) ∧ ∀ b, u.ownBlock = some b → w.heap.size ≤ b := by
  have := missing_new w g b f _ h (sub_gd vs10 in10)
  rwa [ms10] at this
theorem sp_bl1 (w : World) (g b : Nat) (f : Ck) (h : Col w g b f (Sub bs10 [1])) : Calls Try.prog 17 #[.pointer (some ⟨g, 0, none⟩)] w fun e w' => ∃ u, e = .returned (.tuple #[u, .int .i64 7]) ∧ Fr w w' (fun _ => False) := by
  have := blocks_calls w g b f _ h (sub_gd vs10 in10)
  rw [sub_some (by simp) (by decide) in10 (by rw [mch10]; decide)] at this
  exact this.mono fun _ _ ⟨u, h1, _, h3⟩ => ⟨u, h1, h3⟩
theorem sp_bl2 (w : World) (g b : Nat) (f : Ck) (h : Col w g b f (Sub bs10 [1, 0])) : Calls Try.prog 17 #[.pointer (some ⟨g, 0, none⟩)] w fun e w' => ∃ u, e = .returned (.tuple #[u, .int .i64 0]) ∧ Tv w' u bs10 ∧ Fr w w' (fun _ => False) := by
  have := blocks_calls w g b f _ h (sub_gd vs10 in10b)
  obtain ⟨h1, h2⟩ := sub_all vs10 (ks := [1, 0]) (by simp) (by decide) in10b (by rw [mch10]; rfl)
  rwa [h1, h2] at this
/-- The two chunks in their slice. -/
theorem cv_two {w : World} {u : Value} {x y : Ck} (h : Cv w u [x, y]) : ∃ b off cap, u = .slice (some ⟨b, off, none⟩) 2 cap ∧ 2 ≤ cap ∧ b < w.heap.size ∧ (∀ j u, x.cells[j]? = some u → w.cell? ⟨b, off + j, none⟩ = some u) ∧ (∀ j u, y.cells[j]? = some u → w.cell? ⟨b, off + 5 + j, none⟩ = some u) := by
  obtain ⟨A, cap, rfl, h1, h2, h3⟩ := h
  obtain ⟨b, off, rfl, h4, h5⟩ := h3 (by simp)
  refine ⟨b, off, cap, rfl, h1, h4, fun j u hu => ?_, fun j u hu => ?_⟩
  · have := h5 0 x rfl j u hu
    rwa [Nat.zero_mul, Nat.add_zero] at this
  · have := h5 1 y rfl j u hu
    rwa [Nat.one_mul] at this

set_option maxRecDepth 100000 in
set_option maxHeartbeats 6400000 in
theorem speaks25_calls (w : World) :
    Calls Try.prog 8 #[] w fun e w' => e = .returned (.bool true) ∧ Fr w w' (fun _ => False) := by
  go_enter Try.func8, Try.ntmps8
  go_wp2_with fail
  go_loopw [1, 2] (fun vo t wr => ∃ j : Nat, j ≤ 10 ∧ t = .int .i64 j ∧ Fr w wr (fun _ => False) ∧ wr.ownsRow 0 9 1 vo j ((List.replicate j zb).map Value.string) ∧ ∀ b, vo.ownBlock = some b → w.heap.size ≤ b) (fun _ t _ => 10 - (intOf t).toNat)
  case atStart => exact ⟨0, by omega, rfl, Fr.refl _ _, World.ownsRow_nil _ _ _ _, fun b hb => by cases hb⟩
  case round =>
    obtain ⟨j, hj, rfl, hf, hown, hO⟩ := hrel
    have HF := hid hf
    have HOWN := hid hown
    have HO := hid hO
    clear hf hown hO
    by_cases hjm : j < 10
    · have hmk := made128 wr
      have hcv := conv128 wr
      have hmk2 := @run_makeSlice
      have hsz : (wr.alloc zO128).heap.size = wr.heap.size + 1 := by simp
      obtain ⟨i0, hi, hz0, hz1, hz2⟩ := info_parts info_str
      have HF5 := hid (HF.out.alloc zO128)
      have HOW5 := hid (ownsRow_fr HOWN.out ((Fr.refl wr _).alloc zO128))
      generalize wr.alloc zO128 = w5 at *
      have HRS := hid (rep_succ j)
      generalize zb = Z at *
      go_wp2_with (at_builtin; refine wpList_append_lies _ rfl _ _ _ rfl 0 9 i0 _ 1 16 Try.underlying22 hi hz0 hz1 hz2 rfl (by decide) _ _ _ (by rfl) (HOW5.out.alloc _) ⟨wr.heap.size + 1, 0, none⟩ 1 1 [.string Z] (by rfl) (by rfl) (by rw [← hsz]; exact World.news_of_block (cs := #[.string Z]) (t := 9) (fr := (0, 0)) (alloc_new w5 _)) (by intro u hu; simp at hu; subst hu; rfl) (by omega) (by unfold maxLen; omega) (by omega) (Nat.zero_le _) (w5.heap.size + 1) (by simp) ?_; intro gg cap4 w4 hown4 hgrow hat hlt4)
      have HOW4 := hid hown4
      have HF4 := hid (Fr.grown (HF5.out.alloc _) hgrow (fun k hk hs => by have := HO.out k hk; omega))
      have HAT := hid hat
      clear hown4 hgrow hat hlt4
      go_wp2_with fail
      go_roundw
      case rel =>
        refine ⟨j + 1, by omega, by go_num, HF4.out, ?_, ?_⟩
        · rw [HRS.out]
          exact HOW4.out
        · intro b9 hb9
          have hb9 : gg = b9 := Option.some.inj hb9
          subst hb9
          rcases HAT.out with h8 | h8
          · exact HO.out _ h8
          · have := HF5.out.size
            omega
      case measure => simp [intOf]; omega
    · have he : j = 10 := by omega
      subst he
      have HTV : Hid (Tv wr u1 bs10) := hid (by
        have h9 := Ev.own (l := (List.replicate 10 zb).map Value.string) (by rw [List.length_map, List.length_replicate]; exact HOWN.out)
        exact h9)
      obtain ⟨x0, hx0⟩ : ∃ x0, ckAt bs10 0 = x0 := ⟨_, rfl⟩
      obtain ⟨x1, hx1⟩ : ∃ x1, ckAt bs10 1 = x1 := ⟨_, rfl⟩
      have HX0 := hid hx0
      have HX1 := hid hx1
      clear hx0 hx1
      go_wp2_with fail
      refine (sp_split wr u1 HTV.out).mono ?_
      rintro e wS ⟨u, rfl, hcv, hfS⟩
      rw [HX0.out, HX1.out] at hcv
      obtain ⟨cb, co, cap, rfl, hcap, hcb, hc0, hc1⟩ := cv_two hcv
      have HFS := hid hfS
      have HC0 := hid hc0
      have HC1 := hid hc1
      clear hcv hfS hc0 hc1
      go_wp2_with fail
      refine (new25_calls wS).mono ?_
      rintro e w2 ⟨g, b, rfl, hcol, hf2, hg, hb⟩
      have HN := hid (And.intro hg hb)
      have HCOL := hid hcol
      have HF2 := hid hf2
      obtain ⟨y0, y1, y2, y3, y4⟩ := x0
      obtain ⟨z0, z1, z2, z3, z4⟩ := x1
      have a0 := cell_keep (HC1.out 0 _ rfl) hf2
      have a1 := cell_keep (HC1.out 1 _ rfl) hf2
      have a2 := cell_keep (HC1.out 2 _ rfl) hf2
      have a3 := cell_keep (HC1.out 3 _ rfl) hf2
      have a4 := cell_keep (HC1.out 4 _ rfl) hf2
      rw [Nat.add_zero] at a0
      simp only at a0 a1 a2 a3 a4
      clear hcol hf2 hg hb
      have A1 := sp_add1 w2 g b _ HCOL.out
      rw [HX1.out] at A1
      have A1 := hid A1
      go_wp2_with fail
      refine A1.out.mono ?_
      rintro e w3 ⟨rfl, f1, hcol1, hf3⟩
      have HF3 := hid (HF2.out.fresh hf3 (fun i hi => by rcases hi with rfl | rfl; exact HN.out.1; exact HN.out.2))
      have HCOL1 := hid hcol1
      clear hcol1 hf3 a0 a1 a2 a3 a4
      go_wp2_with fail
      refine (sp_miss w3 g b f1 HCOL1.out).mono ?_
      rintro e w4 ⟨um, rfl, hum, hf4, hmo⟩
      obtain ⟨mA, mcap, rfl, mh1, mh2, mh3⟩ := hum
      obtain ⟨mb, mo, rfl, mh4, mh5⟩ := mh3 (by simp)
      have HMB : Hid (w3.heap.size ≤ mb) := hid (hmo mb rfl)
      have m0 := mh5 0 _ rfl
      rw [Nat.add_zero] at m0
      have HM0 := hid m0
      have HF4 := hid (HF3.out.trans hf4)
      have HCOL2 := hid (HCOL1.out.fr hf4)
      clear mh3 mh5 m0 hf4 hmo
      go_wp2_with fail
      refine (sp_bl1 w4 g b f1 HCOL2.out).mono ?_
      rintro e w5 ⟨ub, rfl, hf5⟩
      have HF5 := hid (HF4.out.trans hf5)
      have HCOL3 := hid (HCOL2.out.fr hf5)
      have HM1 := hid (cell_keep HM0.out hf5)
      have b0 := cell_keep (HC0.out 0 _ rfl) HF5.out
      have b1 := cell_keep (HC0.out 1 _ rfl) HF5.out
      have b2 := cell_keep (HC0.out 2 _ rfl) HF5.out
      have b3 := cell_keep (HC0.out 3 _ rfl) HF5.out
      have b4 := cell_keep (HC0.out 4 _ rfl) HF5.out
      rw [Nat.add_zero] at b0
      simp only at b0 b1 b2 b3 b4
      clear hf5
      have A2 := sp_add0 w5 g b _ HCOL3.out
      rw [HX0.out] at A2
      have A2 := hid A2
      go_wp2_with fail
      refine A2.out.mono ?_
      rintro e w6 ⟨rfl, f2, hcol4, hf6⟩
      have HF6 := hid (HF5.out.fresh hf6 (fun i hi => by rcases hi with rfl | rfl; exact HN.out.1; exact HN.out.2))
      have HCOL4 := hid hcol4
      have HM2 : Hid (w6.cell? ⟨mb, mo, none⟩ = some (.int .i64 0)) := hid (by
        have hgl := blk_lt HCOL1.out.blk
        have hbl := HCOL1.out.b_lt
        have hmn := HMB.out
        exact (World.cell?_of_block (hf6.block mb (by exact cell_lt25b HM1.out) (by rintro (e | e) <;> omega))).trans HM1.out)
      clear hcol4 b0 b1 b2 b3 b4
      go_wp2_with fail
      refine (sp_bl2 w6 g b f2 HCOL4.out).mono ?_
      rintro e w7 ⟨uz, rfl, htv, hf7⟩
      have m2 := cell_keep HM2.out hf7
      have TX := hid (texts_calls w7 uz u1 bs10 bs10 htv (HTV.out.fr ((HFS.out.trans HF6.out).trans hf7)))
      rw [decide_eq_true (rfl : bs10 = bs10)] at TX
      have HF7 := hid (HF6.out.trans hf7)
      clear htv hf7
      go_wp2_with (go_at_call 22; refine TX.out.mono ?_; rintro e w8 ⟨rfl, hf8⟩)
      go_ret
      exact ⟨rfl, HF.out.trans (HFS.out.trans (HF7.out.trans hf8))⟩
end Go.Proofs.Ythnigmbdacjlnaa.Cw
