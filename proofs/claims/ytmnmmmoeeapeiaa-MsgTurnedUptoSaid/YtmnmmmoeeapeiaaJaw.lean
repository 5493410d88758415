/- The sum: the walks of both. Own work. -/
import Derived.Test.YtmnmmmoeeapeiaaJav
import Derived.Shelf.Strings.Builder1
import Derived.Shelf.Strings.Builder2
import Derived.Shelf.Strings.BuilderF
import Derived.Test.YtmnmmmoeeapeiaaProg
namespace Go.Proofs.Ytmnmmmoeeapeiaa.Cw
open Go.RowKit
set_option linter.unusedVariables false
set_option linter.unusedSimpArgs false

theorem crc_take (s : ByteArray) (k : Nat) (h : k < s.size) : crL 4294967295 (s.data.toList.take (k + 1)) = crB (crL 4294967295 (s.data.toList.take k)) s[k] := by
  rw [List.take_succ_eq_append_getElem (by simpa using h), crL_snoc]
  rfl
theorem crS_odd {v : Nat} (h : v % 2 = 1) : v / 2 ^^^ 2197175160 = crS v := by unfold crS; rw [if_pos h]
theorem crS_even {v : Nat} (h : ¬ v % 2 = 1) : v / 2 = crS v := by unfold crS; rw [if_neg h]
theorem ret_int {k : IntKind} {a b : Int} (h : a = b) : Ending.returned (.int k a) = .returned (.int k b) := by rw [h]

set_option maxHeartbeats 1600000 in
theorem sumOf_calls (w : World) (s : ByteArray) (hs : s.size ≤ maxLen) :
    Calls Try.prog 39 #[.string s] w fun e w' => e = .returned (.int .i64 (crc s.data.toList)) ∧ w' = w := by
  unfold maxLen at hs
  have HC := hid (fun k h => crc_take s k h)
  have HFUL : Hid (crL 4294967295 (s.data.toList.take s.size) = crL 4294967295 s.data.toList) := hid (by rw [List.take_of_length_le (by simp)])
  have hneg : IntKind.u32.wrap (-1) = 4294967295 := by decide
  have hand1 : bits .and .u32 2197175160 4294967295 = 2197175160 := by decide
  have hand0 : bits .and .u32 2197175160 0 = 0 := by decide
  go_enter Try.func39, Try.ntmps39
  go_wp2_with fail
  go_loop [3, 7] (fun n i => ∃ k : Nat, k ≤ s.size ∧ i = .int .i64 k ∧ n = .int .u32 (crL 4294967295 (s.data.toList.take k))) (fun _ i => s.size - (intOf i).toNat)
  case atStart => exact ⟨0, Nat.zero_le _, rfl, rfl⟩
  case round =>
    obtain ⟨k, hk, rfl, rfl⟩ := hrel
    have hlt0 := crL_lt (n := 4294967295) (by decide) (s.data.toList.take k)
    by_cases hlt : k < s.size
    · have hc := hid (HC.out k hlt)
      have hx := xb_lt hlt0 s[k]
      have hbx := bits_xor_u32 hlt0 (Nat.lt_trans (u8_lt s[k]) (by decide))
      have hbm : (s[k].toNat : Int) % 4294967296 = (s[k].toNat : Int) := by have := u8_lt s[k]; omega
      have HS : Hid (crB (crL 4294967295 (s.data.toList.take k)) s[k] = crI 8 (crL 4294967295 (s.data.toList.take k) ^^^ s[k].toNat)) := hid rfl
      generalize crL 4294967295 (s.data.toList.take k) = c at *
      generalize hX : c ^^^ s[k].toNat = X at *
      have HX := hid hX
      clear hX
      go_wp2_with fail
      clear hbx hbm
      go_loop [3, 16] (fun n i => ∃ j : Nat, j ≤ 8 ∧ i = .int .i64 j ∧ n = .int .u32 (crI j X)) (fun _ i => 8 - (intOf i).toNat)
      case atStart => exact ⟨0, Nat.zero_le _, rfl, rfl⟩
      case round =>
        obtain ⟨j, hj, rfl, rfl⟩ := hrel
        have hv := crI_lt hx j
        by_cases hj8 : j < 8
        · have HJ : Hid (crI (j + 1) X = crS (crI j X)) := hid rfl
          generalize crI j X = v at *
          have hand := bits_and_one hv
          have hdiv : ((v / 2 : Nat) : Int) = (v : Int) / 2 := by omega
          by_cases hp : v % 2 = 1
          · rw [hp] at hand
            have hxr := bits_xor_u32 (x := v / 2) (y := 2197175160) (by omega) (by decide)
            rw [crS_odd hp, hdiv] at hxr
            clear hp hdiv
            have hand : bits .and .u32 (v : Int) 1 = 1 := hand
            have hxr : bits .xor .u32 ((v : Int) / 2) 2197175160 = ((crS v : Nat) : Int) := hxr
            go_wp2_with fail
            go_round
            case rel => exact ⟨j + 1, by omega, by go_num, by rw [HJ.out]⟩
            case measure => simp [intOf]; omega
          · rw [show v % 2 = 0 by omega] at hand
            have hxr := bits_xor_u32 (x := v / 2) (y := 0) (by omega) (by decide)
            rw [Nat.xor_zero, crS_even hp, ← crS_even hp, hdiv] at hxr
            have HEV : Hid ((v : Int) / 2 = ((crS v : Nat) : Int)) := hid (by rw [← crS_even hp]; omega)
            clear hp hdiv
            have hand : bits .and .u32 (v : Int) 1 = 0 := hand
            have hxr : bits .xor .u32 ((v : Int) / 2) 0 = (v : Int) / 2 := hxr
            go_wp2_with fail
            go_round
            case rel => exact ⟨j + 1, by omega, by go_num, by rw [HJ.out, ← HEV.out]⟩
            case measure => simp [intOf]; omega
        · have he : j = 8 := by omega
          subst he
          go_wp2_with fail
          go_round
          case rel => exact ⟨k + 1, by omega, by go_num, by rw [hc.out, HS.out]⟩
          case measure => simp [intOf]; omega
    · have he : k = s.size := by omega
      subst he
      rw [HFUL.out] at hlt0 ⊢
      have hbx := bits_xor_u32 (x := 4294967295) (y := crL 4294967295 s.data.toList) (by decide) hlt0
      have HQ : Hid (4294967295 ^^^ crL 4294967295 s.data.toList = crc s.data.toList) := hid (Nat.xor_comm _ _)
      have hq := crc_lt s.data.toList
      rw [HQ.out] at hbx
      generalize crL 4294967295 s.data.toList = c at *
      generalize hK : crc s.data.toList = q at *
      have HK := hid hK
      clear hK
      have HQ3 := hid (IntWalk.wrap64_in (q : Int) ⟨by omega, by omega⟩ : wrap64 (q : Int) = (q : Int))
      clear hq
      have hbx : bits .xor .u32 4294967295 (c : Int) = (q : Int) := hbx
      have hbx2 : bits .xor .u32 IntKind.u32.max (c : Int) = (q : Int) := hbx
      go_wp2_with fail
      go_ret
      exact ⟨by rw [HK.out]; first | rfl | exact ret_int HQ3.out, rfl⟩

set_option maxHeartbeats 1600000 in
theorem refOf_calls (w : World) (s : ByteArray) (hs : s.size ≤ maxLen) :
    Calls Try.prog 52 #[.string s] w fun e w' => e = .returned (.int .i64 (crc s.data.toList)) ∧ w' = w := by
  unfold maxLen at hs
  have HC := hid (fun k h => crc_take s k h)
  have HFUL : Hid (crL 4294967295 (s.data.toList.take s.size) = crL 4294967295 s.data.toList) := hid (by rw [List.take_of_length_le (by simp)])
  go_enter Try.func52, Try.ntmps52
  go_wp2_with fail
  go_loop [3, 4] (fun n i => ∃ k : Nat, k ≤ s.size ∧ i = .int .i64 k ∧ n = .int .i64 (crL 4294967295 (s.data.toList.take k))) (fun _ i => s.size - (intOf i).toNat)
  case atStart => exact ⟨0, Nat.zero_le _, rfl, rfl⟩
  case round =>
    obtain ⟨k, hk, rfl, rfl⟩ := hrel
    have hlt0 := crL_lt (n := 4294967295) (by decide) (s.data.toList.take k)
    by_cases hlt : k < s.size
    · have hc := hid (HC.out k hlt)
      have hx := xb_lt hlt0 s[k]
      have hbx := bits_xor_i64 hlt0 (Nat.lt_trans (u8_lt s[k]) (by decide))
      have hwb : wrap64 (s[k].toNat : Int) = (s[k].toNat : Int) := IntWalk.wrap64_in _ (by have := u8_lt s[k]; omega)
      have HS : Hid (crB (crL 4294967295 (s.data.toList.take k)) s[k] = crI 8 (crL 4294967295 (s.data.toList.take k) ^^^ s[k].toNat)) := hid rfl
      generalize crL 4294967295 (s.data.toList.take k) = c at *
      generalize hX : c ^^^ s[k].toNat = X at *
      have HX := hid hX
      clear hX
      go_wp2_with fail
      clear hbx
      go_loop [3, 5] (fun n i => ∃ j : Nat, j ≤ 8 ∧ i = .int .i64 j ∧ n = .int .i64 (crI j X)) (fun _ i => 8 - (intOf i).toNat)
      case atStart => exact ⟨0, Nat.zero_le _, rfl, rfl⟩
      case round =>
        obtain ⟨j, hj, rfl, rfl⟩ := hrel
        have hv := crI_lt hx j
        by_cases hj8 : j < 8
        · have HJ : Hid (crI (j + 1) X = crS (crI j X)) := hid rfl
          generalize crI j X = v at *
          have hdiv : ((v / 2 : Nat) : Int) = (v : Int) / 2 := by omega
          by_cases hp : v % 2 = 1
          · have hm : (v : Int) % 2 = 1 := by omega
            have hxr := bits_xor_i64 (x := v / 2) (y := 2197175160) (by omega) (by decide)
            rw [crS_odd hp, hdiv] at hxr
            clear hp hdiv
            have hxr : bits .xor .i64 ((v : Int) / 2) 2197175160 = ((crS v : Nat) : Int) := hxr
            go_wp2_with fail
            go_round
            case rel => exact ⟨j + 1, by omega, by go_num, by rw [HJ.out]⟩
            case measure => simp [intOf]; omega
          · have hm : (v : Int) % 2 = 0 := by omega
            have HEV : Hid ((v : Int) / 2 = ((crS v : Nat) : Int)) := hid (by rw [← crS_even hp]; omega)
            clear hp hdiv
            go_wp2_with fail
            go_round
            case rel => exact ⟨j + 1, by omega, by go_num, by rw [HJ.out, ← HEV.out]⟩
            case measure => simp [intOf]; omega
        · have he : j = 8 := by omega
          subst he
          go_wp2_with fail
          go_round
          case rel => exact ⟨k + 1, by omega, by go_num, by rw [hc.out, HS.out]⟩
          case measure => simp [intOf]; omega
    · have he : k = s.size := by omega
      subst he
      rw [HFUL.out] at hlt0 ⊢
      have hbx := bits_xor_i64 (x := crL 4294967295 s.data.toList) (y := 4294967295) hlt0 (by decide)
      have HQ : Hid (crL 4294967295 s.data.toList ^^^ 4294967295 = crc s.data.toList) := hid rfl
      rw [HQ.out] at hbx
      generalize crL 4294967295 s.data.toList = c at *
      generalize hK : crc s.data.toList = q at *
      have HK := hid hK
      clear hK
      have hbx : bits .xor .i64 (c : Int) 4294967295 = (q : Int) := hbx
      go_wp2_with fail
      go_ret
      exact ⟨by rw [HK.out]; first | rfl | (show Ending.returned (.int .i64 _) = _; exact ret_int (by rfl)), rfl⟩
end Go.Proofs.Ytmnmmmoeeapeiaa.Cw

/- strings.Builder's contracts at this program. Own work (tables of numbers and applications of the shelf's theorems). -/
namespace Go.Proofs.Ytmnmmmoeeapeiaa.Sh
open Go.Shelf Go.RowKit
def ren : Go.Shelf.Ren := ⟨fun | 166 => 35 | 240 => 59 | 276 => 65 | 169 => 36 | n => n, fun | 0 => 0 | 3 => 3 | 4 => 4 | 5 => 5 | 9 => 9 | 20 => 20 | 37 => 35 | 70 => 76 | 72 => 78 | 75 => 81 | 80 => 59 | 127 => 103 | 164 => 116 | n => n, fun | n => n⟩
theorem lays166 : Go.Proofs.Lays.n166 Try.prog ren := {
  mixed := by kernel_rfl
  f166 := Try.func35.trans (congrArg some (by kernel_rfl))
  f240 := Try.func59.trans (congrArg some (by kernel_rfl))
  f276 := Try.func65.trans (congrArg some (by kernel_rfl))
  t0 := Try.underlying0
  a0 := Try.isAgg0
  z0 := Try.sizeOf0
  v0 := Try.zeroValue0
  t3 := Try.underlying3
  a3 := Try.isAgg3
  z3 := Try.sizeOf3
  v3 := Try.zeroValue3
  t4 := Try.underlying4
  a4 := Try.isAgg4
  z4 := Try.sizeOf4
  v4 := Try.zeroValue4
  t9 := Try.underlying9
  a9 := Try.isAgg9
  z9 := Try.sizeOf9
  v9 := Try.zeroValue9
  t20 := Try.underlying20
  a20 := Try.isAgg20
  z20 := Try.sizeOf20
  v20 := Try.zeroValue20
  t37 := Try.underlying35
  a37 := Try.isAgg35
  z37 := Try.sizeOf35
  v37 := Try.zeroValue35
  t70 := Try.underlying76
  a70 := Try.isAgg76
  z70 := Try.sizeOf76
  v70 := Try.zeroValue76
  t72 := Try.underlying78
  a72 := Try.isAgg78
  z72 := Try.sizeOf78
  v72 := Try.zeroValue78
  t75 := Try.underlying81
  a75 := Try.isAgg81
  z75 := Try.sizeOf81
  v75 := Try.zeroValue81
  t164 := Try.underlying116
  a164 := Try.isAgg116
  z164 := Try.sizeOf116
  v164 := Try.zeroValue116 }
theorem lays169 : Go.Proofs.Lays.n169 Try.prog ren := {
  mixed := by kernel_rfl
  f169 := Try.func36.trans (congrArg some (by kernel_rfl))
  t0 := Try.underlying0
  a0 := Try.isAgg0
  z0 := Try.sizeOf0
  v0 := Try.zeroValue0
  t3 := Try.underlying3
  a3 := Try.isAgg3
  z3 := Try.sizeOf3
  v3 := Try.zeroValue3
  t9 := Try.underlying9
  a9 := Try.isAgg9
  z9 := Try.sizeOf9
  v9 := Try.zeroValue9
  t37 := Try.underlying35
  a37 := Try.isAgg35
  z37 := Try.sizeOf35
  v37 := Try.zeroValue35
  t70 := Try.underlying76
  a70 := Try.isAgg76
  z70 := Try.sizeOf76
  v70 := Try.zeroValue76
  t72 := Try.underlying78
  a72 := Try.isAgg78
  z72 := Try.sizeOf78
  v72 := Try.zeroValue78
  t127 := Try.underlying103
  a127 := Try.isAgg103
  z127 := Try.sizeOf103
  v127 := Try.zeroValue103 }
theorem extra : Builder.Extra Try.prog ren := {
  sizeBuilder := by kernel_rfl
  liesBuilder := by kernel_rfl
  t5 := Try.underlying5
  a5 := Try.isAgg5
  z5 := Try.sizeOf5
  v5 := Try.zeroValue5
  infoByte := by kernel_rfl
  cellsByte := by kernel_rfl
  sizeByte := by kernel_rfl
  neB5 := by decide }
theorem write (B b : Nat) (bs : List Value) (s : ByteArray) (w : World) (h : Lib.IsBuilder 78 5 B b bs w) (hlen : bs.length + s.size ≤ 140737488355328) (hBw : B ≤ w.heap.size) :
    Calls Try.prog 35 #[.pointer (some ⟨b, 0, none⟩), .string s] w fun e w' => e = .returned (.tuple #[.int .i64 s.size, .nilIface]) ∧ (Lib.BuilderAt 78 5 B b (.pointer (some ⟨b, 0, none⟩)) (bs ++ Lib.strCells s) w' ∧ Below B w w') := Any.Builder_WriteString lays166 extra B b bs s w h hlen hBw
theorem str (B b : Nat) (l : List UInt8) (w : World) (h : Lib.IsBuilder 78 5 B b (Lib.byteCells l) w) (hBw : B ≤ w.heap.size) :
    Calls Try.prog 36 #[.pointer (some ⟨b, 0, none⟩)] w fun e w' => e = .returned (.string ⟨l.toArray⟩) ∧ Below B w w' := Any.Builder_String_any lays169 extra B b l w h hBw
end Go.Proofs.Ytmnmmmoeeapeiaa.Sh
