/- What perm.has, perm.valid and the reference's Bit, Valid, mark return. Conditions: the mode is an int, the bit is positive. -/
import Derived.Test.YtjefmjaommpaaaaKit
import Derived.Test.YtjefmjaommpaaaaPermMath
set_option linter.unusedVariables false
set_option linter.unusedSimpArgs false
namespace Go.Proofs.Ytjefmjaommpaaaa
open Go.RowKit

theorem has_any (m b : Int) (hb : 0 < b) (hm : m ≤ 9223372036854775807) (w : World) :
    Calls Try.prog 25 #[.int .i64 m, .int .i64 b] w fun e w' => e = .returned (.bool (Prm.bit m b)) ∧ w = w' := by
  by_cases h : 0 ≤ m
  · have HF := Lib.hid (show Prm.bit m b = (m / b % 2 == 1) from by unfold Prm.bit; simp [h])
    have hq : 0 ≤ m / b := Int.ediv_nonneg h (by omega)
    go_enter Try.func25, Try.ntmps25
    go_wp2
    go_ret
    exact ⟨by rw [HF.out]; rfl, rfl⟩
  · have HF := Lib.hid (show Prm.bit m b = false from by unfold Prm.bit; simp [h])
    go_enter Try.func25, Try.ntmps25
    go_wp2
    go_ret
    exact ⟨by rw [HF.out]; rfl, rfl⟩
theorem rbit_any (m b : Int) (hb : 0 < b) (hm : m ≤ 9223372036854775807) (w : World) :
    Calls Try.prog 28 #[.int .i64 m, .int .i64 b] w fun e w' => e = .returned (.bool (Prm.bit m b)) ∧ w = w' := by
  by_cases h : 0 ≤ m
  · have HF := Lib.hid (show Prm.bit m b = (m / b % 2 == 1) from by unfold Prm.bit; simp [h])
    have hq : 0 ≤ m / b := Int.ediv_nonneg h (by omega)
    go_enter Try.func28, Try.ntmps28
    go_wp2
    go_ret
    exact ⟨by rw [HF.out]; rfl, rfl⟩
  · have HF := Lib.hid (show Prm.bit m b = false from by unfold Prm.bit; simp [h])
    go_enter Try.func28, Try.ntmps28
    go_wp2
    go_ret
    exact ⟨by rw [HF.out]; rfl, rfl⟩

namespace Prm
theorem on_t {m b : Int} (h : bit m b = true) : on m b = b := by unfold on; rw [if_pos h]
theorem on_f {m b : Int} (h : bit m b = false) : on m b = 0 := by unfold on; simp [h]
theorem vld_out {m : Int} (h : m < 0 ∨ 4294967296 ≤ m) : vld m = false := by
  cases hv : vld m with
  | false => rfl
  | true => have := (vld_iff m).1 hv; omega
theorem vld_in {m r : Int} (h0 : 0 ≤ m) (h1 : m < 4294967296) (hr : r = m - m % 512 - on m 2147483648 - on m 1073741824 - on m 536870912) : vld m = (decide (r = 0) && !(bit m 2147483648 && bit m 1073741824)) := by
  unfold vld
  rw [← hr]
  simp [h0, h1]
  rfl
end Prm

theorem valid_out (m : Int) (w : World) (h : m < 0 ∨ 4294967296 ≤ m) :
    Calls Try.prog 24 #[.int .i64 m] w fun e w' => e = .returned (.bool (Prm.vld m)) ∧ Below w.heap.size w w' := by
  have HF := Lib.hid (Prm.vld_out h)
  by_cases h0 : m < 0
  · clear h
    go_enter Try.func24, Try.ntmps24
    go_wp2
    go_ret
    exact ⟨by rw [HF.out]; rfl, Below.refl _ _⟩
  · have h1 : 4294967296 ≤ m := by omega
    clear h
    go_enter Try.func24, Try.ntmps24
    go_wp2
    go_ret
    exact ⟨by rw [HF.out]; rfl, Below.refl _ _⟩

set_option maxHeartbeats 1000000 in
theorem valid_in (m : Int) (w : World) (h0 : 0 ≤ m) (h1 : m < 4294967296) :
    Calls Try.prog 24 #[.int .i64 m] w fun e w' => e = .returned (.bool (Prm.vld m)) ∧ Below w.heap.size w w' := by
  have HC := Lib.hid (fun b (hb : 0 < b) w => has_any m b hb (by omega) w)
  obtain ⟨r0, hr0⟩ : ∃ r, r = m - m % 512 := ⟨_, rfl⟩
  obtain ⟨r1, hr1⟩ : ∃ r, r = r0 - Prm.on m 2147483648 := ⟨_, rfl⟩
  obtain ⟨r2, hr2⟩ : ∃ r, r = r1 - Prm.on m 1073741824 := ⟨_, rfl⟩
  obtain ⟨r3, hr3⟩ : ∃ r, r = r2 - Prm.on m 536870912 := ⟨_, rfl⟩
  have HF := Lib.hid (Prm.vld_in h0 h1 (r := r3) (by rw [hr3, hr2, hr1, hr0]))
  have CD := Prm.bit_cases m 2147483648 h0
  have CA := Prm.bit_cases m 1073741824 h0
  have CX := Prm.bit_cases m 536870912 h0
  have hb0 : 0 ≤ r0 ∧ r0 ≤ 4294967296 := by omega
  have hb1 : -2147483648 ≤ r1 ∧ r1 ≤ 4294967296 := by omega
  have hb2 : -3221225472 ≤ r2 ∧ r2 ≤ 4294967296 := by omega
  have HD := Lib.hid (show (Prm.bit m 2147483648 = true → r1 = r0 - 2147483648) ∧ (Prm.bit m 2147483648 = false → r1 = r0) from ⟨fun h => by rw [hr1, Prm.on_t h], fun h => by rw [hr1, Prm.on_f h]; omega⟩)
  have HA := Lib.hid (show (Prm.bit m 1073741824 = true → r2 = r1 - 1073741824) ∧ (Prm.bit m 1073741824 = false → r2 = r1) from ⟨fun h => by rw [hr2, Prm.on_t h], fun h => by rw [hr2, Prm.on_f h]; omega⟩)
  have HX := Lib.hid (show (Prm.bit m 536870912 = true → r3 = r2 - 536870912) ∧ (Prm.bit m 536870912 = false → r3 = r2) from ⟨fun h => by rw [hr3, Prm.on_t h], fun h => by rw [hr3, Prm.on_f h]; omega⟩)
  have HR0 := Lib.hid hr0
  have HB := Lib.hid (Below.refl w.heap.size w)
  clear CD CA CX hr0 hr1 hr2 hr3
  go_enter Try.func24, Try.ntmps24
  go_wp2_with fail
  go_loop [3, 18] (fun r i => (i = .int .i64 0 ∧ r = .int .i64 r0) ∨ (i = .int .i64 1 ∧ r = .int .i64 r1) ∨ (i = .int .i64 2 ∧ r = .int .i64 r2) ∨ (i = .int .i64 3 ∧ r = .int .i64 r3)) (fun _ i => 3 - (intOf i).toNat)
  case atStart => exact .inl ⟨rfl, by rw [HR0.out]⟩
  case round =>
    rcases hrel with ⟨rfl, rfl⟩ | ⟨rfl, rfl⟩ | ⟨rfl, rfl⟩ | ⟨rfl, rfl⟩
    · go_wp2_with fail
      refine (HC.out 2147483648 (by omega) _).mono ?_; rintro e w1 ⟨rfl, rfl⟩
      go_wp2_with fail
      all_goals
        go_round
        case rel => exact .inr (.inl ⟨rfl, by first | rw [HD.out.1 ‹_›] | rw [HD.out.2 ‹_›]⟩)
        case measure => simp [intOf]
    · go_wp2_with fail
      refine (HC.out 1073741824 (by omega) _).mono ?_; rintro e w1 ⟨rfl, rfl⟩
      go_wp2_with fail
      all_goals
        go_round
        case rel => exact .inr (.inr (.inl ⟨rfl, by first | rw [HA.out.1 ‹_›] | rw [HA.out.2 ‹_›]⟩))
        case measure => simp [intOf]
    · go_wp2_with fail
      refine (HC.out 536870912 (by omega) _).mono ?_; rintro e w1 ⟨rfl, rfl⟩
      go_wp2_with fail
      all_goals
        go_round
        case rel => exact .inr (.inr (.inr ⟨rfl, by first | rw [HX.out.1 ‹_›] | rw [HX.out.2 ‹_›]⟩))
        case measure => simp [intOf]
    · by_cases h3 : r3 = 0
      · have e3 : (r3 == 0) = true := by simp [h3]
        have HV := Lib.hid (show Prm.vld m = !(Prm.bit m 2147483648 && Prm.bit m 1073741824) from by rw [HF.out]; simp [h3])
        clear h3
        cases hd : Prm.bit m 2147483648 with
        | true =>
          have HE := Lib.hid hd; clear hd
          cases ha : Prm.bit m 1073741824 with
          | true =>
            have HG := Lib.hid ha; clear ha
            go_wp2_with fail
            refine (HC.out 2147483648 (by omega) _).mono ?_; rintro e w1 ⟨rfl, rfl⟩
            rw [HE.out]
            go_wp2_with fail
            refine (HC.out 1073741824 (by omega) _).mono ?_; rintro e w1 ⟨rfl, rfl⟩
            rw [HG.out]
            go_wp2_with fail
            go_ret
            exact ⟨by rw [HV.out, HE.out, HG.out]; rfl, (Below.refl _ _).alloc (Nat.le_refl _) _⟩
          | false =>
            have HG := Lib.hid ha; clear ha
            go_wp2_with fail
            refine (HC.out 2147483648 (by omega) _).mono ?_; rintro e w1 ⟨rfl, rfl⟩
            rw [HE.out]
            go_wp2_with fail
            refine (HC.out 1073741824 (by omega) _).mono ?_; rintro e w1 ⟨rfl, rfl⟩
            rw [HG.out]
            go_wp2_with fail
            go_ret
            exact ⟨by rw [HV.out, HE.out, HG.out]; rfl, (Below.refl _ _).alloc (Nat.le_refl _) _⟩
        | false =>
          have HE := Lib.hid hd; clear hd
          go_wp2_with fail
          refine (HC.out 2147483648 (by omega) _).mono ?_; rintro e w1 ⟨rfl, rfl⟩
          rw [HE.out]
          go_wp2_with fail
          go_ret
          exact ⟨by rw [HV.out, HE.out]; rfl, (Below.refl _ _).alloc (Nat.le_refl _) _⟩
      · have e3 : (r3 == 0) = false := by simp [h3]
        have HV := Lib.hid (show Prm.vld m = false from by rw [HF.out]; simp [h3])
        clear h3
        go_wp2_with fail
        go_ret
        exact ⟨by rw [HV.out]; rfl, (Below.refl _ _).alloc (Nat.le_refl _) _⟩
end Go.Proofs.Ytjefmjaommpaaaa
