/- What the reference's Valid, mark, Text and perm.Text return. Conditions: the mode is an int. -/
import Derived.Test.YtjefmjaommpaaaaPermHas
import Derived.ArgAppend
import Derived.Lib.SlBytesConst
set_option linter.unusedVariables false
set_option linter.unusedSimpArgs false
namespace Go.Proofs.Ytjefmjaommpaaaa
open Go.RowKit

theorem rvalid_neg (m : Int) (w : World) (h0 : m < 0) :
    Calls Try.prog 26 #[.int .i64 m] w fun e w' => e = .returned (.bool (Prm.vld m)) ∧ Below w.heap.size w w' := by
  have HF := Lib.hid (Prm.vld_out (.inl h0))
  go_enter Try.func26, Try.ntmps26
  go_wp2
  go_ret
  exact ⟨by rw [HF.out]; rfl, Below.refl _ _⟩
theorem rvalid_both (m : Int) (w : World) (h0 : 0 ≤ m) (h1 : m ≤ 9223372036854775807) (hd : Prm.bit m 2147483648 = true) (ha : Prm.bit m 1073741824 = true) :
    Calls Try.prog 26 #[.int .i64 m] w fun e w' => e = .returned (.bool (Prm.vld m)) ∧ Below w.heap.size w w' := by
  have HC := Lib.hid (fun b (hb : 0 < b) w => rbit_any m b hb (by omega) w)
  have HF := Lib.hid (show Prm.vld m = false from by unfold Prm.vld; rw [hd, ha]; simp)
  have HD := Lib.hid hd
  have HA := Lib.hid ha
  clear hd ha
  go_enter Try.func26, Try.ntmps26
  go_wp2_with fail
  refine (HC.out 2147483648 (by omega) _).mono ?_; rintro e w1 ⟨rfl, rfl⟩
  rw [HD.out]
  go_wp2_with fail
  refine (HC.out 1073741824 (by omega) _).mono ?_; rintro e w1 ⟨rfl, rfl⟩
  rw [HA.out]
  go_wp2_with fail
  go_ret
  exact ⟨by rw [HF.out]; rfl, Below.refl _ _⟩
namespace Prm
theorem rvld_in {m r : Int} (h0 : 0 ≤ m) (hb : ¬ (bit m 2147483648 = true ∧ bit m 1073741824 = true)) (hr : r = m - on m 2147483648 - on m 1073741824 - on m 536870912) : vld m = (decide (0 ≤ r) && decide (r ≤ 511)) := by
  rw [Bool.eq_iff_iff, vld_iff]
  rcases bit_cases m 2147483648 h0 with ⟨a1, a2, a3⟩ | ⟨a1, a2, a3⟩ <;> rcases bit_cases m 1073741824 h0 with ⟨b1, b2, b3⟩ | ⟨b1, b2, b3⟩ <;> rcases bit_cases m 536870912 h0 with ⟨d1, d2, d3⟩ | ⟨d1, d2, d3⟩ <;>
    simp only [a1, b1, a3, b3, d3, Bool.and_eq_true, decide_eq_true_eq, and_self, not_true, Bool.false_eq_true, and_false, false_and, not_false_iff] at hb hr ⊢ <;> omega
end Prm
set_option maxHeartbeats 1000000 in
theorem rvalid_in (m : Int) (w : World) (h0 : 0 ≤ m) (h1 : m ≤ 9223372036854775807) (hn : ¬ (Prm.bit m 2147483648 = true ∧ Prm.bit m 1073741824 = true)) :
    Calls Try.prog 26 #[.int .i64 m] w fun e w' => e = .returned (.bool (Prm.vld m)) ∧ Below w.heap.size w w' := by
  have HC := Lib.hid (fun b (hb : 0 < b) w => rbit_any m b hb (by omega) w)
  obtain ⟨r1, hr1⟩ : ∃ r, r = m - Prm.on m 2147483648 := ⟨_, rfl⟩
  obtain ⟨r2, hr2⟩ : ∃ r, r = r1 - Prm.on m 1073741824 := ⟨_, rfl⟩
  obtain ⟨r3, hr3⟩ : ∃ r, r = r2 - Prm.on m 536870912 := ⟨_, rfl⟩
  have HF := Lib.hid (Prm.rvld_in h0 hn (r := r3) (by rw [hr3, hr2, hr1]))
  have CD := Prm.bit_cases m 2147483648 h0
  have CA := Prm.bit_cases m 1073741824 h0
  have CX := Prm.bit_cases m 536870912 h0
  have hb1 : -2147483648 ≤ r1 ∧ r1 ≤ 9223372036854775807 := by omega
  have hb2 : -3221225472 ≤ r2 ∧ r2 ≤ 9223372036854775807 := by omega
  have HD := Lib.hid (show (Prm.bit m 2147483648 = true → r1 = m - 2147483648) ∧ (Prm.bit m 2147483648 = false → r1 = m) from ⟨fun h => by rw [hr1, Prm.on_t h], fun h => by rw [hr1, Prm.on_f h]; omega⟩)
  have HA := Lib.hid (show (Prm.bit m 1073741824 = true → r2 = r1 - 1073741824) ∧ (Prm.bit m 1073741824 = false → r2 = r1) from ⟨fun h => by rw [hr2, Prm.on_t h], fun h => by rw [hr2, Prm.on_f h]; omega⟩)
  have HX := Lib.hid (show (Prm.bit m 536870912 = true → r3 = r2 - 536870912) ∧ (Prm.bit m 536870912 = false → r3 = r2) from ⟨fun h => by rw [hr3, Prm.on_t h], fun h => by rw [hr3, Prm.on_f h]; omega⟩)
  have HB := Lib.hid (Below.refl w.heap.size w)
  have HG := Lib.hid (show Prm.bit m 2147483648 = true → Prm.bit m 1073741824 = false from fun h => by cases h' : Prm.bit m 1073741824 with | false => rfl | true => exact absurd ⟨h, h'⟩ hn)
  have hneg : decide (m < 0) = false := by simp; omega
  clear CD CA CX hr1 hr2 hr3 hn
  go_enter Try.func26, Try.ntmps26
  go_wp2_with fail
  refine (HC.out 2147483648 (by omega) _).mono ?_; rintro e w1 ⟨rfl, rfl⟩
  cases hd : Prm.bit m 2147483648
  all_goals
    have HE := Lib.hid hd; clear hd
    go_wp2_with fail
    try
      ((with_reducible refine (HC.out 1073741824 (by omega) _).mono ?_); rintro e w1 ⟨rfl, rfl⟩; rw [HG.out HE.out]; go_wp2_with fail)
    go_loop [3, 5] (fun r i => (i = .int .i64 0 ∧ r = .int .i64 m) ∨ (i = .int .i64 1 ∧ r = .int .i64 r1) ∨ (i = .int .i64 2 ∧ r = .int .i64 r2) ∨ (i = .int .i64 3 ∧ r = .int .i64 r3)) (fun _ i => 3 - (intOf i).toNat)
    case atStart => exact .inl ⟨rfl, rfl⟩
    case round =>
      rcases hrel with ⟨rfl, rfl⟩ | ⟨rfl, rfl⟩ | ⟨rfl, rfl⟩ | ⟨rfl, rfl⟩
      · go_wp2_with fail
        refine (HC.out 2147483648 (by omega) _).mono ?_; rintro e w1 ⟨rfl, rfl⟩
        rw [HE.out]
        go_wp2_with fail
        all_goals
          go_round
          case rel => exact .inr (.inl ⟨rfl, by first | rw [HD.out.1 HE.out] | rw [HD.out.2 HE.out]⟩)
          case measure => simp [intOf]
      · go_wp2_with fail
        refine (HC.out 1073741824 (by omega) _).mono ?_; rintro e w1 ⟨rfl, rfl⟩
        try rw [HG.out HE.out]
        go_wp2_with fail
        all_goals
          go_round
          case rel => exact .inr (.inr (.inl ⟨rfl, by first | rw [HA.out.2 (HG.out HE.out)] | rw [HA.out.1 ‹_›] | rw [HA.out.2 ‹_›]⟩))
          case measure => simp [intOf]
      · go_wp2_with fail
        refine (HC.out 536870912 (by omega) _).mono ?_; rintro e w1 ⟨rfl, rfl⟩
        go_wp2_with fail
        all_goals
          go_round
          case rel => exact .inr (.inr (.inr ⟨rfl, by first | rw [HX.out.1 ‹_›] | rw [HX.out.2 ‹_›]⟩))
          case measure => simp [intOf]
      · by_cases h3 : 0 ≤ r3
        · by_cases h4 : r3 ≤ 511
          · have HV := Lib.hid (show Prm.vld m = true from by rw [HF.out]; simp [h3, h4])
            go_wp2_with fail
            go_ret
            exact ⟨by rw [HV.out]; rfl, (Below.refl _ _).alloc (Nat.le_refl _) _⟩
          · have HV := Lib.hid (show Prm.vld m = false from by rw [HF.out]; simp [h4])
            go_wp2_with fail
            go_ret
            exact ⟨by rw [HV.out]; rfl, (Below.refl _ _).alloc (Nat.le_refl _) _⟩
        · have HV := Lib.hid (show Prm.vld m = false from by rw [HF.out]; simp [h3])
          go_wp2_with fail
          go_ret
          exact ⟨by rw [HV.out]; rfl, (Below.refl _ _).alloc (Nat.le_refl _) _⟩
theorem rvalid_any (m : Int) (w : World) (h1 : m ≤ 9223372036854775807) :
    Calls Try.prog 26 #[.int .i64 m] w fun e w' => e = .returned (.bool (Prm.vld m)) ∧ Below w.heap.size w w' := by
  by_cases h0 : m < 0
  · exact rvalid_neg m w h0
  · by_cases hb : Prm.bit m 2147483648 = true ∧ Prm.bit m 1073741824 = true
    · exact rvalid_both m w (by omega) h1 hb.1 hb.2
    · exact rvalid_in m w (by omega) h1 hb
theorem valid_any (m : Int) (w : World) :
    Calls Try.prog 24 #[.int .i64 m] w fun e w' => e = .returned (.bool (Prm.vld m)) ∧ Below w.heap.size w w' := by
  by_cases h : m < 0 ∨ 4294967296 ≤ m
  · exact valid_out m w h
  · exact valid_in m w (by omega) (by omega)

theorem mark_any (m b : Int) (hb : 0 < b) (h1 : m ≤ 9223372036854775807) (c : ByteArray) (w : World) :
    Calls Try.prog 27 #[.int .i64 m, .int .i64 b, .string c] w fun e w' => e = .returned (.string (if Prm.bit m b then c else T [45])) ∧ w = w' := by
  have HC := Lib.hid (rbit_any m b hb h1 w)
  cases hd : Prm.bit m b with
  | true =>
    rw [hd] at HC
    clear hd
    go_enter Try.func27, Try.ntmps27
    go_wp2_with fail
    refine HC.out.mono ?_; rintro e w1 ⟨rfl, rfl⟩
    go_wp2_with fail
    go_ret
    exact ⟨rfl, rfl⟩
  | false =>
    rw [hd] at HC
    clear hd
    go_enter Try.func27, Try.ntmps27
    go_wp2_with fail
    refine HC.out.mono ?_; rintro e w1 ⟨rfl, rfl⟩
    go_wp2_with fail
    go_ret
    exact ⟨rfl, rfl⟩
end Go.Proofs.Ytjefmjaommpaaaa
