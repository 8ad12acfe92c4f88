/- What the reference's Base and Open return: Prm.opnV, Prm.opnE. Conditions: the mode is an int. -/
import Derived.Test.YtjefmjaommpaaaaPermOpen
set_option linter.unusedVariables false
set_option linter.unusedSimpArgs false
namespace Go.Proofs.Ytjefmjaommpaaaa
open Go.RowKit
theorem orr3 (a b c : Int) (p q r : Bool) (h1 : a = b) : Ending.returned (.tuple #[.int .i64 a, .bool p, .bool q]) = .returned (.tuple #[.int .i64 b, .bool p, .bool q]) := by rw [h1]
set_option maxHeartbeats 1000000 in
theorem base_0 (w : World) : Calls Try.prog 29 #[.int .i64 0] w fun e w' => e = .returned (.tuple #[.int .i64 0, .bool false, .bool true]) ∧ w = w' := by
  go_enter Try.func29, Try.ntmps29
  go_wp2_with fail
  go_loop [5] (fun i => i = .int .i64 0) (fun i => (4 - intOf i).toNat)
  case atStart => exact rfl
  case round =>
    obtain rfl := hrel
    · go_wp2_with fail
      go_ret3
      exact ⟨rfl, rfl⟩
set_option maxHeartbeats 1000000 in
theorem base_1 (w : World) : Calls Try.prog 29 #[.int .i64 1] w fun e w' => e = .returned (.tuple #[.int .i64 1, .bool false, .bool true]) ∧ w = w' := by
  go_enter Try.func29, Try.ntmps29
  go_wp2_with fail
  go_loop [5] (fun i => i = .int .i64 0 ∨ i = .int .i64 1) (fun i => (4 - intOf i).toNat)
  case atStart => exact .inl rfl
  case round =>
    rcases hrel with rfl | rfl
    · go_wp2_with fail
      go_round
      case rel => exact .inr (rfl)
      case measure => simp [intOf]
    · go_wp2_with fail
      go_ret3
      exact ⟨rfl, rfl⟩
set_option maxHeartbeats 1000000 in
theorem base_2 (w : World) : Calls Try.prog 29 #[.int .i64 2] w fun e w' => e = .returned (.tuple #[.int .i64 2, .bool false, .bool true]) ∧ w = w' := by
  go_enter Try.func29, Try.ntmps29
  go_wp2_with fail
  go_loop [5] (fun i => i = .int .i64 0 ∨ i = .int .i64 1 ∨ i = .int .i64 2) (fun i => (4 - intOf i).toNat)
  case atStart => exact .inl rfl
  case round =>
    rcases hrel with rfl | rfl | rfl
    · go_wp2_with fail
      go_round
      case rel => exact .inr (.inl rfl)
      case measure => simp [intOf]
    · go_wp2_with fail
      go_round
      case rel => exact .inr (.inr (rfl))
      case measure => simp [intOf]
    · go_wp2_with fail
      go_ret3
      exact ⟨rfl, rfl⟩
set_option maxHeartbeats 1000000 in
theorem base_3 (w : World) : Calls Try.prog 29 #[.int .i64 3] w fun e w' => e = .returned (.tuple #[.int .i64 3, .bool false, .bool true]) ∧ w = w' := by
  go_enter Try.func29, Try.ntmps29
  go_wp2_with fail
  go_loop [5] (fun i => i = .int .i64 0 ∨ i = .int .i64 1 ∨ i = .int .i64 2 ∨ i = .int .i64 3) (fun i => (4 - intOf i).toNat)
  case atStart => exact .inl rfl
  case round =>
    rcases hrel with rfl | rfl | rfl | rfl
    · go_wp2_with fail
      go_round
      case rel => exact .inr (.inl rfl)
      case measure => simp [intOf]
    · go_wp2_with fail
      go_round
      case rel => exact .inr (.inr (.inl rfl))
      case measure => simp [intOf]
    · go_wp2_with fail
      go_round
      case rel => exact .inr (.inr (.inr (rfl)))
      case measure => simp [intOf]
    · go_wp2_with fail
      go_ret3
      exact ⟨rfl, rfl⟩
set_option maxHeartbeats 1000000 in
theorem base_64 (w : World) : Calls Try.prog 29 #[.int .i64 64] w fun e w' => e = .returned (.tuple #[.int .i64 0, .bool false, .bool true]) ∧ w = w' := by
  go_enter Try.func29, Try.ntmps29
  go_wp2_with fail
  go_loop [5] (fun i => i = .int .i64 0) (fun i => (4 - intOf i).toNat)
  case atStart => exact rfl
  case round =>
    obtain rfl := hrel
    · go_wp2_with fail
      go_ret3
      exact ⟨rfl, rfl⟩
set_option maxHeartbeats 1000000 in
theorem base_65 (w : World) : Calls Try.prog 29 #[.int .i64 65] w fun e w' => e = .returned (.tuple #[.int .i64 1, .bool false, .bool true]) ∧ w = w' := by
  go_enter Try.func29, Try.ntmps29
  go_wp2_with fail
  go_loop [5] (fun i => i = .int .i64 0 ∨ i = .int .i64 1) (fun i => (4 - intOf i).toNat)
  case atStart => exact .inl rfl
  case round =>
    rcases hrel with rfl | rfl
    · go_wp2_with fail
      go_round
      case rel => exact .inr (rfl)
      case measure => simp [intOf]
    · go_wp2_with fail
      go_ret3
      exact ⟨rfl, rfl⟩
set_option maxHeartbeats 1000000 in
theorem base_66 (w : World) : Calls Try.prog 29 #[.int .i64 66] w fun e w' => e = .returned (.tuple #[.int .i64 2, .bool false, .bool true]) ∧ w = w' := by
  go_enter Try.func29, Try.ntmps29
  go_wp2_with fail
  go_loop [5] (fun i => i = .int .i64 0 ∨ i = .int .i64 1 ∨ i = .int .i64 2) (fun i => (4 - intOf i).toNat)
  case atStart => exact .inl rfl
  case round =>
    rcases hrel with rfl | rfl | rfl
    · go_wp2_with fail
      go_round
      case rel => exact .inr (.inl rfl)
      case measure => simp [intOf]
    · go_wp2_with fail
      go_round
      case rel => exact .inr (.inr (rfl))
      case measure => simp [intOf]
    · go_wp2_with fail
      go_ret3
      exact ⟨rfl, rfl⟩
set_option maxHeartbeats 1000000 in
theorem base_67 (w : World) : Calls Try.prog 29 #[.int .i64 67] w fun e w' => e = .returned (.tuple #[.int .i64 3, .bool false, .bool true]) ∧ w = w' := by
  go_enter Try.func29, Try.ntmps29
  go_wp2_with fail
  go_loop [5] (fun i => i = .int .i64 0 ∨ i = .int .i64 1 ∨ i = .int .i64 2 ∨ i = .int .i64 3) (fun i => (4 - intOf i).toNat)
  case atStart => exact .inl rfl
  case round =>
    rcases hrel with rfl | rfl | rfl | rfl
    · go_wp2_with fail
      go_round
      case rel => exact .inr (.inl rfl)
      case measure => simp [intOf]
    · go_wp2_with fail
      go_round
      case rel => exact .inr (.inr (.inl rfl))
      case measure => simp [intOf]
    · go_wp2_with fail
      go_round
      case rel => exact .inr (.inr (.inr (rfl)))
      case measure => simp [intOf]
    · go_wp2_with fail
      go_ret3
      exact ⟨rfl, rfl⟩
set_option maxHeartbeats 1000000 in
theorem base_16 (w : World) : Calls Try.prog 29 #[.int .i64 16] w fun e w' => e = .returned (.tuple #[.int .i64 0, .bool true, .bool true]) ∧ w = w' := by
  go_enter Try.func29, Try.ntmps29
  go_wp2_with fail
  go_loop [5] (fun i => i = .int .i64 0) (fun i => (4 - intOf i).toNat)
  case atStart => exact rfl
  case round =>
    obtain rfl := hrel
    · go_wp2_with fail
      go_ret3
      exact ⟨rfl, rfl⟩
set_option maxHeartbeats 1000000 in
theorem base_17 (w : World) : Calls Try.prog 29 #[.int .i64 17] w fun e w' => e = .returned (.tuple #[.int .i64 1, .bool true, .bool true]) ∧ w = w' := by
  go_enter Try.func29, Try.ntmps29
  go_wp2_with fail
  go_loop [5] (fun i => i = .int .i64 0 ∨ i = .int .i64 1) (fun i => (4 - intOf i).toNat)
  case atStart => exact .inl rfl
  case round =>
    rcases hrel with rfl | rfl
    · go_wp2_with fail
      go_round
      case rel => exact .inr (rfl)
      case measure => simp [intOf]
    · go_wp2_with fail
      go_ret3
      exact ⟨rfl, rfl⟩
set_option maxHeartbeats 1000000 in
theorem base_18 (w : World) : Calls Try.prog 29 #[.int .i64 18] w fun e w' => e = .returned (.tuple #[.int .i64 2, .bool true, .bool true]) ∧ w = w' := by
  go_enter Try.func29, Try.ntmps29
  go_wp2_with fail
  go_loop [5] (fun i => i = .int .i64 0 ∨ i = .int .i64 1 ∨ i = .int .i64 2) (fun i => (4 - intOf i).toNat)
  case atStart => exact .inl rfl
  case round =>
    rcases hrel with rfl | rfl | rfl
    · go_wp2_with fail
      go_round
      case rel => exact .inr (.inl rfl)
      case measure => simp [intOf]
    · go_wp2_with fail
      go_round
      case rel => exact .inr (.inr (rfl))
      case measure => simp [intOf]
    · go_wp2_with fail
      go_ret3
      exact ⟨rfl, rfl⟩
set_option maxHeartbeats 1000000 in
theorem base_19 (w : World) : Calls Try.prog 29 #[.int .i64 19] w fun e w' => e = .returned (.tuple #[.int .i64 3, .bool true, .bool true]) ∧ w = w' := by
  go_enter Try.func29, Try.ntmps29
  go_wp2_with fail
  go_loop [5] (fun i => i = .int .i64 0 ∨ i = .int .i64 1 ∨ i = .int .i64 2 ∨ i = .int .i64 3) (fun i => (4 - intOf i).toNat)
  case atStart => exact .inl rfl
  case round =>
    rcases hrel with rfl | rfl | rfl | rfl
    · go_wp2_with fail
      go_round
      case rel => exact .inr (.inl rfl)
      case measure => simp [intOf]
    · go_wp2_with fail
      go_round
      case rel => exact .inr (.inr (.inl rfl))
      case measure => simp [intOf]
    · go_wp2_with fail
      go_round
      case rel => exact .inr (.inr (.inr (rfl)))
      case measure => simp [intOf]
    · go_wp2_with fail
      go_ret3
      exact ⟨rfl, rfl⟩
set_option maxHeartbeats 1000000 in
theorem base_80 (w : World) : Calls Try.prog 29 #[.int .i64 80] w fun e w' => e = .returned (.tuple #[.int .i64 0, .bool true, .bool true]) ∧ w = w' := by
  go_enter Try.func29, Try.ntmps29
  go_wp2_with fail
  go_loop [5] (fun i => i = .int .i64 0) (fun i => (4 - intOf i).toNat)
  case atStart => exact rfl
  case round =>
    obtain rfl := hrel
    · go_wp2_with fail
      go_ret3
      exact ⟨rfl, rfl⟩
set_option maxHeartbeats 1000000 in
theorem base_81 (w : World) : Calls Try.prog 29 #[.int .i64 81] w fun e w' => e = .returned (.tuple #[.int .i64 1, .bool true, .bool true]) ∧ w = w' := by
  go_enter Try.func29, Try.ntmps29
  go_wp2_with fail
  go_loop [5] (fun i => i = .int .i64 0 ∨ i = .int .i64 1) (fun i => (4 - intOf i).toNat)
  case atStart => exact .inl rfl
  case round =>
    rcases hrel with rfl | rfl
    · go_wp2_with fail
      go_round
      case rel => exact .inr (rfl)
      case measure => simp [intOf]
    · go_wp2_with fail
      go_ret3
      exact ⟨rfl, rfl⟩
set_option maxHeartbeats 1000000 in
theorem base_82 (w : World) : Calls Try.prog 29 #[.int .i64 82] w fun e w' => e = .returned (.tuple #[.int .i64 2, .bool true, .bool true]) ∧ w = w' := by
  go_enter Try.func29, Try.ntmps29
  go_wp2_with fail
  go_loop [5] (fun i => i = .int .i64 0 ∨ i = .int .i64 1 ∨ i = .int .i64 2) (fun i => (4 - intOf i).toNat)
  case atStart => exact .inl rfl
  case round =>
    rcases hrel with rfl | rfl | rfl
    · go_wp2_with fail
      go_round
      case rel => exact .inr (.inl rfl)
      case measure => simp [intOf]
    · go_wp2_with fail
      go_round
      case rel => exact .inr (.inr (rfl))
      case measure => simp [intOf]
    · go_wp2_with fail
      go_ret3
      exact ⟨rfl, rfl⟩
set_option maxHeartbeats 1000000 in
theorem base_83 (w : World) : Calls Try.prog 29 #[.int .i64 83] w fun e w' => e = .returned (.tuple #[.int .i64 3, .bool true, .bool true]) ∧ w = w' := by
  go_enter Try.func29, Try.ntmps29
  go_wp2_with fail
  go_loop [5] (fun i => i = .int .i64 0 ∨ i = .int .i64 1 ∨ i = .int .i64 2 ∨ i = .int .i64 3) (fun i => (4 - intOf i).toNat)
  case atStart => exact .inl rfl
  case round =>
    rcases hrel with rfl | rfl | rfl | rfl
    · go_wp2_with fail
      go_round
      case rel => exact .inr (.inl rfl)
      case measure => simp [intOf]
    · go_wp2_with fail
      go_round
      case rel => exact .inr (.inr (.inl rfl))
      case measure => simp [intOf]
    · go_wp2_with fail
      go_round
      case rel => exact .inr (.inr (.inr (rfl)))
      case measure => simp [intOf]
    · go_wp2_with fail
      go_ret3
      exact ⟨rfl, rfl⟩
set_option maxHeartbeats 2000000 in
theorem base_bad (m : Int) (hl : -999 ≤ m) (hh : m ≤ 999) (h : m < 0 ∨ (4 ≤ m ∧ m ≤ 15) ∨ (20 ≤ m ∧ m ≤ 63) ∨ (68 ≤ m ∧ m ≤ 79) ∨ 84 ≤ m) (w : World) :
    Calls Try.prog 29 #[.int .i64 m] w fun e w' => e = .returned (.tuple #[.int .i64 0, .bool false, .bool false]) ∧ w = w' := by
  go_enter Try.func29, Try.ntmps29
  go_wp2_with fail
  go_loop [5] (fun i => i = .int .i64 0 ∨ i = .int .i64 1 ∨ i = .int .i64 2 ∨ i = .int .i64 3 ∨ i = .int .i64 4) (fun i => (4 - intOf i).toNat)
  case atStart => exact .inl rfl
  case round =>
    rcases hrel with rfl | rfl | rfl | rfl | rfl
    · have a0 : (m == 0) = false := by rw [beq_eq_false_iff_ne]; omega
      have a1 : (m == 64) = false := by rw [beq_eq_false_iff_ne]; omega
      have a2 : (m == 16) = false := by rw [beq_eq_false_iff_ne]; omega
      have a3 : (m == 80) = false := by rw [beq_eq_false_iff_ne]; omega
      clear h
      go_wp2_with fail
      go_round
      case rel => exact .inr (.inl rfl)
      case measure => simp [intOf]
    · have a0 : (m - 1 == 0) = false := by rw [beq_eq_false_iff_ne]; omega
      have a1 : (m - 1 == 64) = false := by rw [beq_eq_false_iff_ne]; omega
      have a2 : (m - 1 == 16) = false := by rw [beq_eq_false_iff_ne]; omega
      have a3 : (m - 1 == 80) = false := by rw [beq_eq_false_iff_ne]; omega
      clear h
      go_wp2_with fail
      go_round
      case rel => exact .inr (.inr (.inl rfl))
      case measure => simp [intOf]
    · have a0 : (m - 2 == 0) = false := by rw [beq_eq_false_iff_ne]; omega
      have a1 : (m - 2 == 64) = false := by rw [beq_eq_false_iff_ne]; omega
      have a2 : (m - 2 == 16) = false := by rw [beq_eq_false_iff_ne]; omega
      have a3 : (m - 2 == 80) = false := by rw [beq_eq_false_iff_ne]; omega
      clear h
      go_wp2_with fail
      go_round
      case rel => exact .inr (.inr (.inr (.inl rfl)))
      case measure => simp [intOf]
    · have a0 : (m - 3 == 0) = false := by rw [beq_eq_false_iff_ne]; omega
      have a1 : (m - 3 == 64) = false := by rw [beq_eq_false_iff_ne]; omega
      have a2 : (m - 3 == 16) = false := by rw [beq_eq_false_iff_ne]; omega
      have a3 : (m - 3 == 80) = false := by rw [beq_eq_false_iff_ne]; omega
      clear h
      go_wp2_with fail
      go_round
      case rel => exact .inr (.inr (.inr (.inr (rfl))))
      case measure => simp [intOf]
    · clear h
      go_wp2_with fail
      go_ret3
      exact ⟨rfl, rfl⟩
theorem base_any (m : Int) (hl : -999 ≤ m) (hh : m ≤ 999) : ∃ (b : Int) (t o : Bool), (o = true → (Prm.opn m).isSome = true) ∧ ∀ w : World, Calls Try.prog 29 #[.int .i64 m] w fun e w' => e = .returned (.tuple #[.int .i64 b, .bool t, .bool o]) ∧ w = w' := by
  rcases Prm.opn_cases m with ⟨h, a, b, c, d⟩ | (rfl | rfl | rfl | rfl) | (rfl | rfl | rfl | rfl) | (rfl | rfl | rfl | rfl) | (rfl | rfl | rfl | rfl)
  · exact ⟨0, false, false, (fun h => by cases h), fun w => base_bad m hl hh (by omega) w⟩
  · exact ⟨_, _, _, fun _ => rfl, base_0⟩
  · exact ⟨_, _, _, fun _ => rfl, base_1⟩
  · exact ⟨_, _, _, fun _ => rfl, base_2⟩
  · exact ⟨_, _, _, fun _ => rfl, base_3⟩
  · exact ⟨_, _, _, fun _ => rfl, base_64⟩
  · exact ⟨_, _, _, fun _ => rfl, base_65⟩
  · exact ⟨_, _, _, fun _ => rfl, base_66⟩
  · exact ⟨_, _, _, fun _ => rfl, base_67⟩
  · exact ⟨_, _, _, fun _ => rfl, base_16⟩
  · exact ⟨_, _, _, fun _ => rfl, base_17⟩
  · exact ⟨_, _, _, fun _ => rfl, base_18⟩
  · exact ⟨_, _, _, fun _ => rfl, base_19⟩
  · exact ⟨_, _, _, fun _ => rfl, base_80⟩
  · exact ⟨_, _, _, fun _ => rfl, base_81⟩
  · exact ⟨_, _, _, fun _ => rfl, base_82⟩
  · exact ⟨_, _, _, fun _ => rfl, base_83⟩
set_option maxHeartbeats 1000000 in
theorem ropen_0 (w : World) : Calls Try.prog 17 #[.int .i64 0] w (Prm.OpenSays 0 w) := by
  have HS := Lib.hid (fun w' => Prm.open_some (m := 0) (v := 4) (w := w) (w' := w') (by decide))
  go_enter Try.func17, Try.ntmps17
  go_wp2_with fail
  refine (base_0 _).mono ?_; rintro e w1 ⟨rfl, rfl⟩
  go_wp2_with fail
  go_ret2
  exact HS.out _ (Below.refl _ _)
set_option maxHeartbeats 1000000 in
theorem ropen_1 (w : World) : Calls Try.prog 17 #[.int .i64 1] w (Prm.OpenSays 1 w) := by
  have HS := Lib.hid (fun w' => Prm.open_some (m := 1) (v := 2) (w := w) (w' := w') (by decide))
  go_enter Try.func17, Try.ntmps17
  go_wp2_with fail
  refine (base_1 _).mono ?_; rintro e w1 ⟨rfl, rfl⟩
  go_wp2_with fail
  go_ret2
  exact HS.out _ (Below.refl _ _)
set_option maxHeartbeats 1000000 in
theorem ropen_2 (w : World) : Calls Try.prog 17 #[.int .i64 2] w (Prm.OpenSays 2 w) := by
  have HS := Lib.hid (fun w' => Prm.open_some (m := 2) (v := 6) (w := w) (w' := w') (by decide))
  go_enter Try.func17, Try.ntmps17
  go_wp2_with fail
  refine (base_2 _).mono ?_; rintro e w1 ⟨rfl, rfl⟩
  go_wp2_with fail
  go_ret2
  exact HS.out _ (Below.refl _ _)
set_option maxHeartbeats 1000000 in
theorem ropen_3 (w : World) : Calls Try.prog 17 #[.int .i64 3] w (Prm.OpenSays 3 w) := by
  have HS := Lib.hid (fun w' => Prm.open_some (m := 3) (v := 1) (w := w) (w' := w') (by decide))
  go_enter Try.func17, Try.ntmps17
  go_wp2_with fail
  refine (base_3 _).mono ?_; rintro e w1 ⟨rfl, rfl⟩
  go_wp2_with fail
  go_ret2
  exact HS.out _ (Below.refl _ _)
set_option maxHeartbeats 1000000 in
theorem ropen_64 (w : World) : Calls Try.prog 17 #[.int .i64 64] w (Prm.OpenSays 64 w) := by
  have HS := Lib.hid (fun w' => Prm.open_some (m := 64) (v := 4) (w := w) (w' := w') (by decide))
  go_enter Try.func17, Try.ntmps17
  go_wp2_with fail
  refine (base_64 _).mono ?_; rintro e w1 ⟨rfl, rfl⟩
  go_wp2_with fail
  go_ret2
  exact HS.out _ (Below.refl _ _)
set_option maxHeartbeats 1000000 in
theorem ropen_65 (w : World) : Calls Try.prog 17 #[.int .i64 65] w (Prm.OpenSays 65 w) := by
  have HS := Lib.hid (fun w' => Prm.open_some (m := 65) (v := 2) (w := w) (w' := w') (by decide))
  go_enter Try.func17, Try.ntmps17
  go_wp2_with fail
  refine (base_65 _).mono ?_; rintro e w1 ⟨rfl, rfl⟩
  go_wp2_with fail
  go_ret2
  exact HS.out _ (Below.refl _ _)
set_option maxHeartbeats 1000000 in
theorem ropen_66 (w : World) : Calls Try.prog 17 #[.int .i64 66] w (Prm.OpenSays 66 w) := by
  have HS := Lib.hid (fun w' => Prm.open_some (m := 66) (v := 6) (w := w) (w' := w') (by decide))
  go_enter Try.func17, Try.ntmps17
  go_wp2_with fail
  refine (base_66 _).mono ?_; rintro e w1 ⟨rfl, rfl⟩
  go_wp2_with fail
  go_ret2
  exact HS.out _ (Below.refl _ _)
set_option maxHeartbeats 1000000 in
theorem ropen_67 (w : World) : Calls Try.prog 17 #[.int .i64 67] w (Prm.OpenSays 67 w) := by
  have HS := Lib.hid (fun w' => Prm.open_some (m := 67) (v := 1) (w := w) (w' := w') (by decide))
  go_enter Try.func17, Try.ntmps17
  go_wp2_with fail
  refine (base_67 _).mono ?_; rintro e w1 ⟨rfl, rfl⟩
  go_wp2_with fail
  go_ret2
  exact HS.out _ (Below.refl _ _)
set_option maxHeartbeats 1000000 in
theorem ropen_16 (w : World) : Calls Try.prog 17 #[.int .i64 16] w (Prm.OpenSays 16 w) := by
  have HS := Lib.hid (fun w' => Prm.open_some (m := 16) (v := 6) (w := w) (w' := w') (by decide))
  go_enter Try.func17, Try.ntmps17
  go_wp2_with fail
  refine (base_16 _).mono ?_; rintro e w1 ⟨rfl, rfl⟩
  go_wp2_with fail
  go_ret2
  exact HS.out _ (Below.refl _ _)
set_option maxHeartbeats 1000000 in
theorem ropen_17 (w : World) : Calls Try.prog 17 #[.int .i64 17] w (Prm.OpenSays 17 w) := by
  have HS := Lib.hid (fun w' => Prm.open_some (m := 17) (v := 2) (w := w) (w' := w') (by decide))
  go_enter Try.func17, Try.ntmps17
  go_wp2_with fail
  refine (base_17 _).mono ?_; rintro e w1 ⟨rfl, rfl⟩
  go_wp2_with fail
  go_ret2
  exact HS.out _ (Below.refl _ _)
set_option maxHeartbeats 1000000 in
theorem ropen_18 (w : World) : Calls Try.prog 17 #[.int .i64 18] w (Prm.OpenSays 18 w) := by
  have HS := Lib.hid (fun w' => Prm.open_some (m := 18) (v := 6) (w := w) (w' := w') (by decide))
  go_enter Try.func17, Try.ntmps17
  go_wp2_with fail
  refine (base_18 _).mono ?_; rintro e w1 ⟨rfl, rfl⟩
  go_wp2_with fail
  go_ret2
  exact HS.out _ (Below.refl _ _)
set_option maxHeartbeats 1000000 in
theorem ropen_19 (w : World) : Calls Try.prog 17 #[.int .i64 19] w (Prm.OpenSays 19 w) := by
  have HS := Lib.hid (fun w' => Prm.open_some (m := 19) (v := 3) (w := w) (w' := w') (by decide))
  go_enter Try.func17, Try.ntmps17
  go_wp2_with fail
  refine (base_19 _).mono ?_; rintro e w1 ⟨rfl, rfl⟩
  go_wp2_with fail
  go_ret2
  exact HS.out _ (Below.refl _ _)
set_option maxHeartbeats 1000000 in
theorem ropen_80 (w : World) : Calls Try.prog 17 #[.int .i64 80] w (Prm.OpenSays 80 w) := by
  have HS := Lib.hid (fun w' => Prm.open_some (m := 80) (v := 6) (w := w) (w' := w') (by decide))
  go_enter Try.func17, Try.ntmps17
  go_wp2_with fail
  refine (base_80 _).mono ?_; rintro e w1 ⟨rfl, rfl⟩
  go_wp2_with fail
  go_ret2
  exact HS.out _ (Below.refl _ _)
set_option maxHeartbeats 1000000 in
theorem ropen_81 (w : World) : Calls Try.prog 17 #[.int .i64 81] w (Prm.OpenSays 81 w) := by
  have HS := Lib.hid (fun w' => Prm.open_some (m := 81) (v := 2) (w := w) (w' := w') (by decide))
  go_enter Try.func17, Try.ntmps17
  go_wp2_with fail
  refine (base_81 _).mono ?_; rintro e w1 ⟨rfl, rfl⟩
  go_wp2_with fail
  go_ret2
  exact HS.out _ (Below.refl _ _)
set_option maxHeartbeats 1000000 in
theorem ropen_82 (w : World) : Calls Try.prog 17 #[.int .i64 82] w (Prm.OpenSays 82 w) := by
  have HS := Lib.hid (fun w' => Prm.open_some (m := 82) (v := 6) (w := w) (w' := w') (by decide))
  go_enter Try.func17, Try.ntmps17
  go_wp2_with fail
  refine (base_82 _).mono ?_; rintro e w1 ⟨rfl, rfl⟩
  go_wp2_with fail
  go_ret2
  exact HS.out _ (Below.refl _ _)
set_option maxHeartbeats 1000000 in
theorem ropen_83 (w : World) : Calls Try.prog 17 #[.int .i64 83] w (Prm.OpenSays 83 w) := by
  have HS := Lib.hid (fun w' => Prm.open_some (m := 83) (v := 3) (w := w) (w' := w') (by decide))
  go_enter Try.func17, Try.ntmps17
  go_wp2_with fail
  refine (base_83 _).mono ?_; rintro e w1 ⟨rfl, rfl⟩
  go_wp2_with fail
  go_ret2
  exact HS.out _ (Below.refl _ _)
set_option maxHeartbeats 2000000 in
theorem ropen_bad (m : Int) (hl : -9223372036854775808 ≤ m) (hm : m ≤ 9223372036854775807) (h : Prm.opn m = none) (w : World) :
    Calls Try.prog 17 #[.int .i64 m] w (Prm.OpenSays m w) := by
  have HS := Lib.hid (Prm.open_none h (Below.refl w.heap.size w))
  by_cases h0 : 0 ≤ m
  · obtain ⟨b, t, o, ho, hc⟩ := base_any (m % 1000) (by omega) (by omega)
    have HC := Lib.hid hc
    clear hc
    cases o
    · clear ho h
      go_enter Try.func17, Try.ntmps17
      go_wp2_with fail
      refine (HC.out _).mono ?_; rintro e w1 ⟨rfl, rfl⟩
      go_wp2_with fail
      go_ret2
      exact HS.out
    · have hne : (m != m % 1000) = true := by
        rw [bne_iff_ne]; intro e
        have := ho rfl
        rw [← e, h] at this; cases this
      clear ho h
      go_enter Try.func17, Try.ntmps17
      go_wp2_with fail
      refine (HC.out _).mono ?_; rintro e w1 ⟨rfl, rfl⟩
      go_wp2_with fail
      go_ret2
      exact HS.out
  · have hb : -999 ≤ m.tmod 1000 ∧ m.tmod 1000 ≤ 999 := by
      have e : m.tmod 1000 = -((-m) % 1000) := by
        have := Int.neg_tmod (-m) 1000
        rw [Int.neg_neg] at this
        rw [this, Int.tmod_eq_emod_of_nonneg (by omega)]
      omega
    obtain ⟨b, t, o, ho, hc⟩ := base_any (m.tmod 1000) hb.1 hb.2
    have HC := Lib.hid hc
    clear hc
    cases o
    · clear ho h
      go_enter Try.func17, Try.ntmps17
      go_wp2_with fail
      refine (HC.out _).mono ?_; rintro e w1 ⟨rfl, rfl⟩
      go_wp2_with fail
      go_ret2
      exact HS.out
    · have hne : (m != m.tmod 1000) = true := by
        rw [bne_iff_ne]; intro e
        have := ho rfl
        rw [← e, h] at this; cases this
      clear ho h
      go_enter Try.func17, Try.ntmps17
      go_wp2_with fail
      refine (HC.out _).mono ?_; rintro e w1 ⟨rfl, rfl⟩
      go_wp2_with fail
      go_ret2
      exact HS.out
theorem ropen_any (m : Int) (hl : -9223372036854775808 ≤ m) (hm : m ≤ 9223372036854775807) (w : World) : Calls Try.prog 17 #[.int .i64 m] w (Prm.OpenSays m w) := by
  rcases Prm.opn_cases m with ⟨h, a, b, c, d⟩ | (rfl | rfl | rfl | rfl) | (rfl | rfl | rfl | rfl) | (rfl | rfl | rfl | rfl) | (rfl | rfl | rfl | rfl)
  · exact ropen_bad m hl hm h w
  · exact ropen_0 w
  · exact ropen_1 w
  · exact ropen_2 w
  · exact ropen_3 w
  · exact ropen_64 w
  · exact ropen_65 w
  · exact ropen_66 w
  · exact ropen_67 w
  · exact ropen_16 w
  · exact ropen_17 w
  · exact ropen_18 w
  · exact ropen_19 w
  · exact ropen_80 w
  · exact ropen_81 w
  · exact ropen_82 w
  · exact ropen_83 w
end Go.Proofs.Ytjefmjaommpaaaa
