/- What perm.Open and the reference's Base, Open return: Prm.opnV, Prm.opnE. Conditions: the mode is an int. -/
import Derived.Test.YtjefmjaommpaaaaPermHas
set_option linter.unusedVariables false
set_option linter.unusedSimpArgs false
namespace Go.Proofs.Ytjefmjaommpaaaa
open Go.RowKit
namespace Prm
/-- Base, with or without OTrunc: the rights that are wanted. -/
def want (b : Int) (t : Bool) : Int := if b = 0 then (if t then 6 else 4) else if b = 1 then 2 else if b = 2 then 6 else (if t then 3 else 1)
/-- m is one of the sixteen open modes: base b, OTrunc t, OClose c. -/
def opn (m : Int) : Option Int :=
  if 0 ≤ m ∧ m ≤ 3 then some (want m false) else if 64 ≤ m ∧ m ≤ 67 then some (want (m - 64) false)
  else if 16 ≤ m ∧ m ≤ 19 then some (want (m - 16) true) else if 80 ≤ m ∧ m ≤ 83 then some (want (m - 80) true) else none
def opnV (m : Int) : Int := (opn m).getD 0
def opnE (m : Int) : Int := if (opn m).isSome then 0 else 12
def OpenSays (m : Int) (w : World) (e : Ending) (w' : World) : Prop := e = .returned (.tuple #[.int .i64 (opnV m), .int .i64 (opnE m)]) ∧ Below w.heap.size w w'
theorem open_none {m : Int} {w w' : World} (h : opn m = none) (hb : Below w.heap.size w w') : OpenSays m w (.returned (.tuple #[.int .i64 0, .int .i64 12])) w' := by
  unfold OpenSays opnV opnE; rw [h]; exact ⟨rfl, hb⟩
theorem open_some {m v : Int} {w w' : World} (h : opn m = some v) (hb : Below w.heap.size w w') : OpenSays m w (.returned (.tuple #[.int .i64 v, .int .i64 0])) w' := by
  unfold OpenSays opnV opnE; rw [h]; exact ⟨rfl, hb⟩
theorem opn_cases (m : Int) : (opn m = none ∧ ¬ (0 ≤ m ∧ m ≤ 3) ∧ ¬ (64 ≤ m ∧ m ≤ 67) ∧ ¬ (16 ≤ m ∧ m ≤ 19) ∧ ¬ (80 ≤ m ∧ m ≤ 83)) ∨
    (m = 0 ∨ m = 1 ∨ m = 2 ∨ m = 3) ∨ (m = 64 ∨ m = 65 ∨ m = 66 ∨ m = 67) ∨ (m = 16 ∨ m = 17 ∨ m = 18 ∨ m = 19) ∨ (m = 80 ∨ m = 81 ∨ m = 82 ∨ m = 83) := by
  by_cases a : 0 ≤ m ∧ m ≤ 3
  · omega
  · by_cases b : 64 ≤ m ∧ m ≤ 67
    · omega
    · by_cases c : 16 ≤ m ∧ m ≤ 19
      · omega
      · by_cases d : 80 ≤ m ∧ m ≤ 83
        · omega
        · refine .inl ⟨?_, a, b, c, d⟩
          unfold opn; rw [if_neg a, if_neg b, if_neg c, if_neg d]
end Prm

set_option maxHeartbeats 1000000 in
theorem open_0 (w : World) : Calls Try.prog 16 #[.int .i64 0] w (Prm.OpenSays 0 w) := by
  have HS := Lib.hid (fun w' => Prm.open_some (m := 0) (v := 4) (w := w) (w' := w') (by decide))
  have HD := Lib.hid (fun w => by have := has_any 0 16 (by omega) (by omega) w; rw [show Prm.bit 0 16 = false from by decide] at this; exact this)
  have HA := Lib.hid (fun w => by have := has_any 0 64 (by omega) (by omega) w; rw [show Prm.bit 0 64 = false from by decide] at this; exact this)
  have HB := Lib.hid (Below.refl w.heap.size w)
  go_enter Try.func16, Try.ntmps16
  go_wp2_with fail
  refine (HD.out _).mono ?_; rintro e w1 ⟨rfl, rfl⟩
  go_wp2_with fail
  refine (HA.out _).mono ?_; rintro e w1 ⟨rfl, rfl⟩
  go_wp2_with fail
  refine (HD.out _).mono ?_; rintro e w1 ⟨rfl, rfl⟩
  go_wp2_with fail
  go_ret2
  exact HS.out _ (HB.out.alloc (Nat.le_refl _) _)
set_option maxHeartbeats 1000000 in
theorem open_1 (w : World) : Calls Try.prog 16 #[.int .i64 1] w (Prm.OpenSays 1 w) := by
  have HS := Lib.hid (fun w' => Prm.open_some (m := 1) (v := 2) (w := w) (w' := w') (by decide))
  have HD := Lib.hid (fun w => by have := has_any 1 16 (by omega) (by omega) w; rw [show Prm.bit 1 16 = false from by decide] at this; exact this)
  have HA := Lib.hid (fun w => by have := has_any 1 64 (by omega) (by omega) w; rw [show Prm.bit 1 64 = false from by decide] at this; exact this)
  have HB := Lib.hid (Below.refl w.heap.size w)
  go_enter Try.func16, Try.ntmps16
  go_wp2_with fail
  refine (HD.out _).mono ?_; rintro e w1 ⟨rfl, rfl⟩
  go_wp2_with fail
  refine (HA.out _).mono ?_; rintro e w1 ⟨rfl, rfl⟩
  go_wp2_with fail
  refine (HD.out _).mono ?_; rintro e w1 ⟨rfl, rfl⟩
  go_wp2_with fail
  go_ret2
  exact HS.out _ (HB.out.alloc (Nat.le_refl _) _)
set_option maxHeartbeats 1000000 in
theorem open_2 (w : World) : Calls Try.prog 16 #[.int .i64 2] w (Prm.OpenSays 2 w) := by
  have HS := Lib.hid (fun w' => Prm.open_some (m := 2) (v := 6) (w := w) (w' := w') (by decide))
  have HD := Lib.hid (fun w => by have := has_any 2 16 (by omega) (by omega) w; rw [show Prm.bit 2 16 = false from by decide] at this; exact this)
  have HA := Lib.hid (fun w => by have := has_any 2 64 (by omega) (by omega) w; rw [show Prm.bit 2 64 = false from by decide] at this; exact this)
  have HB := Lib.hid (Below.refl w.heap.size w)
  go_enter Try.func16, Try.ntmps16
  go_wp2_with fail
  refine (HD.out _).mono ?_; rintro e w1 ⟨rfl, rfl⟩
  go_wp2_with fail
  refine (HA.out _).mono ?_; rintro e w1 ⟨rfl, rfl⟩
  go_wp2_with fail
  refine (HD.out _).mono ?_; rintro e w1 ⟨rfl, rfl⟩
  go_wp2_with fail
  go_ret2
  exact HS.out _ (HB.out.alloc (Nat.le_refl _) _)
set_option maxHeartbeats 1000000 in
theorem open_3 (w : World) : Calls Try.prog 16 #[.int .i64 3] w (Prm.OpenSays 3 w) := by
  have HS := Lib.hid (fun w' => Prm.open_some (m := 3) (v := 1) (w := w) (w' := w') (by decide))
  have HD := Lib.hid (fun w => by have := has_any 3 16 (by omega) (by omega) w; rw [show Prm.bit 3 16 = false from by decide] at this; exact this)
  have HA := Lib.hid (fun w => by have := has_any 3 64 (by omega) (by omega) w; rw [show Prm.bit 3 64 = false from by decide] at this; exact this)
  have HB := Lib.hid (Below.refl w.heap.size w)
  go_enter Try.func16, Try.ntmps16
  go_wp2_with fail
  refine (HD.out _).mono ?_; rintro e w1 ⟨rfl, rfl⟩
  go_wp2_with fail
  refine (HA.out _).mono ?_; rintro e w1 ⟨rfl, rfl⟩
  go_wp2_with fail
  refine (HD.out _).mono ?_; rintro e w1 ⟨rfl, rfl⟩
  go_wp2_with fail
  go_ret2
  exact HS.out _ (HB.out.alloc (Nat.le_refl _) _)
set_option maxHeartbeats 1000000 in
theorem open_16 (w : World) : Calls Try.prog 16 #[.int .i64 16] w (Prm.OpenSays 16 w) := by
  have HS := Lib.hid (fun w' => Prm.open_some (m := 16) (v := 6) (w := w) (w' := w') (by decide))
  have HD := Lib.hid (fun w => by have := has_any 16 16 (by omega) (by omega) w; rw [show Prm.bit 16 16 = true from by decide] at this; exact this)
  have HA := Lib.hid (fun w => by have := has_any 16 64 (by omega) (by omega) w; rw [show Prm.bit 16 64 = false from by decide] at this; exact this)
  have HB := Lib.hid (Below.refl w.heap.size w)
  go_enter Try.func16, Try.ntmps16
  go_wp2_with fail
  refine (HD.out _).mono ?_; rintro e w1 ⟨rfl, rfl⟩
  go_wp2_with fail
  refine (HA.out _).mono ?_; rintro e w1 ⟨rfl, rfl⟩
  go_wp2_with fail
  refine (HD.out _).mono ?_; rintro e w1 ⟨rfl, rfl⟩
  go_wp2_with fail
  go_ret2
  exact HS.out _ (HB.out.alloc (Nat.le_refl _) _)
set_option maxHeartbeats 1000000 in
theorem open_17 (w : World) : Calls Try.prog 16 #[.int .i64 17] w (Prm.OpenSays 17 w) := by
  have HS := Lib.hid (fun w' => Prm.open_some (m := 17) (v := 2) (w := w) (w' := w') (by decide))
  have HD := Lib.hid (fun w => by have := has_any 17 16 (by omega) (by omega) w; rw [show Prm.bit 17 16 = true from by decide] at this; exact this)
  have HA := Lib.hid (fun w => by have := has_any 17 64 (by omega) (by omega) w; rw [show Prm.bit 17 64 = false from by decide] at this; exact this)
  have HB := Lib.hid (Below.refl w.heap.size w)
  go_enter Try.func16, Try.ntmps16
  go_wp2_with fail
  refine (HD.out _).mono ?_; rintro e w1 ⟨rfl, rfl⟩
  go_wp2_with fail
  refine (HA.out _).mono ?_; rintro e w1 ⟨rfl, rfl⟩
  go_wp2_with fail
  refine (HD.out _).mono ?_; rintro e w1 ⟨rfl, rfl⟩
  go_wp2_with fail
  go_ret2
  exact HS.out _ (HB.out.alloc (Nat.le_refl _) _)
set_option maxHeartbeats 1000000 in
theorem open_18 (w : World) : Calls Try.prog 16 #[.int .i64 18] w (Prm.OpenSays 18 w) := by
  have HS := Lib.hid (fun w' => Prm.open_some (m := 18) (v := 6) (w := w) (w' := w') (by decide))
  have HD := Lib.hid (fun w => by have := has_any 18 16 (by omega) (by omega) w; rw [show Prm.bit 18 16 = true from by decide] at this; exact this)
  have HA := Lib.hid (fun w => by have := has_any 18 64 (by omega) (by omega) w; rw [show Prm.bit 18 64 = false from by decide] at this; exact this)
  have HB := Lib.hid (Below.refl w.heap.size w)
  go_enter Try.func16, Try.ntmps16
  go_wp2_with fail
  refine (HD.out _).mono ?_; rintro e w1 ⟨rfl, rfl⟩
  go_wp2_with fail
  refine (HA.out _).mono ?_; rintro e w1 ⟨rfl, rfl⟩
  go_wp2_with fail
  refine (HD.out _).mono ?_; rintro e w1 ⟨rfl, rfl⟩
  go_wp2_with fail
  go_ret2
  exact HS.out _ (HB.out.alloc (Nat.le_refl _) _)
set_option maxHeartbeats 1000000 in
theorem open_19 (w : World) : Calls Try.prog 16 #[.int .i64 19] w (Prm.OpenSays 19 w) := by
  have HS := Lib.hid (fun w' => Prm.open_some (m := 19) (v := 3) (w := w) (w' := w') (by decide))
  have HD := Lib.hid (fun w => by have := has_any 19 16 (by omega) (by omega) w; rw [show Prm.bit 19 16 = true from by decide] at this; exact this)
  have HA := Lib.hid (fun w => by have := has_any 19 64 (by omega) (by omega) w; rw [show Prm.bit 19 64 = false from by decide] at this; exact this)
  have HB := Lib.hid (Below.refl w.heap.size w)
  go_enter Try.func16, Try.ntmps16
  go_wp2_with fail
  refine (HD.out _).mono ?_; rintro e w1 ⟨rfl, rfl⟩
  go_wp2_with fail
  refine (HA.out _).mono ?_; rintro e w1 ⟨rfl, rfl⟩
  go_wp2_with fail
  refine (HD.out _).mono ?_; rintro e w1 ⟨rfl, rfl⟩
  go_wp2_with fail
  go_ret2
  exact HS.out _ (HB.out.alloc (Nat.le_refl _) _)
set_option maxHeartbeats 1000000 in
theorem open_64 (w : World) : Calls Try.prog 16 #[.int .i64 64] w (Prm.OpenSays 64 w) := by
  have HS := Lib.hid (fun w' => Prm.open_some (m := 64) (v := 4) (w := w) (w' := w') (by decide))
  have HD := Lib.hid (fun w => by have := has_any 64 16 (by omega) (by omega) w; rw [show Prm.bit 64 16 = false from by decide] at this; exact this)
  have HA := Lib.hid (fun w => by have := has_any 64 64 (by omega) (by omega) w; rw [show Prm.bit 64 64 = true from by decide] at this; exact this)
  have HB := Lib.hid (Below.refl w.heap.size w)
  go_enter Try.func16, Try.ntmps16
  go_wp2_with fail
  refine (HD.out _).mono ?_; rintro e w1 ⟨rfl, rfl⟩
  go_wp2_with fail
  refine (HA.out _).mono ?_; rintro e w1 ⟨rfl, rfl⟩
  go_wp2_with fail
  refine (HD.out _).mono ?_; rintro e w1 ⟨rfl, rfl⟩
  go_wp2_with fail
  go_ret2
  exact HS.out _ (HB.out.alloc (Nat.le_refl _) _)
set_option maxHeartbeats 1000000 in
theorem open_65 (w : World) : Calls Try.prog 16 #[.int .i64 65] w (Prm.OpenSays 65 w) := by
  have HS := Lib.hid (fun w' => Prm.open_some (m := 65) (v := 2) (w := w) (w' := w') (by decide))
  have HD := Lib.hid (fun w => by have := has_any 65 16 (by omega) (by omega) w; rw [show Prm.bit 65 16 = false from by decide] at this; exact this)
  have HA := Lib.hid (fun w => by have := has_any 65 64 (by omega) (by omega) w; rw [show Prm.bit 65 64 = true from by decide] at this; exact this)
  have HB := Lib.hid (Below.refl w.heap.size w)
  go_enter Try.func16, Try.ntmps16
  go_wp2_with fail
  refine (HD.out _).mono ?_; rintro e w1 ⟨rfl, rfl⟩
  go_wp2_with fail
  refine (HA.out _).mono ?_; rintro e w1 ⟨rfl, rfl⟩
  go_wp2_with fail
  refine (HD.out _).mono ?_; rintro e w1 ⟨rfl, rfl⟩
  go_wp2_with fail
  go_ret2
  exact HS.out _ (HB.out.alloc (Nat.le_refl _) _)
set_option maxHeartbeats 1000000 in
theorem open_66 (w : World) : Calls Try.prog 16 #[.int .i64 66] w (Prm.OpenSays 66 w) := by
  have HS := Lib.hid (fun w' => Prm.open_some (m := 66) (v := 6) (w := w) (w' := w') (by decide))
  have HD := Lib.hid (fun w => by have := has_any 66 16 (by omega) (by omega) w; rw [show Prm.bit 66 16 = false from by decide] at this; exact this)
  have HA := Lib.hid (fun w => by have := has_any 66 64 (by omega) (by omega) w; rw [show Prm.bit 66 64 = true from by decide] at this; exact this)
  have HB := Lib.hid (Below.refl w.heap.size w)
  go_enter Try.func16, Try.ntmps16
  go_wp2_with fail
  refine (HD.out _).mono ?_; rintro e w1 ⟨rfl, rfl⟩
  go_wp2_with fail
  refine (HA.out _).mono ?_; rintro e w1 ⟨rfl, rfl⟩
  go_wp2_with fail
  refine (HD.out _).mono ?_; rintro e w1 ⟨rfl, rfl⟩
  go_wp2_with fail
  go_ret2
  exact HS.out _ (HB.out.alloc (Nat.le_refl _) _)
set_option maxHeartbeats 1000000 in
theorem open_67 (w : World) : Calls Try.prog 16 #[.int .i64 67] w (Prm.OpenSays 67 w) := by
  have HS := Lib.hid (fun w' => Prm.open_some (m := 67) (v := 1) (w := w) (w' := w') (by decide))
  have HD := Lib.hid (fun w => by have := has_any 67 16 (by omega) (by omega) w; rw [show Prm.bit 67 16 = false from by decide] at this; exact this)
  have HA := Lib.hid (fun w => by have := has_any 67 64 (by omega) (by omega) w; rw [show Prm.bit 67 64 = true from by decide] at this; exact this)
  have HB := Lib.hid (Below.refl w.heap.size w)
  go_enter Try.func16, Try.ntmps16
  go_wp2_with fail
  refine (HD.out _).mono ?_; rintro e w1 ⟨rfl, rfl⟩
  go_wp2_with fail
  refine (HA.out _).mono ?_; rintro e w1 ⟨rfl, rfl⟩
  go_wp2_with fail
  refine (HD.out _).mono ?_; rintro e w1 ⟨rfl, rfl⟩
  go_wp2_with fail
  go_ret2
  exact HS.out _ (HB.out.alloc (Nat.le_refl _) _)
set_option maxHeartbeats 1000000 in
theorem open_80 (w : World) : Calls Try.prog 16 #[.int .i64 80] w (Prm.OpenSays 80 w) := by
  have HS := Lib.hid (fun w' => Prm.open_some (m := 80) (v := 6) (w := w) (w' := w') (by decide))
  have HD := Lib.hid (fun w => by have := has_any 80 16 (by omega) (by omega) w; rw [show Prm.bit 80 16 = true from by decide] at this; exact this)
  have HA := Lib.hid (fun w => by have := has_any 80 64 (by omega) (by omega) w; rw [show Prm.bit 80 64 = true from by decide] at this; exact this)
  have HB := Lib.hid (Below.refl w.heap.size w)
  go_enter Try.func16, Try.ntmps16
  go_wp2_with fail
  refine (HD.out _).mono ?_; rintro e w1 ⟨rfl, rfl⟩
  go_wp2_with fail
  refine (HA.out _).mono ?_; rintro e w1 ⟨rfl, rfl⟩
  go_wp2_with fail
  refine (HD.out _).mono ?_; rintro e w1 ⟨rfl, rfl⟩
  go_wp2_with fail
  go_ret2
  exact HS.out _ (HB.out.alloc (Nat.le_refl _) _)
set_option maxHeartbeats 1000000 in
theorem open_81 (w : World) : Calls Try.prog 16 #[.int .i64 81] w (Prm.OpenSays 81 w) := by
  have HS := Lib.hid (fun w' => Prm.open_some (m := 81) (v := 2) (w := w) (w' := w') (by decide))
  have HD := Lib.hid (fun w => by have := has_any 81 16 (by omega) (by omega) w; rw [show Prm.bit 81 16 = true from by decide] at this; exact this)
  have HA := Lib.hid (fun w => by have := has_any 81 64 (by omega) (by omega) w; rw [show Prm.bit 81 64 = true from by decide] at this; exact this)
  have HB := Lib.hid (Below.refl w.heap.size w)
  go_enter Try.func16, Try.ntmps16
  go_wp2_with fail
  refine (HD.out _).mono ?_; rintro e w1 ⟨rfl, rfl⟩
  go_wp2_with fail
  refine (HA.out _).mono ?_; rintro e w1 ⟨rfl, rfl⟩
  go_wp2_with fail
  refine (HD.out _).mono ?_; rintro e w1 ⟨rfl, rfl⟩
  go_wp2_with fail
  go_ret2
  exact HS.out _ (HB.out.alloc (Nat.le_refl _) _)
set_option maxHeartbeats 1000000 in
theorem open_82 (w : World) : Calls Try.prog 16 #[.int .i64 82] w (Prm.OpenSays 82 w) := by
  have HS := Lib.hid (fun w' => Prm.open_some (m := 82) (v := 6) (w := w) (w' := w') (by decide))
  have HD := Lib.hid (fun w => by have := has_any 82 16 (by omega) (by omega) w; rw [show Prm.bit 82 16 = true from by decide] at this; exact this)
  have HA := Lib.hid (fun w => by have := has_any 82 64 (by omega) (by omega) w; rw [show Prm.bit 82 64 = true from by decide] at this; exact this)
  have HB := Lib.hid (Below.refl w.heap.size w)
  go_enter Try.func16, Try.ntmps16
  go_wp2_with fail
  refine (HD.out _).mono ?_; rintro e w1 ⟨rfl, rfl⟩
  go_wp2_with fail
  refine (HA.out _).mono ?_; rintro e w1 ⟨rfl, rfl⟩
  go_wp2_with fail
  refine (HD.out _).mono ?_; rintro e w1 ⟨rfl, rfl⟩
  go_wp2_with fail
  go_ret2
  exact HS.out _ (HB.out.alloc (Nat.le_refl _) _)
set_option maxHeartbeats 1000000 in
theorem open_83 (w : World) : Calls Try.prog 16 #[.int .i64 83] w (Prm.OpenSays 83 w) := by
  have HS := Lib.hid (fun w' => Prm.open_some (m := 83) (v := 3) (w := w) (w' := w') (by decide))
  have HD := Lib.hid (fun w => by have := has_any 83 16 (by omega) (by omega) w; rw [show Prm.bit 83 16 = true from by decide] at this; exact this)
  have HA := Lib.hid (fun w => by have := has_any 83 64 (by omega) (by omega) w; rw [show Prm.bit 83 64 = true from by decide] at this; exact this)
  have HB := Lib.hid (Below.refl w.heap.size w)
  go_enter Try.func16, Try.ntmps16
  go_wp2_with fail
  refine (HD.out _).mono ?_; rintro e w1 ⟨rfl, rfl⟩
  go_wp2_with fail
  refine (HA.out _).mono ?_; rintro e w1 ⟨rfl, rfl⟩
  go_wp2_with fail
  refine (HD.out _).mono ?_; rintro e w1 ⟨rfl, rfl⟩
  go_wp2_with fail
  go_ret2
  exact HS.out _ (HB.out.alloc (Nat.le_refl _) _)
set_option maxHeartbeats 2000000 in
theorem open_bad (m : Int) (hl : -9223372036854775808 ≤ m) (hm : m ≤ 9223372036854775807) (h : Prm.opn m = none) (n1 : ¬ (0 ≤ m ∧ m ≤ 3)) (n2 : ¬ (64 ≤ m ∧ m ≤ 67)) (n3 : ¬ (16 ≤ m ∧ m ≤ 19)) (n4 : ¬ (80 ≤ m ∧ m ≤ 83)) (w : World) :
    Calls Try.prog 16 #[.int .i64 m] w (Prm.OpenSays m w) := by
  have HS := Lib.hid (Prm.open_none h (Below.refl w.heap.size w))
  have HC := Lib.hid (fun b (hb : 0 < b) w => has_any m b hb (by omega) w)
  obtain ⟨t16, h16⟩ : ∃ d, Prm.bit m 16 = d := ⟨_, rfl⟩
  obtain ⟨t64, h64⟩ : ∃ d, Prm.bit m 64 = d := ⟨_, rfl⟩
  have g16 : t16 = true → 0 ≤ m ∧ m / 16 % 2 = 1 := fun e => by rw [e] at h16; unfold Prm.bit at h16; simpa using h16
  have g64 : t64 = true → 0 ≤ m ∧ m / 64 % 2 = 1 := fun e => by rw [e] at h64; unfold Prm.bit at h64; simpa using h64
  have HD := Lib.hid h16
  have HA := Lib.hid h64
  clear h16 h64 h
  cases t16 <;> cases t64
  all_goals
    simp only [Bool.false_eq_true, false_implies, true_implies, forall_const] at g16 g64
    try obtain ⟨p1, p2⟩ := g16
    try obtain ⟨p3, p4⟩ := g64
  · have hx : m < 0 ∨ 3 < m := by omega
    clear n1 n2 n3 n4
    rcases hx with hx | hx
    all_goals
      go_enter Try.func16, Try.ntmps16
      go_wp2_with fail
      refine (HC.out 16 (by omega) _).mono ?_; rintro e w1 ⟨rfl, rfl⟩
      rw [HD.out]
      go_wp2_with fail
      refine (HC.out 64 (by omega) _).mono ?_; rintro e w1 ⟨rfl, rfl⟩
      rw [HA.out]
      go_wp2_with fail
      go_ret2
      exact HS.out
  · have hx : m - 64 < 0 ∨ 3 < m - 64 := by omega
    clear n1 n2 n3 n4 p4
    rcases hx with hx | hx
    all_goals
      go_enter Try.func16, Try.ntmps16
      go_wp2_with fail
      refine (HC.out 16 (by omega) _).mono ?_; rintro e w1 ⟨rfl, rfl⟩
      rw [HD.out]
      go_wp2_with fail
      refine (HC.out 64 (by omega) _).mono ?_; rintro e w1 ⟨rfl, rfl⟩
      rw [HA.out]
      go_wp2_with fail
      go_ret2
      exact HS.out
  · have hx : m - 16 < 0 ∨ 3 < m - 16 := by omega
    clear n1 n2 n3 n4 p2
    rcases hx with hx | hx
    all_goals
      go_enter Try.func16, Try.ntmps16
      go_wp2_with fail
      refine (HC.out 16 (by omega) _).mono ?_; rintro e w1 ⟨rfl, rfl⟩
      rw [HD.out]
      go_wp2_with fail
      refine (HC.out 64 (by omega) _).mono ?_; rintro e w1 ⟨rfl, rfl⟩
      rw [HA.out]
      go_wp2_with fail
      go_ret2
      exact HS.out
  · have hx : m - 16 - 64 < 0 ∨ 3 < m - 16 - 64 := by omega
    clear n1 n2 n3 n4 p2 p4
    rcases hx with hx | hx
    all_goals
      go_enter Try.func16, Try.ntmps16
      go_wp2_with fail
      refine (HC.out 16 (by omega) _).mono ?_; rintro e w1 ⟨rfl, rfl⟩
      rw [HD.out]
      go_wp2_with fail
      refine (HC.out 64 (by omega) _).mono ?_; rintro e w1 ⟨rfl, rfl⟩
      rw [HA.out]
      go_wp2_with fail
      go_ret2
      exact HS.out
theorem open_any (m : Int) (hl : -9223372036854775808 ≤ m) (hm : m ≤ 9223372036854775807) (w : World) : Calls Try.prog 16 #[.int .i64 m] w (Prm.OpenSays m w) := by
  rcases Prm.opn_cases m with ⟨h, a, b, c, d⟩ | (rfl | rfl | rfl | rfl) | (rfl | rfl | rfl | rfl) | (rfl | rfl | rfl | rfl) | (rfl | rfl | rfl | rfl)
  · exact open_bad m hl hm h a b c d w
  · exact open_0 w
  · exact open_1 w
  · exact open_2 w
  · exact open_3 w
  · exact open_64 w
  · exact open_65 w
  · exact open_66 w
  · exact open_67 w
  · exact open_16 w
  · exact open_17 w
  · exact open_18 w
  · exact open_19 w
  · exact open_80 w
  · exact open_81 w
  · exact open_82 w
  · exact open_83 w
end Go.Proofs.Ytjefmjaommpaaaa
