/- What perm.Type and the reference's Type return: Prm.typ. Conditions: the mode is an int. -/
import Derived.Test.YtjefmjaommpaaaaPermHas
set_option linter.unusedVariables false
set_option linter.unusedSimpArgs false
namespace Go.Proofs.Ytjefmjaommpaaaa
open Go.RowKit
namespace Prm
def ib (m b v : Int) : Int := if bit m b then v else 0
def typ (m : Int) : Int := ib m 2147483648 128 + ib m 1073741824 64 + ib m 536870912 32 + ib m 134217728 8
theorem ib_t {m b v : Int} (h : bit m b = true) : ib m b v = v := by unfold ib; rw [if_pos h]
theorem ib_f {m b v : Int} (h : bit m b = false) : ib m b v = 0 := by unfold ib; simp [h]
theorem ib_bd (m b v : Int) (h : 0 ≤ v) : 0 ≤ ib m b v ∧ ib m b v ≤ v := by unfold ib; split <;> omega
end Prm
set_option maxHeartbeats 1000000 in
theorem rtype_any (m : Int) (h1 : m ≤ 9223372036854775807) (w : World) :
    Calls Try.prog 15 #[.int .i64 m] w fun e w' => e = .returned (.int .i64 (Prm.typ m)) ∧ w = w' := by
  have HC := Lib.hid (fun b (hb : 0 < b) w => rbit_any m b hb h1 w)
  obtain ⟨d, hd⟩ : ∃ d, Prm.bit m 2147483648 = d := ⟨_, rfl⟩
  obtain ⟨a, ha⟩ : ∃ d, Prm.bit m 1073741824 = d := ⟨_, rfl⟩
  obtain ⟨x, hx⟩ : ∃ d, Prm.bit m 536870912 = d := ⟨_, rfl⟩
  obtain ⟨u, hu⟩ : ∃ d, Prm.bit m 134217728 = d := ⟨_, rfl⟩
  have HD := Lib.hid hd
  have HA := Lib.hid ha
  have HX := Lib.hid hx
  have HU := Lib.hid hu
  have HF := Lib.hid (show Prm.typ m = (if d then 128 else 0) + (if a then 64 else 0) + (if x then 32 else 0) + (if u then 8 else 0) from by unfold Prm.typ Prm.ib; rw [hd, ha, hx, hu])
  clear hd ha hx hu
  cases d <;> cases a <;> cases x <;> cases u
  all_goals
    go_enter Try.func15, Try.ntmps15
    go_wp2_with fail
    refine (HC.out 2147483648 (by omega) _).mono ?_; rintro e w1 ⟨rfl, rfl⟩
    rw [HD.out]
    go_wp2_with fail
    refine (HC.out 1073741824 (by omega) _).mono ?_; rintro e w1 ⟨rfl, rfl⟩
    rw [HA.out]
    go_wp2_with fail
    refine (HC.out 536870912 (by omega) _).mono ?_; rintro e w1 ⟨rfl, rfl⟩
    rw [HX.out]
    go_wp2_with fail
    refine (HC.out 134217728 (by omega) _).mono ?_; rintro e w1 ⟨rfl, rfl⟩
    rw [HU.out]
    go_wp2_with fail
    go_ret
    exact ⟨by rw [HF.out]; rfl, rfl⟩

set_option maxHeartbeats 2000000 in
theorem type_any (m : Int) (h1 : m ≤ 9223372036854775807) (w : World) :
    Calls Try.prog 14 #[.int .i64 m] w fun e w' => e = .returned (.int .i64 (Prm.typ m)) ∧ Below w.heap.size w w' := by
  have HC := Lib.hid (fun b (hb : 0 < b) w => has_any m b hb h1 w)
  obtain ⟨t1, ht1⟩ : ∃ t, t = Prm.ib m 2147483648 128 := ⟨_, rfl⟩
  obtain ⟨t2, ht2⟩ : ∃ t, t = t1 + Prm.ib m 1073741824 64 := ⟨_, rfl⟩
  obtain ⟨t3, ht3⟩ : ∃ t, t = t2 + Prm.ib m 536870912 32 := ⟨_, rfl⟩
  obtain ⟨t4, ht4⟩ : ∃ t, t = t3 + Prm.ib m 134217728 8 := ⟨_, rfl⟩
  have B1 := Prm.ib_bd m 2147483648 128 (by omega)
  have B2 := Prm.ib_bd m 1073741824 64 (by omega)
  have B3 := Prm.ib_bd m 536870912 32 (by omega)
  have hb1 : 0 ≤ t1 ∧ t1 ≤ 128 := by omega
  have hb2 : 0 ≤ t2 ∧ t2 ≤ 192 := by omega
  have hb3 : 0 ≤ t3 ∧ t3 ≤ 224 := by omega
  have HD := Lib.hid (show (Prm.bit m 2147483648 = true → t1 = 128) ∧ (Prm.bit m 2147483648 = false → t1 = 0) from ⟨fun h => by rw [ht1, Prm.ib_t h], fun h => by rw [ht1, Prm.ib_f h]⟩)
  have HA := Lib.hid (show (Prm.bit m 1073741824 = true → t2 = t1 + 64) ∧ (Prm.bit m 1073741824 = false → t2 = t1) from ⟨fun h => by rw [ht2, Prm.ib_t h], fun h => by rw [ht2, Prm.ib_f h]; omega⟩)
  have HX := Lib.hid (show (Prm.bit m 536870912 = true → t3 = t2 + 32) ∧ (Prm.bit m 536870912 = false → t3 = t2) from ⟨fun h => by rw [ht3, Prm.ib_t h], fun h => by rw [ht3, Prm.ib_f h]; omega⟩)
  have HU := Lib.hid (show (Prm.bit m 134217728 = true → t4 = t3 + 8) ∧ (Prm.bit m 134217728 = false → t4 = t3) from ⟨fun h => by rw [ht4, Prm.ib_t h], fun h => by rw [ht4, Prm.ib_f h]; omega⟩)
  have HF := Lib.hid (show Prm.typ m = t4 from by unfold Prm.typ; rw [ht4, ht3, ht2, ht1])
  clear ht1 ht2 ht3 ht4 B1 B2 B3
  go_enter Try.func14, Try.ntmps14
  go_wp2_with fail
  go_loopw [3, 12] (fun t i wr => (wr.heap[w.heap.size]? = some (.cells #[.int .i64 2147483648, .int .i64 128, .int .i64 1073741824, .int .i64 64, .int .i64 536870912, .int .i64 32, .int .i64 134217728, .int .i64 8] 38 (0, 0)) ∧ Below w.heap.size w wr) ∧
    ((i = .int .i64 0 ∧ t = .int .i64 0) ∨ (i = .int .i64 1 ∧ t = .int .i64 t1) ∨ (i = .int .i64 2 ∧ t = .int .i64 t2) ∨ (i = .int .i64 3 ∧ t = .int .i64 t3) ∨ (i = .int .i64 4 ∧ t = .int .i64 t4))) (fun _ i _ => (4 - intOf i).toNat)
  case atStart => exact ⟨⟨heap_alloc_new _ _, (Below.refl _ _).alloc (Nat.le_refl _) _⟩, .inl ⟨rfl, rfl⟩⟩
  case round =>
    obtain ⟨⟨hrow, hb⟩, hrel⟩ := hrel
    have hlt : w.heap.size < wr.heap.size := by
      rcases Nat.lt_or_ge w.heap.size wr.heap.size with h' | h'
      · exact h'
      · simp [Array.getElem?_eq_none h'] at hrow
    have hr := fun (o : Obj) => (heap_alloc_old wr o hlt).trans hrow
    have HR := Lib.hid hr
    have HB0 := Lib.hid hb
    have HB := Lib.hid (fun (o : Obj) => hb.alloc hb.size o)
    have q0 : wr.cell? ⟨w.heap.size, 0, none⟩ = some (.int .i64 2147483648) := by rw [cell_of_row _ _ _ _ _ _ hrow]; rfl
    have q1 : wr.cell? ⟨w.heap.size, 1, none⟩ = some (.int .i64 128) := by rw [cell_of_row _ _ _ _ _ _ hrow]; rfl
    have q2 : wr.cell? ⟨w.heap.size, 2, none⟩ = some (.int .i64 1073741824) := by rw [cell_of_row _ _ _ _ _ _ hrow]; rfl
    have q3 : wr.cell? ⟨w.heap.size, 3, none⟩ = some (.int .i64 64) := by rw [cell_of_row _ _ _ _ _ _ hrow]; rfl
    have q4 : wr.cell? ⟨w.heap.size, 4, none⟩ = some (.int .i64 536870912) := by rw [cell_of_row _ _ _ _ _ _ hrow]; rfl
    have q5 : wr.cell? ⟨w.heap.size, 5, none⟩ = some (.int .i64 32) := by rw [cell_of_row _ _ _ _ _ _ hrow]; rfl
    have q6 : wr.cell? ⟨w.heap.size, 6, none⟩ = some (.int .i64 134217728) := by rw [cell_of_row _ _ _ _ _ _ hrow]; rfl
    have q7 : wr.cell? ⟨w.heap.size, 7, none⟩ = some (.int .i64 8) := by rw [cell_of_row _ _ _ _ _ _ hrow]; rfl
    clear hr hb hrow
    rcases hrel with ⟨rfl, rfl⟩ | ⟨rfl, rfl⟩ | ⟨rfl, rfl⟩ | ⟨rfl, rfl⟩ | ⟨rfl, rfl⟩
    · go_wp2_with fail
      refine (HC.out 2147483648 (by omega) _).mono ?_; rintro e w1 ⟨rfl, rfl⟩
      go_wp2_with fail
      all_goals
        go_roundw
        case rel => exact ⟨⟨HR.out _, HB.out _⟩, .inr (.inl ⟨rfl, by first | rw [HD.out.1 ‹_›] | rw [HD.out.2 ‹_›]⟩)⟩
        case measure => simp [intOf]
    · go_wp2_with fail
      refine (HC.out 1073741824 (by omega) _).mono ?_; rintro e w1 ⟨rfl, rfl⟩
      go_wp2_with fail
      all_goals
        go_roundw
        case rel => exact ⟨⟨HR.out _, HB.out _⟩, .inr (.inr (.inl ⟨rfl, by first | rw [HA.out.1 ‹_›] | rw [HA.out.2 ‹_›]⟩))⟩
        case measure => simp [intOf]
    · go_wp2_with fail
      refine (HC.out 536870912 (by omega) _).mono ?_; rintro e w1 ⟨rfl, rfl⟩
      go_wp2_with fail
      all_goals
        go_roundw
        case rel => exact ⟨⟨HR.out _, HB.out _⟩, .inr (.inr (.inr (.inl ⟨rfl, by first | rw [HX.out.1 ‹_›] | rw [HX.out.2 ‹_›]⟩)))⟩
        case measure => simp [intOf]
    · go_wp2_with fail
      refine (HC.out 134217728 (by omega) _).mono ?_; rintro e w1 ⟨rfl, rfl⟩
      go_wp2_with fail
      all_goals
        go_roundw
        case rel => exact ⟨⟨HR.out _, HB.out _⟩, .inr (.inr (.inr (.inr ⟨rfl, by first | rw [HU.out.1 ‹_›] | rw [HU.out.2 ‹_›]⟩)))⟩
        case measure => simp [intOf]
    · go_wp2_with fail
      go_ret
      exact ⟨by rw [HF.out]; rfl, HB0.out⟩
end Go.Proofs.Ytjefmjaommpaaaa
