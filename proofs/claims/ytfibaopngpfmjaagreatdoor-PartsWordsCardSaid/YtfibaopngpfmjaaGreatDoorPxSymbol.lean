/- What the scanner's symbol returns at a word: nothing. Conditions: a program of at most 10000 bytes. -/
import Derived.Test.YtfibaopngpfmjaaGreatDoorPxTouch
set_option linter.unusedVariables false
set_option linter.unusedSimpArgs false
namespace Go.Proofs.YtfibaopngpfmjaaGreatDoor
open Go.RowKit Go.Proofs
def Lx.signs : List UInt8 := [59, 38, 40, 41, 123, 125, 61, 94, 96, 36, 33, 64]
theorem Lx.wordy_signs {c : UInt8} (h : Lx.wordy c = true) : Lx.signs.contains c = false := by
  rw [Bool.eq_false_iff]
  intro h2
  rw [List.contains_iff_mem] at h2
  have : ∀ d ∈ Lx.signs, Lx.wordy d = false := by decide
  exact Lx.wordy_ne h (this c h2) rfl
set_option maxRecDepth 100000 in
set_option maxHeartbeats 4000000 in
theorem symbol_none (g : Nat) (s : List UInt8) (at_ en : Nat) (tv : Value) (w : World) (c : UInt8) (t : List UInt8) (h : ScRow w g s at_ en tv) (ha : at_ ≤ s.length) (hs : s.length ≤ 10000) (hd : s.drop at_ = c :: t) (hc : Lx.wordy c = true) :
    Calls Tryz.prog 90 #[.pointer (some ⟨g, 0, none⟩)] w fun e w' => e = .returned (.tuple #[.string (T []), .bool true]) ∧ Below w.heap.size w w' := by
  have HR := Lib.hid (rest_any g s at_ en tv w h ha hs)
  rw [hd] at HR
  have n1 := Lx.hp_ne c t 38 [38] (Lx.wordy_ne hc (by decide))
  have n2 := Lx.hp_ne c t 124 [124] (Lx.wordy_ne hc (by decide))
  have n3 := Lx.hp_ne c t 36 [35] (Lx.wordy_ne hc (by decide))
  have n4 := Lx.hp_ne c t 62 [62] (Lx.wordy_ne hc (by decide))
  have n5 := Lx.hp_ne c t 62 [] (Lx.wordy_ne hc (by decide))
  have n6 := Lx.hp_ne c t 60 [] (Lx.wordy_ne hc (by decide))
  have n7 := Lx.hp_ne c t 124 [] (Lx.wordy_ne hc (by decide))
  have P1 := Lib.hid (fun (W : World) => hp_any (c :: t) [38, 38] W)
  have P2 := Lib.hid (fun (W : World) => hp_any (c :: t) [124, 124] W)
  have P3 := Lib.hid (fun (W : World) => hp_any (c :: t) [36, 35] W)
  have P4 := Lib.hid (fun (W : World) => hp_any (c :: t) [62, 62] W)
  have P5 := Lib.hid (fun (W : World) => hp_any (c :: t) [62] W)
  have P6 := Lib.hid (fun (W : World) => hp_any (c :: t) [60] W)
  have P7 := Lib.hid (fun (W : World) => hp_any (c :: t) [124] W)
  rw [n1] at P1
  rw [n2] at P2
  rw [n3] at P3
  rw [n4] at P4
  rw [n5] at P5
  rw [n6] at P6
  rw [n7] at P7
  have hx := Lx.index_lt Lx.signs c
  rw [Lx.wordy_signs hc] at hx
  have HI := Lib.hid (show ∀ (W : World), Calls Tryz.prog 38 #[.string (T [59, 38, 40, 41, 123, 125, 61, 94, 96, 36, 33, 64]), .int .u8 (c.toNat : Int)] W fun e w' => e = .returned (.int .i64 (Lib.indexByte Lx.signs c)) ∧ w' = W from fun W => by
    have := strings_IndexByte (T Lx.signs) (c.toNat : Int) W
    rw [show ((c.toNat : Int)).toNat.toUInt8 = c from by simp] at this
    exact this)
  generalize Lib.indexByte Lx.signs c = ix at *
  have hx2 : ix < 0 := of_decide_eq_true hx
  have hg : ∀ h, (T (c :: t))[0]'h = c := fun _ => rfl
  have h0 : ((T (c :: t)).size : Int) = (t.length : Int) + 1 := by rw [T_size]; simp
  clear h ha hs hd hc n1 n2 n3 n4 n5 n6 n7 hx
  go_enter Tryz.func90, Tryz.ntmps90
  go_wp2_with fail
  (with_reducible refine HR.out.mono ?_); rintro e w1 ⟨rfl, b1⟩
  have HB1 := Lib.hid b1
  clear b1 HR
  go_wp2_with fail
  have HB2 := Lib.hid (HB1.out.alloc HB1.out.size (.cells #[.string (T [38, 38]), .string (T [124, 124]), .string (T [36, 35])] 9))
  clear HB1
  refine wp_loop_rounds 4 ?_
  rw [rounds_succ]
  go_wp2_with fail
  (with_reducible refine (P1.out _).mono ?_); rintro e wx ⟨rfl, rfl⟩
  go_wp2_with fail
  rw [rounds_succ]
  go_wp2_with fail
  (with_reducible refine (P2.out _).mono ?_); rintro e wx ⟨rfl, rfl⟩
  go_wp2_with fail
  rw [rounds_succ]
  go_wp2_with fail
  (with_reducible refine (P3.out _).mono ?_); rintro e wx ⟨rfl, rfl⟩
  go_wp2_with fail
  rw [rounds_succ]
  go_wp2_with fail
  (with_reducible refine (HI.out _).mono ?_); rintro e wx ⟨rfl, rfl⟩
  go_wp2_with fail
  have HB3 := Lib.hid (HB2.out.alloc HB2.out.size (.cells #[.string (T [62, 62]), .string (T [62]), .string (T [60]), .string (T [124])] 9))
  clear HB2
  refine wp_loop_rounds 5 ?_
  rw [rounds_succ]
  go_wp2_with fail
  (with_reducible refine (P4.out _).mono ?_); rintro e wx ⟨rfl, rfl⟩
  go_wp2_with fail
  rw [rounds_succ]
  go_wp2_with fail
  (with_reducible refine (P5.out _).mono ?_); rintro e wx ⟨rfl, rfl⟩
  go_wp2_with fail
  rw [rounds_succ]
  go_wp2_with fail
  (with_reducible refine (P6.out _).mono ?_); rintro e wx ⟨rfl, rfl⟩
  go_wp2_with fail
  rw [rounds_succ]
  go_wp2_with fail
  (with_reducible refine (P7.out _).mono ?_); rintro e wx ⟨rfl, rfl⟩
  go_wp2_with fail
  rw [rounds_succ]
  go_wp2_with fail
  go_ret2
  exact ⟨rfl, HB3.out⟩
end Go.Proofs.YtfibaopngpfmjaaGreatDoor
