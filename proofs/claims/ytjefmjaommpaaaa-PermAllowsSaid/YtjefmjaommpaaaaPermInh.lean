/- What perm.Inherit and the reference's Inherit return: Prm.inh. Conditions: the modes are ints. -/
import Derived.Test.YtjefmjaommpaaaaPermHas
import Derived.Test.YtjefmjaommpaaaaPermInhM
set_option linter.unusedVariables false
set_option linter.unusedSimpArgs false
namespace Go.Proofs.Ytjefmjaommpaaaa
open Go.RowKit

set_option maxHeartbeats 1000000 in
theorem inh_pos (d m : Nat) (hd : d ≤ 9223372036854775807) (hm : m ≤ 9223372036854775807) (w : World) :
    Calls Try.prog 18 #[.int .i64 d, .int .i64 m] w fun e w' => e = .returned (.int .i64 (Prm.inh d m)) ∧ w = w' := by
  have HC := Lib.hid (fun w => has_any m 2147483648 (by omega) (by omega) w)
  have HF := Lib.hid (Prm.inh_nat d m)
  have hi : (d : Int) ≤ 9223372036854775807 ∧ (m : Int) ≤ 9223372036854775807 := by omega
  cases hb : Prm.bit m 2147483648
  · have HE := Lib.hid hb
    have HG := Lib.hid (show bits .andNot .i64 (m : Int) (bits .andNot .i64 438 (d : Int)) = Prm.inh d m from by rw [HF.out]; unfold Prm.kmask; rw [hb]; exact Prm.inh_bits 438 d m (by omega) (by omega) (by omega))
    clear hb
    go_enter Try.func18, Try.ntmps18
    go_wp2_with fail
    refine (HC.out _).mono ?_; rintro e w1 ⟨rfl, rfl⟩
    rw [HE.out]
    go_wp2_with fail
    go_ret
    exact ⟨by rw [← HG.out]; rfl, rfl⟩
  · have HE := Lib.hid hb
    have HG := Lib.hid (show bits .andNot .i64 (m : Int) (bits .andNot .i64 511 (d : Int)) = Prm.inh d m from by rw [HF.out]; unfold Prm.kmask; rw [hb]; exact Prm.inh_bits 511 d m (by omega) (by omega) (by omega))
    clear hb
    go_enter Try.func18, Try.ntmps18
    go_wp2_with fail
    refine (HC.out _).mono ?_; rintro e w1 ⟨rfl, rfl⟩
    rw [HE.out]
    go_wp2_with fail
    go_ret
    exact ⟨by rw [← HG.out]; rfl, rfl⟩
theorem inh_negs (d m : Int) (h : d < 0 ∨ m < 0) (w : World) :
    Calls Try.prog 18 #[.int .i64 d, .int .i64 m] w fun e w' => e = .returned (.int .i64 (Prm.inh d m)) ∧ w = w' := by
  have HF := Lib.hid (Prm.inh_neg h)
  by_cases h1 : d < 0
  · clear h
    go_enter Try.func18, Try.ntmps18
    go_wp2_with fail
    go_ret
    exact ⟨by rw [HF.out]; rfl, rfl⟩
  · have h2 : m < 0 := by omega
    clear h
    go_enter Try.func18, Try.ntmps18
    go_wp2_with fail
    go_ret
    exact ⟨by rw [HF.out]; rfl, rfl⟩
theorem rinh_negs (d m : Int) (h : d < 0 ∨ m < 0) (w : World) :
    Calls Try.prog 19 #[.int .i64 d, .int .i64 m] w fun e w' => e = .returned (.int .i64 (Prm.inh d m)) ∧ w = w' := by
  have HF := Lib.hid (Prm.inh_neg h)
  by_cases h1 : d < 0
  · clear h
    go_enter Try.func19, Try.ntmps19
    go_wp2_with fail
    go_ret
    exact ⟨by rw [HF.out]; rfl, rfl⟩
  · have h2 : m < 0 := by omega
    clear h
    go_enter Try.func19, Try.ntmps19
    go_wp2_with fail
    go_ret
    exact ⟨by rw [HF.out]; rfl, rfl⟩
namespace Prm
theorem mask_bit (D : Bool) (k : Nat) (h : k < 9) : (if D then 511 else 438 : Nat).testBit k = (D || !(decide (k = 0) || decide (k = 3) || decide (k = 6))) := by
  have : k = 0 ∨ k = 1 ∨ k = 2 ∨ k = 3 ∨ k = 4 ∨ k = 5 ∨ k = 6 ∨ k = 7 ∨ k = 8 := by omega
  rcases this with rfl | rfl | rfl | rfl | rfl | rfl | rfl | rfl | rfl <;> cases D <;> decide
/-- What is left behind k bits. -/
def lft (K d m k : Nat) : Int := (m : Int) - (subs K d m k : Nat)
theorem lft_keep {K d m k : Nat} (h : (m.testBit k && (K.testBit k && !d.testBit k)) = false) : lft K d m (k + 1) = lft K d m k := by
  unfold lft; rw [subs, sub1, h]; simp
theorem lft_cut {K d m k : Nat} (h : (m.testBit k && (K.testBit k && !d.testBit k)) = true) : lft K d m (k + 1) = lft K d m k - ((2 ^ k : Nat) : Int) := by
  unfold lft; rw [subs, sub1, h]; simp only [if_true]; omega
end Prm
set_option maxHeartbeats 4000000 in
theorem rinh_pos (d m : Nat) (hd : d ≤ 9223372036854775807) (hm : m ≤ 9223372036854775807) (w : World) :
    Calls Try.prog 19 #[.int .i64 d, .int .i64 m] w fun e w' => e = .returned (.int .i64 (Prm.inh d m)) ∧ w = w' := by
  have HM := Lib.hid (fun b (hb : 0 < b) w => rbit_any m b hb (by omega) w)
  have HN := Lib.hid (fun b (hb : 0 < b) w => rbit_any d b hb (by omega) w)
  have hi : (d : Int) ≤ 9223372036854775807 ∧ (m : Int) ≤ 9223372036854775807 := by omega
  obtain ⟨D, hD⟩ : ∃ D, Prm.bit m 2147483648 = D := ⟨_, rfl⟩
  obtain ⟨K, hK⟩ : ∃ K : Nat, K = if D then 511 else 438 := ⟨_, rfl⟩
  have hKl : K < 512 := by rw [hK]; split <;> omega
  have HF := Lib.hid (show Prm.inh d m = Prm.lft K d m 9 from by
    have := Prm.inhN_subs K d m hKl (by omega) (by omega)
    rw [Prm.inh_nat]; unfold Prm.kmask Prm.lft; rw [hD, ← hK]; omega)
  have HB := Lib.hid (fun k (hk : k < 9) => Prm.mask_bit D k hk)
  have HL := Lib.hid (fun k => Prm.subs_le K d m k hKl (by omega) (by omega))
  rw [← hK] at HB
  have HD := Lib.hid hD
  clear hD hK
  go_enter Try.func19, Try.ntmps19
  go_wp2_with fail
  go_loop [5, 6] (fun o i => ∃ k : Nat, k ≤ 9 ∧ i = .int .i64 ((2 ^ k : Nat) : Int) ∧ o = .int .i64 (Prm.lft K d m k)) (fun _ i => (512 - intOf i).toNat)
  case atStart => exact ⟨0, by omega, rfl, by unfold Prm.lft; simp [Prm.subs]⟩
  case round =>
    obtain ⟨k, hk, rfl, rfl⟩ := hrel
    by_cases h9 : k < 9
    · have hpw : 1 ≤ 2 ^ k ∧ 2 ^ k ≤ 256 := ⟨Nat.one_le_two_pow, Nat.pow_le_pow_right (n := 2) (i := k) (j := 8) (by decide) (by omega)⟩
      have hp2 : 2 ^ (k + 1) = 2 * 2 ^ k := by rw [Nat.pow_succ]; omega
      have HP := Lib.hid (Prm.testBit_bit m k)
      have HQ := Lib.hid (Prm.testBit_bit d k)
      have HS := Lib.hid (Prm.lft_keep (K := K) (d := d) (m := m) (k := k))
      have HT := Lib.hid (Prm.lft_cut (K := K) (d := d) (m := m) (k := k))
      have HK := Lib.hid (HB.out k h9)
      have hl : (0 : Int) ≤ Prm.lft K d m k ∧ Prm.lft K d m k ≤ 9223372036854775807 := by have := HL.out k; unfold Prm.lft; omega
      have E1 : (((2 ^ k : Nat) : Int) == 1) = decide (k = 0) := by
        have : k = 0 ∨ k = 1 ∨ k = 2 ∨ k = 3 ∨ k = 4 ∨ k = 5 ∨ k = 6 ∨ k = 7 ∨ k = 8 := by omega
        rcases this with rfl | rfl | rfl | rfl | rfl | rfl | rfl | rfl | rfl <;> decide
      have E8 : (((2 ^ k : Nat) : Int) == 8) = decide (k = 3) := by
        have : k = 0 ∨ k = 1 ∨ k = 2 ∨ k = 3 ∨ k = 4 ∨ k = 5 ∨ k = 6 ∨ k = 7 ∨ k = 8 := by omega
        rcases this with rfl | rfl | rfl | rfl | rfl | rfl | rfl | rfl | rfl <;> decide
      have E64 : (((2 ^ k : Nat) : Int) == 64) = decide (k = 6) := by
        have : k = 0 ∨ k = 1 ∨ k = 2 ∨ k = 3 ∨ k = 4 ∨ k = 5 ∨ k = 6 ∨ k = 7 ∨ k = 8 := by omega
        rcases this with rfl | rfl | rfl | rfl | rfl | rfl | rfl | rfl | rfl <;> decide
      generalize Prm.lft K d m k = o at *
      have HX := Lib.hid (show ∀ B : Int, B = ((2 ^ k : Nat) : Int) → 2 * B = ((2 ^ (k + 1) : Nat) : Int) from fun B h => by rw [h, hp2]; omega)
      clear hp2
      generalize hB : ((2 ^ k : Nat) : Int) = B at *
      have hB2 : (1 : Int) ≤ B ∧ B ≤ 256 := by omega
      generalize decide (k = 0) = x1 at *
      generalize decide (k = 3) = x2 at *
      generalize decide (k = 6) = x3 at *
      generalize hp : m.testBit k = p at *
      generalize hq : d.testBit k = q at *
      generalize hkk : K.testBit k = kk at *
      have HB2 := Lib.hid hB
      clear hB hpw hp hq hkk
      cases x1 <;> cases x2 <;> cases x3 <;> cases p <;> cases q <;> cases D
      all_goals
        go_wp2_with fail
        ((with_reducible refine (HM.out B (by omega) _).mono ?_); rintro e w1 ⟨rfl, rfl⟩)
        rw [HP.out]
        go_wp2_with fail
        try
          (((with_reducible refine (HN.out B (by omega) _).mono ?_); rintro e w1 ⟨rfl, rfl⟩); rw [HQ.out]; go_wp2_with fail)
        try
          (((with_reducible refine (HM.out 2147483648 (by omega) _).mono ?_); rintro e w1 ⟨rfl, rfl⟩); rw [HD.out]; go_wp2_with fail)
        go_round
        case rel => exact ⟨k + 1, by omega, by rw [HX.out B rfl], by first | rw [HS.out (by rw [HK.out]; rfl)] | rw [HT.out (by rw [HK.out]; rfl)]⟩
        case measure => simp [intOf]; omega
    · obtain rfl : k = 9 := by omega
      go_wp2_with fail
      go_ret
      exact ⟨by rw [HF.out]; rfl, rfl⟩
theorem inherit_any (d m : Int) (hd : d ≤ 9223372036854775807) (hm : m ≤ 9223372036854775807) (w : World) :
    Calls Try.prog 18 #[.int .i64 d, .int .i64 m] w fun e w' => e = .returned (.int .i64 (Prm.inh d m)) ∧ w = w' := by
  by_cases h : d < 0 ∨ m < 0
  · exact inh_negs d m h w
  · obtain ⟨d', rfl⟩ := Int.eq_ofNat_of_zero_le (show 0 ≤ d by omega)
    obtain ⟨m', rfl⟩ := Int.eq_ofNat_of_zero_le (show 0 ≤ m by omega)
    exact inh_pos d' m' (by omega) (by omega) w
theorem rinherit_any (d m : Int) (hd : d ≤ 9223372036854775807) (hm : m ≤ 9223372036854775807) (w : World) :
    Calls Try.prog 19 #[.int .i64 d, .int .i64 m] w fun e w' => e = .returned (.int .i64 (Prm.inh d m)) ∧ w = w' := by
  by_cases h : d < 0 ∨ m < 0
  · exact rinh_negs d m h w
  · obtain ⟨d', rfl⟩ := Int.eq_ofNat_of_zero_le (show 0 ≤ d by omega)
    obtain ⟨m', rfl⟩ := Int.eq_ofNat_of_zero_le (show 0 ≤ m by omega)
    exact rinh_pos d' m' (by omega) (by omega) w
end Go.Proofs.Ytjefmjaommpaaaa
