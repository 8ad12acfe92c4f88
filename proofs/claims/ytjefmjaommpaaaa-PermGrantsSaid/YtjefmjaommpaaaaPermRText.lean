/- What the reference's Text returns: Prm.txt. Conditions: the mode is an int. -/
import Derived.Test.YtjefmjaommpaaaaPermText
set_option linter.unusedVariables false
set_option linter.unusedSimpArgs false
namespace Go.Proofs.Ytjefmjaommpaaaa
open Go.RowKit
namespace Prm
theorem bit_ltr (m : Int) (h0 : 0 ≤ m) (i : Nat) (b : Int) (c : UInt8) (hb : (2 : Int) ^ i = b) (hc : rwx i = c) : (if bit m b then T [c] else T [45]) = T [ltr m i] := by
  unfold ltr bit
  rw [hb, hc]
  by_cases h : m / b % 2 = 1 <;> simp [h, h0]
theorem bit_c1 (m : Int) : (if bit m 536870912 then T [108] else T [45]) = T [c1 m] := by
  unfold c1; split <;> rfl
theorem c0_t {m : Int} (h : bit m 2147483648 = true) : c0 m = 100 := by unfold c0; rw [if_pos h]
theorem c0_f {m : Int} (h : bit m 2147483648 = false) : (if bit m 1073741824 then T [97] else T [45]) = T [c0 m] := by
  unfold c0; rw [h]; simp; split <;> rfl
/-- The text after k letters of the permissions. -/
def tk (m : Int) (k : Nat) : List UInt8 := c0 m :: c1 m :: ltrs m k
theorem tk_len (m : Int) (k : Nat) : (tk m k).length = k + 2 := by simp [tk, ltrs]
theorem tk_succ (m : Int) (k : Nat) : tk m (k + 1) = tk m k ++ [ltr m (8 - k)] := by
  simp [tk, ltrs, List.range_succ]
theorem tk_3 (m : Int) (k : Nat) : tk m (k + 3) = tk m k ++ [ltr m (8 - k)] ++ [ltr m (8 - (k + 1))] ++ [ltr m (8 - (k + 2))] := by
  rw [tk_succ, tk_succ, tk_succ]
end Prm

set_option maxHeartbeats 1000000 in
theorem rtext_any (m : Int) (w : World) (h1 : m ≤ 9223372036854775807) :
    Calls Try.prog 13 #[.int .i64 m] w fun e w' => e = .returned (.string (T (Prm.txt m))) ∧ Below w.heap.size w w' := by
  have HV := Lib.hid (fun w => rvalid_any m w h1)
  cases hv : Prm.vld m with
  | false =>
    have HF := Lib.hid (Prm.txt_empty hv)
    rw [hv] at HV; clear hv
    go_enter Try.func13, Try.ntmps13
    go_wp2_with fail
    refine (HV.out _).mono ?_; rintro e w1 ⟨rfl, b1⟩
    go_wp2_with fail
    go_ret
    exact ⟨by rw [HF.out]; rfl, b1⟩
  | true =>
    have h0 : 0 ≤ m := ((Prm.vld_iff m).1 hv).1
    have HF := Lib.hid (show Prm.txt m = Prm.tk m 9 from by unfold Prm.txt; rw [if_pos hv]; rfl)
    rw [hv] at HV; clear hv
    have HM := Lib.hid (fun b (hb : 0 < b) c w => mark_any m b hb h1 c w)
    have HM8 := Lib.hid (fun w => by have := HM.out 256 (by omega) (T [114]) w; rw [Prm.bit_ltr m h0 8 256 114 rfl rfl] at this; exact this)
    have HM7 := Lib.hid (fun w => by have := HM.out 128 (by omega) (T [119]) w; rw [Prm.bit_ltr m h0 7 128 119 rfl rfl] at this; exact this)
    have HM6 := Lib.hid (fun w => by have := HM.out 64 (by omega) (T [120]) w; rw [Prm.bit_ltr m h0 6 64 120 rfl rfl] at this; exact this)
    have HM5 := Lib.hid (fun w => by have := HM.out 32 (by omega) (T [114]) w; rw [Prm.bit_ltr m h0 5 32 114 rfl rfl] at this; exact this)
    have HM4 := Lib.hid (fun w => by have := HM.out 16 (by omega) (T [119]) w; rw [Prm.bit_ltr m h0 4 16 119 rfl rfl] at this; exact this)
    have HM3 := Lib.hid (fun w => by have := HM.out 8 (by omega) (T [120]) w; rw [Prm.bit_ltr m h0 3 8 120 rfl rfl] at this; exact this)
    have HM2 := Lib.hid (fun w => by have := HM.out 4 (by omega) (T [114]) w; rw [Prm.bit_ltr m h0 2 4 114 rfl rfl] at this; exact this)
    have HM1 := Lib.hid (fun w => by have := HM.out 2 (by omega) (T [119]) w; rw [Prm.bit_ltr m h0 1 2 119 rfl rfl] at this; exact this)
    have HM0 := Lib.hid (fun w => by have := HM.out 1 (by omega) (T [120]) w; rw [Prm.bit_ltr m h0 0 1 120 rfl rfl] at this; exact this)
    have HMX := Lib.hid (fun w => by have := HM.out 536870912 (by omega) (T [108]) w; rw [Prm.bit_c1 m] at this; exact this)
    have HMD := Lib.hid (fun w => HM.out 2147483648 (by omega) (T [100]) w)
    have HMA := Lib.hid (fun w => HM.out 1073741824 (by omega) (T [97]) w)
    cases hd : Prm.bit m 2147483648
    all_goals
      rw [hd] at HMD
      have HE := Lib.hid hd; clear hd
      go_enter Try.func13, Try.ntmps13
      go_wp2_with fail
      refine (HV.out _).mono ?_; rintro e w1 ⟨rfl, b1⟩
      go_wp2_with fail
      refine (HMD.out _).mono ?_; rintro e w2 ⟨rfl, rfl⟩
      simp only [if_true, Bool.false_eq_true, if_false]
      go_wp2_with fail
      try
        ((with_reducible refine (HMA.out _).mono ?_); rintro e w2 ⟨rfl, rfl⟩; rw [Prm.c0_f HE.out]; go_wp2_with fail)
      refine (HMX.out _).mono ?_; rintro e w2 ⟨rfl, rfl⟩
      go_wp2_with fail
      go_loop [3, 4] (fun s i => (i = .int .i64 64 ∧ s = .string (T (Prm.tk m 0))) ∨ (i = .int .i64 8 ∧ s = .string (T (Prm.tk m 3))) ∨ (i = .int .i64 1 ∧ s = .string (T (Prm.tk m 6))) ∨ (i = .int .i64 0 ∧ s = .string (T (Prm.tk m 9)))) (fun _ i => (intOf i).toNat)
      case atStart => exact .inl ⟨rfl, by first | rfl | (rw [← Prm.c0_t HE.out]; rfl)⟩
      case round =>
        rcases hrel with ⟨rfl, rfl⟩ | ⟨rfl, rfl⟩ | ⟨rfl, rfl⟩ | ⟨rfl, rfl⟩
        · go_wp2_with fail
          refine (HM8.out _).mono ?_; rintro e w2 ⟨rfl, rfl⟩
          go_wp2_with fail
          refine (HM7.out _).mono ?_; rintro e w2 ⟨rfl, rfl⟩
          go_wp2_with fail
          refine (HM6.out _).mono ?_; rintro e w2 ⟨rfl, rfl⟩
          go_wp2_with fail
          go_round
          case rel => exact .inr (.inl ⟨rfl, by rw [Prm.tk_3 m 0, T_append, T_append, T_append]⟩)
          case measure => simp [intOf]
        · go_wp2_with fail
          refine (HM5.out _).mono ?_; rintro e w2 ⟨rfl, rfl⟩
          go_wp2_with fail
          refine (HM4.out _).mono ?_; rintro e w2 ⟨rfl, rfl⟩
          go_wp2_with fail
          refine (HM3.out _).mono ?_; rintro e w2 ⟨rfl, rfl⟩
          go_wp2_with fail
          go_round
          case rel => exact .inr (.inr (.inl ⟨rfl, by rw [Prm.tk_3 m 3, T_append, T_append, T_append]⟩))
          case measure => simp [intOf]
        · go_wp2_with fail
          refine (HM2.out _).mono ?_; rintro e w2 ⟨rfl, rfl⟩
          go_wp2_with fail
          refine (HM1.out _).mono ?_; rintro e w2 ⟨rfl, rfl⟩
          go_wp2_with fail
          refine (HM0.out _).mono ?_; rintro e w2 ⟨rfl, rfl⟩
          go_wp2_with fail
          go_round
          case rel => exact .inr (.inr (.inr ⟨rfl, by rw [Prm.tk_3 m 6, T_append, T_append, T_append]⟩))
          case measure => simp [intOf]
        · go_wp2_with fail
          go_ret
          exact ⟨by rw [HF.out]; rfl, b1⟩
end Go.Proofs.Ytjefmjaommpaaaa
