/- The walk of the law HashKeys: true at every pair of texts. Conditions: the 64 constants in the variable. -/
import Derived.Test.YtmcafgimagpaaaaDoorShaInv
set_option linter.unusedVariables false
set_option linter.unusedSimpArgs false
namespace Go.Proofs.YtmcafgimagpaaaaDoor
open Go.RowKit
theorem mac_sum (k s : List UInt8) (h : 64 < k.length) : Sha.mac (Sha.sum k) s = Sha.mac k s := by
  have e1 : Sha.key (Sha.sum k) = Sha.sum k := by unfold Sha.key; rw [if_neg (by rw [Sha.sum_length]; omega)]
  have e2 : Sha.key k = Sha.sum k := by unfold Sha.key; rw [if_pos h]
  unfold Sha.mac; rw [e1, e2]
theorem msk_zero (k : List UInt8) (x : UInt8) (h : k.length < 64) : Sha.msk (k ++ [0]) x = Sha.msk k x := by
  unfold Sha.msk
  congr 1
  have e : k ++ [0] ++ List.replicate 64 0 = k ++ List.replicate 65 (0 : UInt8) := by rw [List.append_assoc]; rfl
  rw [e]
  simp only [List.take_append, List.take_replicate]
  have e2 : min (64 - k.length) 65 = min (64 - k.length) 64 := by omega
  rw [e2]
theorem mac_zero (k s : List UInt8) (h : k.length < 64) : Sha.mac (k ++ [0]) s = Sha.mac k s := by
  have e1 : Sha.key (k ++ [0]) = k ++ [0] := by unfold Sha.key; rw [if_neg (by simp; omega)]
  have e2 : Sha.key k = k := by unfold Sha.key; rw [if_neg (by omega)]
  unfold Sha.mac; rw [e1, e2, msk_zero _ _ h, msk_zero _ _ h]

set_option maxRecDepth 100000 in
set_option maxHeartbeats 1000000 in
theorem keys_T (k s : List UInt8) (w : World) (hK : KIn w) :
    Calls Tryd.prog 8 #[.string (T k), .string (T s)] w fun e w' => e = .returned (.bool true) ∧ Below w.heap.size w w' := by
  have HK := Lib.hid hK
  clear hK
  by_cases hbig : 300 < k.length ∨ 300 < s.length
  · rcases Decidable.em (300 < k.length) with h | h
    · have hi : (300 : Int) < (k.length : Int) := by omega
      go_enter Tryd.func8, Tryd.ntmps8
      go_wp2_with fail
      refine (awake_any _ HK.out).mono ?_; rintro e w1 ⟨rfl, b1⟩
      go_wp2_with fail
      go_ret
      exact ⟨rfl, b1⟩
    · have hi : (k.length : Int) ≤ 300 := by omega
      have hi2 : (300 : Int) < (s.length : Int) := by omega
      go_enter Tryd.func8, Tryd.ntmps8
      go_wp2_with fail
      refine (awake_any _ HK.out).mono ?_; rintro e w1 ⟨rfl, b1⟩
      go_wp2_with fail
      go_ret
      exact ⟨rfl, b1⟩
  · have hi : (k.length : Int) ≤ 300 := by omega
    have hi2 : (s.length : Int) ≤ 300 := by omega
    have H1 := Lib.hid (fun w h => mac_T k s w (by omega) (by omega) h)
    have H2 := Lib.hid (fun w h => sum_T k w (by omega) h)
    have H3 := Lib.hid (fun w h => mac_T (Sha.sum k) s w (by rw [Sha.sum_length]; omega) (by omega) h)
    have H4 := Lib.hid (fun w h => mac_T (k ++ [0]) s w (by simp; omega) (by omega) h)
    rcases Nat.lt_or_ge 64 k.length with h64 | h64
    · have h64i : (64 : Int) < (k.length : Int) := by omega
      rw [mac_sum k s h64] at H3
      clear H4 hbig h64
      generalize Sha.mac k s = M at *
      go_enter Tryd.func8, Tryd.ntmps8
      go_wp2_with fail
      refine (H1.out _ HK.out).mono ?_; rintro e w1 ⟨rfl, b1⟩
      go_wp2_with fail
      refine (H2.out _ (HK.out.below b1)).mono ?_; rintro e w2 ⟨rfl, b2⟩
      replace b2 := bnext b1 b2
      clear b1
      go_wp2_with fail
      refine (H3.out _ (HK.out.below b2)).mono ?_; rintro e w3 ⟨rfl, b3⟩
      replace b3 := bnext b2 b3
      clear b2
      go_wp2_with fail
      refine (awake_any _ (HK.out.below b3)).mono ?_; rintro e w5 ⟨rfl, b5⟩
      replace b5 := bnext b3 b5
      clear b3
      go_wp2_with fail
      go_ret
      exact ⟨rfl, b5⟩
    · have h64i : (k.length : Int) ≤ 64 := by omega
      rcases Nat.lt_or_ge k.length 64 with h6 | h6
      · have h6i : (k.length : Int) < 64 := by omega
        rw [mac_zero k s h6] at H4
        clear H2 H3 hbig h64
        generalize Sha.mac k s = M at *
        have b0 : k.length + 1 ≤ 9223372036854775807 := by omega
        clear h6
        go_enter Tryd.func8, Tryd.ntmps8
        go_wp2_with fail
        refine (H1.out _ HK.out).mono ?_; rintro e w1 ⟨rfl, b1⟩
        go_wp2_with fail
        refine (H4.out _ (HK.out.below b1)).mono ?_; rintro e w3 ⟨rfl, b3⟩
        replace b3 := bnext b1 b3
        clear b1
        go_wp2_with fail
        refine (awake_any _ (HK.out.below b3)).mono ?_; rintro e w5 ⟨rfl, b5⟩
        replace b5 := bnext b3 b5
        clear b3
        go_wp2_with fail
        go_ret
        exact ⟨rfl, b5⟩
      · have h6i : (64 : Int) ≤ (k.length : Int) := by omega
        clear H1 H2 H3 H4 hbig h64 h6
        go_enter Tryd.func8, Tryd.ntmps8
        go_wp2_with fail
        refine (awake_any _ HK.out).mono ?_; rintro e w1 ⟨rfl, b1⟩
        go_wp2_with fail
        go_ret
        exact ⟨rfl, b1⟩
end Go.Proofs.YtmcafgimagpaaaaDoor
