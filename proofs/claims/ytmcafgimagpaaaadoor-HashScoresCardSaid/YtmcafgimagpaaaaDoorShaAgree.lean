/- The walks of the laws HashSums and HashMacs: true at every text. Conditions: the 64 constants in the variable. -/
import Derived.Test.YtmcafgimagpaaaaDoorRefMac
import Derived.Test.YtmcafgimagpaaaaDoorShaKeys
set_option linter.unusedVariables false
set_option linter.unusedSimpArgs false
namespace Go.Proofs.YtmcafgimagpaaaaDoor
open Go.RowKit
set_option maxRecDepth 100000 in
set_option maxHeartbeats 1000000 in
theorem sums_T (s : List UInt8) (w : World) (hK : KIn w) :
    Calls Tryd.prog 3 #[.string (T s)] w fun e w' => e = .returned (.bool true) ∧ Below w.heap.size w w' := by
  have HK := Lib.hid hK
  clear hK
  by_cases hbig : 400 < s.length
  · have hi : (400 : Int) < (s.length : Int) := by omega
    go_enter Tryd.func3, Tryd.ntmps3
    go_wp2_with fail
    refine (awake_any _ HK.out).mono ?_; rintro e w1 ⟨rfl, b1⟩
    go_wp2_with fail
    go_ret
    exact ⟨rfl, b1⟩
  · have hi : (s.length : Int) ≤ 400 := by omega
    have H1 := Lib.hid (fun w h => sum_T s w (by omega) h)
    have H2 := Lib.hid (fun w => rsum_T s w (by omega))
    have HL := Sha.sum_length s
    generalize Sha.sum s = M at *
    go_enter Tryd.func3, Tryd.ntmps3
    go_wp2_with fail
    refine (H1.out _ HK.out).mono ?_; rintro e w1 ⟨rfl, b1⟩
    go_wp2_with fail
    refine (H2.out _).mono ?_; rintro e w2 ⟨rfl, b2⟩
    replace b2 := bnext b1 b2
    clear b1
    go_wp2_with fail
    refine (awake_any _ (HK.out.below b2)).mono ?_; rintro e w5 ⟨rfl, b5⟩
    replace b5 := bnext b2 b5
    clear b2
    go_wp2_with fail
    go_ret
    exact ⟨rfl, b5⟩
set_option maxRecDepth 100000 in
set_option maxHeartbeats 1000000 in
theorem macs_T (k s : List UInt8) (w : World) (hK : KIn w) :
    Calls Tryd.prog 4 #[.string (T k), .string (T s)] w fun e w' => e = .returned (.bool true) ∧ Below w.heap.size w w' := by
  have HK := Lib.hid hK
  clear hK
  by_cases hbig : 300 < k.length ∨ 300 < s.length
  · rcases Decidable.em (300 < k.length) with h | h
    · have hi : (300 : Int) < (k.length : Int) := by omega
      go_enter Tryd.func4, Tryd.ntmps4
      go_wp2_with fail
      refine (awake_any _ HK.out).mono ?_; rintro e w1 ⟨rfl, b1⟩
      go_wp2_with fail
      go_ret
      exact ⟨rfl, b1⟩
    · have hi : (k.length : Int) ≤ 300 := by omega
      have hi2 : (300 : Int) < (s.length : Int) := by omega
      go_enter Tryd.func4, Tryd.ntmps4
      go_wp2_with fail
      refine (awake_any _ HK.out).mono ?_; rintro e w1 ⟨rfl, b1⟩
      go_wp2_with fail
      go_ret
      exact ⟨rfl, b1⟩
  · have hi : (k.length : Int) ≤ 300 := by omega
    have hi2 : (s.length : Int) ≤ 300 := by omega
    have H1 := Lib.hid (fun w h => mac_T k s w (by omega) (by omega) h)
    have H2 := Lib.hid (fun w => rmac_T k s w (by omega) (by omega))
    have HL : (Sha.mac k s).length = 32 := by unfold Sha.mac; exact Sha.sum_length _
    generalize Sha.mac k s = M at *
    clear hbig
    go_enter Tryd.func4, Tryd.ntmps4
    go_wp2_with fail
    refine (H1.out _ HK.out).mono ?_; rintro e w1 ⟨rfl, b1⟩
    go_wp2_with fail
    refine (H2.out _).mono ?_; rintro e w2 ⟨rfl, b2⟩
    replace b2 := bnext b1 b2
    clear b1
    go_wp2_with fail
    refine (awake_any _ (HK.out.below b2)).mono ?_; rintro e w5 ⟨rfl, b5⟩
    replace b5 := bnext b2 b5
    clear b2
    go_wp2_with fail
    go_ret
    exact ⟨rfl, b5⟩
end Go.Proofs.YtmcafgimagpaaaaDoor
