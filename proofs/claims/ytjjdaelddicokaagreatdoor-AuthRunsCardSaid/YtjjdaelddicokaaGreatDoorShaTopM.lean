/- What hash.Mac returns. Conditions: texts of at most 10^6 bytes, the 64 constants in the variable. -/
import Derived.Test.YtjjdaelddicokaaGreatDoorShaMac
set_option linter.unusedVariables false
namespace Go.Proofs.YtjjdaelddicokaaGreatDoor
open Go.RowKit

theorem sum_T (l : List UInt8) (w : World) (hs : l.length ≤ 1000000000) (hK : KIn w) :
    Calls Tryz.prog 79 #[.string (T l)] w fun e w' => e = .returned (.string (T (Sha.sum l))) ∧ Below w.heap.size w w' :=
  sum_any (T l) w (by rw [T_size]; exact hs) hK
theorem msk_T (l : List UInt8) (x : UInt8) (z : Int) (hz : z = (x.toNat : Int)) (w : World) (hs : l.length ≤ 64) :
    Calls Tryz.prog 80 #[.string (T l), .int .u8 z] w fun e w' => e = .returned (.string (T (Sha.msk l x))) ∧ Below w.heap.size w w' :=
  msk_any (T l) x z hz w (by rw [T_size]; exact hs)

set_option maxRecDepth 100000 in
set_option maxHeartbeats 1000000 in
theorem mac_T (k s : List UInt8) (w : World) (hk : k.length ≤ 1000000) (hs : s.length ≤ 1000000) (hK : KIn w) :
    Calls Tryz.prog 69 #[.string (T k), .string (T s)] w fun e w' => e = .returned (.string (T (Sha.mac k s))) ∧ Below w.heap.size w w' := by
  have HK := Lib.hid hK
  have HM := Lib.hid (show Sha.mac k s = Sha.sum (Sha.msk (Sha.key k) 92 ++ Sha.sum (Sha.msk (Sha.key k) 54 ++ s)) from rfl)
  have HL := Lib.hid (Sha.key_length k)
  have HS := Lib.hid hs
  have HKL := Lib.hid hk
  have HT := Lib.hid (fun (K : List UInt8) (hKe : Sha.key k = K) (w2 : World) (hb : Below w.heap.size w w2) => (⟨hKe ▸ Sha.key_length k, hKe ▸ HM.out⟩ : K.length ≤ 64 ∧ Sha.mac k s = Sha.sum (Sha.msk K 92 ++ Sha.sum (Sha.msk K 54 ++ s))))
  clear hK hs
  by_cases h64 : 64 < k.length
  · have hkey : Sha.key k = Sha.sum k := by unfold Sha.key; rw [if_pos h64]
    have hi : (64 : Int) < (k.length : Int) := by omega
    have HF := Lib.hid (show Sha.mac k s = Sha.sum (Sha.msk (Sha.sum k) 92 ++ Sha.sum (Sha.msk (Sha.sum k) 54 ++ s)) from by rw [HM.out, hkey])
    have b1 : (Sha.msk (Sha.sum k) 54).length + s.length ≤ 9223372036854775807 := by rw [Sha.msk_length]; have := HS.out; omega
    have b2 : (Sha.msk (Sha.sum k) 92).length + (Sha.sum (Sha.msk (Sha.sum k) 54 ++ s)).length ≤ 9223372036854775807 := by rw [Sha.msk_length, Sha.sum_length]; omega
    go_enter Tryz.func69, Tryz.ntmps69
    go_wp2_with fail
    refine (sum_T k w (by omega) HK.out).mono ?_; rintro e w1 ⟨rfl, h1⟩
    go_wp2_with fail
    refine (msk_T (Sha.sum k) 92 92 rfl w1 (by rw [Sha.sum_length]; omega)).mono ?_; rintro e w2 ⟨rfl, h2⟩
    replace h2 := bnext h1 h2
    clear h1
    go_wp2_with fail
    refine (msk_T (Sha.sum k) 54 54 rfl w2 (by rw [Sha.sum_length]; omega)).mono ?_; rintro e w3 ⟨rfl, h3⟩
    replace h3 := bnext h2 h3
    clear h2
    go_wp2_with fail
    try rw [T_append]
    refine (sum_T _ w3 (by rw [List.length_append, Sha.msk_length]; have := HS.out; omega) (HK.out.below h3)).mono ?_; rintro e w4 ⟨rfl, h4⟩
    replace h4 := bnext h3 h4
    clear h3
    go_wp2_with fail
    try rw [T_append]
    refine (sum_T _ w4 (by rw [List.length_append, Sha.msk_length, Sha.sum_length]; omega) (HK.out.below h4)).mono ?_; rintro e w5 ⟨rfl, h5⟩
    replace h5 := bnext h4 h5
    clear h4
    go_wp2_with fail
    go_ret
    exact ⟨by rw [HF.out]; rfl, h5⟩
  · have hkey : Sha.key k = k := by unfold Sha.key; rw [if_neg h64]
    have hi : (k.length : Int) ≤ 64 := by omega
    have HF := Lib.hid (show Sha.mac k s = Sha.sum (Sha.msk k 92 ++ Sha.sum (Sha.msk k 54 ++ s)) from by rw [HM.out, hkey])
    have b1 : (Sha.msk k 54).length + s.length ≤ 9223372036854775807 := by rw [Sha.msk_length]; have := HS.out; omega
    have b2 : (Sha.msk k 92).length + (Sha.sum (Sha.msk k 54 ++ s)).length ≤ 9223372036854775807 := by rw [Sha.msk_length, Sha.sum_length]; omega
    go_enter Tryz.func69, Tryz.ntmps69
    go_wp2_with fail
    refine (msk_T k 92 92 rfl w (by omega)).mono ?_; rintro e w2 ⟨rfl, h2⟩
    go_wp2_with fail
    refine (msk_T k 54 54 rfl w2 (by omega)).mono ?_; rintro e w3 ⟨rfl, h3⟩
    replace h3 := bnext h2 h3
    clear h2
    go_wp2_with fail
    try rw [T_append]
    refine (sum_T _ w3 (by rw [List.length_append, Sha.msk_length]; have := HS.out; omega) (HK.out.below h3)).mono ?_; rintro e w4 ⟨rfl, h4⟩
    replace h4 := bnext h3 h4
    clear h3
    go_wp2_with fail
    try rw [T_append]
    refine (sum_T _ w4 (by rw [List.length_append, Sha.msk_length, Sha.sum_length]; omega) (HK.out.below h4)).mono ?_; rintro e w5 ⟨rfl, h5⟩
    replace h5 := bnext h4 h5
    clear h4
    go_wp2_with fail
    go_ret
    exact ⟨by rw [HF.out]; rfl, h5⟩

end Go.Proofs.YtjjdaelddicokaaGreatDoor
