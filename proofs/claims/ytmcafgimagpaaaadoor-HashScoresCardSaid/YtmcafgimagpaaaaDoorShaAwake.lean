/- What the laws' awake returns: true. Conditions: the 64 constants in the variable. -/
import Derived.Test.YtmcafgimagpaaaaDoorShaForm
set_option linter.unusedVariables false
set_option linter.unusedSimpArgs false
namespace Go.Proofs.YtmcafgimagpaaaaDoor
open Go.RowKit
namespace Sha
def D1 : List UInt8 := [98, 97, 55, 56, 49, 54, 98, 102, 56, 102, 48, 49, 99, 102, 101, 97, 52, 49, 52, 49, 52, 48, 100, 101, 53, 100, 97, 101, 50, 50, 50, 51, 98, 48, 48, 51, 54, 49, 97, 51, 57, 54, 49, 55, 55, 97, 57, 99, 98, 52, 49, 48, 102, 102, 54, 49, 102, 50, 48, 48, 49, 53, 97, 100]
def D2 : List UInt8 := [53, 98, 100, 99, 99, 49, 52, 54, 98, 102, 54, 48, 55, 53, 52, 101, 54, 97, 48, 52, 50, 52, 50, 54, 48, 56, 57, 53, 55, 53, 99, 55, 53, 97, 48, 48, 51, 102, 48, 56, 57, 100, 50, 55, 51, 57, 56, 51, 57, 100, 101, 99, 53, 56, 98, 57, 54, 52, 101, 99, 51, 56, 52, 51]
def jefe : List UInt8 := [74, 101, 102, 101]
def what : List UInt8 := [119, 104, 97, 116, 32, 100, 111, 32, 121, 97, 32, 119, 97, 110, 116, 32, 102, 111, 114, 32, 110, 111, 116, 104, 105, 110, 103, 63]
theorem a1 : prsS D1 = sum [97, 98, 99] := by decide +kernel
theorem a2 : prsE D1 = 0 := by decide +kernel
theorem a3 : txt (sum [97, 98, 99]) = D1 := by decide +kernel
theorem a4 : txt (mac jefe what) = D2 := by decide +kernel
theorem a5 : kb 97 = 97 := by decide
end Sha

set_option maxRecDepth 100000 in
set_option maxHeartbeats 1000000 in
theorem awake_any (w : World) (hK : KIn w) :
    Calls Tryd.prog 9 #[] w fun e w' => e = .returned (.bool true) ∧ Below w.heap.size w w' := by
  have HK := Lib.hid hK
  have h1 : ∀ w, Calls Tryd.prog 15 #[.string (T Sha.D1)] w fun e w' => e = .returned (.tuple #[.string (T (Sha.sum [97, 98, 99])), .int .i64 0]) ∧ Below w.heap.size w w' := fun w => by
    have := parse_T Sha.D1 w (by decide); rw [Sha.a1, Sha.a2] at this; exact this
  have h2 : ∀ w, KIn w → Calls Tryd.prog 10 #[.string (T [97, 98, 99])] w fun e w' => e = .returned (.string (T (Sha.sum [97, 98, 99]))) ∧ Below w.heap.size w w' := fun w h => sum_T _ w (by decide) h
  have h3 : ∀ w, Calls Tryd.prog 17 #[.string (T (Sha.sum [97, 98, 99]))] w fun e w' => e = .returned (.string (T Sha.D1)) ∧ Below w.heap.size w w' := fun w => by
    have := text_T (Sha.sum [97, 98, 99]) w (by rw [Sha.sum_length]; omega); rw [Sha.a3] at this; exact this
  have h4 : ∀ w, KIn w → Calls Tryd.prog 12 #[.string (T Sha.jefe), .string (T Sha.what)] w fun e w' => e = .returned (.string (T (Sha.mac Sha.jefe Sha.what))) ∧ Below w.heap.size w w' := fun w h => mac_T _ _ w (by decide) (by decide) h
  have h5 : ∀ w, Calls Tryd.prog 17 #[.string (T (Sha.mac Sha.jefe Sha.what))] w fun e w' => e = .returned (.string (T Sha.D2)) ∧ Below w.heap.size w w' := fun w => by
    have := text_T (Sha.mac Sha.jefe Sha.what) w (by rw [Sha.mac_length]; omega); rw [Sha.a4] at this; exact this
  have h6 : ∀ w, KIn w → Calls Tryd.prog 14 #[.int .i64 97, .string (T [98, 99])] w fun e w' => e = .returned (.string (T (Sha.sum [97, 98, 99]))) ∧ Below w.heap.size w w' := fun w h => by
    have := score_T 97 [98, 99] w (by decide) h; rw [Sha.a5] at this; exact this
  have hl : (Sha.sum [97, 98, 99]).length = 32 := Sha.sum_length _
  generalize Sha.sum [97, 98, 99] = SB at *
  generalize Sha.mac Sha.jefe Sha.what = MB at *
  have H1 := Lib.hid h1
  have H2 := Lib.hid h2
  have H3 := Lib.hid h3
  have H4 := Lib.hid h4
  have H5 := Lib.hid h5
  have H6 := Lib.hid h6
  clear h1 h2 h3 h4 h5 h6 hK
  go_enter Tryd.func9, Tryd.ntmps9
  go_wp2_with fail
  refine (H1.out _).mono ?_; rintro e w1 ⟨rfl, b1⟩
  go_wp2_with fail
  refine (H2.out _ (HK.out.below b1)).mono ?_; rintro e w2 ⟨rfl, b2⟩
  replace b2 := bnext b1 b2
  clear b1
  go_wp2_with fail
  refine (H3.out _).mono ?_; rintro e w3 ⟨rfl, b3⟩
  replace b3 := bnext b2 b3
  clear b2
  go_wp2_with fail
  refine (H4.out _ (HK.out.below b3)).mono ?_; rintro e w4 ⟨rfl, b4⟩
  replace b4 := bnext b3 b4
  clear b3
  go_wp2_with fail
  refine (H5.out _).mono ?_; rintro e w5 ⟨rfl, b5⟩
  replace b5 := bnext b4 b5
  clear b4
  go_wp2_with fail
  refine (H6.out _ (HK.out.below b5)).mono ?_; rintro e w6 ⟨rfl, b6⟩
  replace b6 := bnext b5 b6
  clear b5
  go_wp2_with fail
  go_ret
  exact ⟨rfl, b6⟩
end Go.Proofs.YtmcafgimagpaaaaDoor
