/- The walk of the law HashTexts: true at every text. Conditions: the 64 constants in the variable. -/
import Derived.Test.YtmcafgimagpaaaaDoorRefText
import Derived.Test.YtmcafgimagpaaaaDoorShaAgree
set_option linter.unusedVariables false
set_option linter.unusedSimpArgs false
namespace Go.Proofs.YtmcafgimagpaaaaDoor
open Go.RowKit
set_option maxRecDepth 100000 in
set_option maxHeartbeats 1000000 in
theorem texts_T (s : List UInt8) (w : World) (hK : KIn w) :
    Calls Tryd.prog 6 #[.string (T s)] w fun e w' => e = .returned (.bool true) ∧ Below w.heap.size w w' := by
  have HK := Lib.hid hK
  clear hK
  by_cases hbig : 2000 < s.length
  · have hi : (2000 : Int) < (s.length : Int) := by omega
    go_enter Tryd.func6, Tryd.ntmps6
    go_wp2_with fail
    refine (awake_any _ HK.out).mono ?_; rintro e w1 ⟨rfl, b1⟩
    go_wp2_with fail
    go_ret
    exact ⟨rfl, b1⟩
  · have hi : (s.length : Int) ≤ 2000 := by omega
    have H1 := Lib.hid (fun w => parse_T s w (by omega))
    have H2 := Lib.hid (fun w => rparse_T s w)
    have H3 := Lib.hid (fun w => text_T s w (by omega))
    have H4 := Lib.hid (fun w => rtext_T s w)
    generalize Sha.prsS s = M at *
    generalize Sha.prsE s = E at *
    generalize Sha.txt s = X at *
    clear hbig
    go_enter Tryd.func6, Tryd.ntmps6
    go_wp2_with fail
    refine (H1.out _).mono ?_; rintro e w1 ⟨rfl, b1⟩
    go_wp2_with fail
    refine (H2.out _).mono ?_; rintro e w2 ⟨rfl, b2⟩
    replace b2 := bnext b1 b2
    clear b1
    go_wp2_with fail
    refine (H3.out _).mono ?_; rintro e w3 ⟨rfl, b3⟩
    replace b3 := bnext b2 b3
    clear b2
    go_wp2_with fail
    refine (H4.out _).mono ?_; rintro e w4 ⟨rfl, b4⟩
    replace b4 := bnext b3 b4
    clear b3
    go_wp2_with fail
    refine (awake_any _ (HK.out.below b4)).mono ?_; rintro e w5 ⟨rfl, b5⟩
    replace b5 := bnext b4 b5
    clear b4
    go_wp2_with fail
    go_ret
    exact ⟨rfl, b5⟩
end Go.Proofs.YtmcafgimagpaaaaDoor
