/- The walk of the law HashInverse: true at every text. Conditions: the 64 constants in the variable. -/
import Derived.Test.YtmcafgimagpaaaaDoorShaAwake
set_option linter.unusedVariables false
set_option linter.unusedSimpArgs false
namespace Go.Proofs.YtmcafgimagpaaaaDoor
open Go.RowKit
theorem inv_32 (l : List UInt8) (h : l.length = 32) : Sha.prsS (Sha.txt l) = l ∧ Sha.prsE (Sha.txt l) = 0 := by
  unfold Sha.prsS Sha.prsE Sha.txt
  rw [if_pos h, Oct.unhex_hex]
  exact ⟨if_pos h, if_pos h⟩
theorem inv_no (l : List UInt8) (h : ¬ l.length = 32) : Sha.prsS (Sha.txt l) = [] ∧ Sha.prsE (Sha.txt l) = 2 := by
  unfold Sha.prsS Sha.prsE Sha.txt
  rw [if_neg h]
  decide
theorem prs_cases (l : List UInt8) : (Sha.prsE l = 0 ∧ (Sha.prsS l).length = 32 ∧ Sha.txt (Sha.prsS l) = l) ∨ Sha.prsE l = 2 := by
  unfold Sha.prsS Sha.prsE
  cases hu : Oct.unhex l with
  | none => exact Or.inr rfl
  | some r =>
    by_cases h : r.length = 32
    · simp only [h, if_pos]
      refine Or.inl ⟨trivial, trivial, ?_⟩
      unfold Sha.txt
      rw [if_pos h]
      exact Oct.hex_unhex l.length l r (Nat.le_refl _) hu
    · simp only [h]; exact Or.inr rfl
theorem txt_length (l : List UInt8) (h : l.length ≤ 2000) : (Sha.txt l).length ≤ 4000 := by
  unfold Sha.txt; split
  · rw [Oct.hex_length]; omega
  · simp

set_option maxRecDepth 100000 in
set_option maxHeartbeats 1000000 in
theorem inverse_T (l : List UInt8) (w : World) (hK : KIn w) :
    Calls Tryd.prog 7 #[.string (T l)] w fun e w' => e = .returned (.bool true) ∧ Below w.heap.size w w' := by
  have HK := Lib.hid hK
  clear hK
  by_cases hbig : 2000 < l.length
  · have hi : (2000 : Int) < (l.length : Int) := by omega
    go_enter Tryd.func7, Tryd.ntmps7
    go_wp2_with fail
    refine (awake_any _ HK.out).mono ?_; rintro e w1 ⟨rfl, b1⟩
    go_wp2_with fail
    go_ret
    exact ⟨rfl, b1⟩
  · have hi : (l.length : Int) ≤ 2000 := by omega
    have H1 := Lib.hid (fun w => text_T l w (by omega))
    have H2 := Lib.hid (fun w => parse_T (Sha.txt l) w (by have := txt_length l (by omega); omega))
    have H3 := Lib.hid (fun w => parse_T l w (by omega))
    have HC := prs_cases l
    rcases Decidable.em (l.length = 32) with h32 | h32
    · have h32i : (l.length : Int) = 32 := by omega
      rw [(inv_32 l h32).1, (inv_32 l h32).2] at H2
      rcases HC with ⟨c1, c2, c3⟩ | c1
      · have c2i : ((Sha.prsS l).length : Int) = 32 := by omega
        have H4 := Lib.hid (fun w => text_T (Sha.prsS l) w (by omega))
        rw [c3] at H4
        rw [c1] at H3
        generalize Sha.prsS l = r at *
        clear c1 c2 c3 hbig h32
        go_enter Tryd.func7, Tryd.ntmps7
        go_wp2_with fail
        refine (H1.out _).mono ?_; rintro e w1 ⟨rfl, b1⟩
        go_wp2_with fail
        refine (H2.out _).mono ?_; rintro e w2 ⟨rfl, b2⟩
        replace b2 := bnext b1 b2
        clear b1
        go_wp2_with fail
        refine (H3.out _).mono ?_; rintro e w3 ⟨rfl, b3⟩
        replace b3 := bnext b2 b3
        clear b2
        go_wp2_with fail
        refine (H4.out _).mono ?_; rintro e w4 ⟨rfl, b4⟩
        replace b4 := bnext b3 b4
        clear b3
        go_wp2_with fail
        refine (awake_any _ (HK.out.below b4)).mono ?_; rintro e w5 ⟨rfl, b5⟩
        replace b5 := bnext b4 b5
        clear b4
        go_wp2_with fail
        go_ret
        exact ⟨rfl, b5⟩
      · rw [c1] at H3
        clear c1 hbig h32
        go_enter Tryd.func7, Tryd.ntmps7
        go_wp2_with fail
        refine (H1.out _).mono ?_; rintro e w1 ⟨rfl, b1⟩
        go_wp2_with fail
        refine (H2.out _).mono ?_; rintro e w2 ⟨rfl, b2⟩
        replace b2 := bnext b1 b2
        clear b1
        go_wp2_with fail
        refine (H3.out _).mono ?_; rintro e w3 ⟨rfl, b3⟩
        replace b3 := bnext b2 b3
        clear b2
        go_wp2_with fail
        refine (awake_any _ (HK.out.below b3)).mono ?_; rintro e w5 ⟨rfl, b5⟩
        replace b5 := bnext b3 b5
        clear b3
        go_wp2_with fail
        go_ret
        exact ⟨rfl, b5⟩
    · have h32i : ¬ (l.length : Int) = 32 := by omega
      rw [(inv_no l h32).1, (inv_no l h32).2] at H2
      rcases HC with ⟨c1, c2, c3⟩ | c1
      · have c2i : ((Sha.prsS l).length : Int) = 32 := by omega
        have H4 := Lib.hid (fun w => text_T (Sha.prsS l) w (by omega))
        rw [c3] at H4
        rw [c1] at H3
        generalize Sha.prsS l = r at *
        clear c1 c2 c3 hbig h32
        go_enter Tryd.func7, Tryd.ntmps7
        go_wp2_with fail
        refine (H1.out _).mono ?_; rintro e w1 ⟨rfl, b1⟩
        go_wp2_with fail
        refine (H2.out _).mono ?_; rintro e w2 ⟨rfl, b2⟩
        replace b2 := bnext b1 b2
        clear b1
        go_wp2_with fail
        refine (H3.out _).mono ?_; rintro e w3 ⟨rfl, b3⟩
        replace b3 := bnext b2 b3
        clear b2
        go_wp2_with fail
        refine (H4.out _).mono ?_; rintro e w4 ⟨rfl, b4⟩
        replace b4 := bnext b3 b4
        clear b3
        go_wp2_with fail
        refine (awake_any _ (HK.out.below b4)).mono ?_; rintro e w5 ⟨rfl, b5⟩
        replace b5 := bnext b4 b5
        clear b4
        go_wp2_with fail
        go_ret
        exact ⟨rfl, b5⟩
      · rw [c1] at H3
        clear c1 hbig h32
        go_enter Tryd.func7, Tryd.ntmps7
        go_wp2_with fail
        refine (H1.out _).mono ?_; rintro e w1 ⟨rfl, b1⟩
        go_wp2_with fail
        refine (H2.out _).mono ?_; rintro e w2 ⟨rfl, b2⟩
        replace b2 := bnext b1 b2
        clear b1
        go_wp2_with fail
        refine (H3.out _).mono ?_; rintro e w3 ⟨rfl, b3⟩
        replace b3 := bnext b2 b3
        clear b2
        go_wp2_with fail
        refine (awake_any _ (HK.out.below b3)).mono ?_; rintro e w5 ⟨rfl, b5⟩
        replace b5 := bnext b3 b5
        clear b3
        go_wp2_with fail
        go_ret
        exact ⟨rfl, b5⟩
end Go.Proofs.YtmcafgimagpaaaaDoor
