/- What hash.Text and hash.Parse return. Conditions: texts of at most 10^6 bytes. -/
import Derived.Test.YtmcafgimagpaaaaDoorUnhexA
set_option linter.unusedVariables false
set_option linter.unusedSimpArgs false
namespace Go.Proofs.YtmcafgimagpaaaaDoor
open Go.RowKit
namespace Sha
def txt (l : List UInt8) : List UInt8 := if l.length = 32 then Oct.hex l else []
def prsS (l : List UInt8) : List UInt8 := match Oct.unhex l with | some r => if r.length = 32 then r else [] | none => []
def prsE (l : List UInt8) : Int := match Oct.unhex l with | some r => if r.length = 32 then 0 else 2 | none => 2
end Sha

set_option maxHeartbeats 1000000 in
theorem text_T (l : List UInt8) (w : World) (hs : l.length ≤ 1000000) :
    Calls Tryd.prog 17 #[.string (T l)] w fun e w' => e = .returned (.string (T (Sha.txt l))) ∧ Below w.heap.size w w' := by
  by_cases h : l.length = 32
  · have hi : (l.length : Int) = 32 := by omega
    have HF := Lib.hid (show Sha.txt l = Oct.hex l from if_pos h)
    have HC := Lib.hid (hex_any (T l) w (by rw [T_size]; omega))
    clear h
    go_enter Tryd.func17, Tryd.ntmps17
    go_wp2_with fail
    refine HC.out.mono ?_; rintro e w1 ⟨rfl, h1⟩
    go_wp2_with fail
    go_ret
    exact ⟨by rw [HF.out]; rfl, h1⟩
  · have hi : ¬ (l.length : Int) = 32 := by omega
    have HF := Lib.hid (show Sha.txt l = [] from if_neg h)
    clear h
    go_enter Tryd.func17, Tryd.ntmps17
    go_wp2_with fail
    go_ret
    exact ⟨by rw [HF.out]; rfl, Below.refl _ _⟩

set_option maxHeartbeats 1000000 in
theorem parse_T (l : List UInt8) (w : World) (hs : l.length ≤ 1000000) :
    Calls Tryd.prog 15 #[.string (T l)] w fun e w' => e = .returned (.tuple #[.string (T (Sha.prsS l)), .int .i64 (Sha.prsE l)]) ∧ Below w.heap.size w w' := by
  have HC := Lib.hid (unhex_any (T l) w (by rw [T_size]; omega))
  unfold UnhexSays at HC
  simp only [T_list] at HC
  cases hu : Oct.unhex l with
  | none =>
    have HF : Sha.prsS l = [] ∧ Sha.prsE l = 2 := by unfold Sha.prsS Sha.prsE; rw [hu]; exact ⟨rfl, rfl⟩
    have HFF := Lib.hid HF
    clear HF
    simp only [hu] at HC
    clear hu
    go_enter Tryd.func15, Tryd.ntmps15
    go_wp2_with fail
    refine HC.out.mono ?_; rintro e w1 ⟨rfl, h1⟩
    go_wp2_with fail
    go_ret2
    exact ⟨by rw [HFF.out.1, HFF.out.2]; rfl, h1⟩
  | some r =>
    simp only [hu] at HC
    by_cases h : r.length = 32
    · have HF : Sha.prsS l = r ∧ Sha.prsE l = 0 := by unfold Sha.prsS Sha.prsE; rw [hu]; exact ⟨if_pos h, if_pos h⟩
      have HFF := Lib.hid HF
      have hi : (r.length : Int) = 32 := by omega
      clear HF h hu
      go_enter Tryd.func15, Tryd.ntmps15
      go_wp2_with fail
      refine HC.out.mono ?_; rintro e w1 ⟨rfl, h1⟩
      go_wp2_with fail
      go_ret2
      exact ⟨by rw [HFF.out.1, HFF.out.2]; rfl, h1⟩
    · have HF : Sha.prsS l = [] ∧ Sha.prsE l = 2 := by unfold Sha.prsS Sha.prsE; rw [hu]; exact ⟨if_neg h, if_neg h⟩
      have HFF := Lib.hid HF
      have hi : ¬ (r.length : Int) = 32 := by omega
      clear HF h hu
      go_enter Tryd.func15, Tryd.ntmps15
      go_wp2_with fail
      refine HC.out.mono ?_; rintro e w1 ⟨rfl, h1⟩
      go_wp2_with fail
      go_ret2
      exact ⟨by rw [HFF.out.1, HFF.out.2]; rfl, h1⟩
end Go.Proofs.YtmcafgimagpaaaaDoor
