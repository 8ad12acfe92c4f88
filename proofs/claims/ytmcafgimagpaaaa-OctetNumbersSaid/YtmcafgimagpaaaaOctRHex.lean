/- What the reference's Hex returns: Oct.hex. Conditions: the text is short enough for its digits to be counted. -/
import Derived.Test.YtmcafgimagpaaaaOctUnhex
set_option linter.unusedVariables false
namespace Go.Proofs.Ytmcafgimagpaaaa
open Go.RowKit
theorem dg_cut (c : Nat) (h : c < 16) : DG.extract c (c + 1) = T [Oct.dig c] := by
  have : ∀ j : Fin 16, DG.extract j.val (j.val + 1) = T [Oct.dig j.val] := by decide
  exact this ⟨c, h⟩
set_option maxHeartbeats 800000 in
theorem rhex_any (s : ByteArray) (w : World) (hs : s.size ≤ 70368744177664) :
    Calls Try.prog 20 #[.string s] w fun e w' => e = .returned (.string (T (Oct.hex s.data.toList))) ∧ Below w.heap.size w w' := by
  have hsl := size_list s
  go_enter Try.func20, Try.ntmps20
  go_wp2
  go_loopw [3, 4] (fun v i wr => ∃ (j : Nat), j ≤ s.size ∧ i = .int .i64 j ∧ v = .string (T (Oct.hex (s.data.toList.take j))) ∧ Below w.heap.size w wr) (fun _ i _ => s.size - (intOf i).toNat)
  case atStart => exact ⟨0, by omega, rfl, rfl, Below.refl _ _⟩
  case round =>
    obtain ⟨j, hj, rfl, rfl, hb⟩ := hrel
    by_cases hlt : j < s.size
    · have hbb : (s[j].toNat : Int) < 256 := by have := UInt8.toNat_lt s[j]; omega
      have hq1 : (0 : Int) ≤ (s[j].toNat : Int) / 16 := by omega
      have hq2 : (s[j].toNat : Int) / 16 < 16 := by omega
      have hq3 : (0 : Int) ≤ (s[j].toNat : Int) % 16 := by omega
      have hq4 : (s[j].toNat : Int) % 16 < 16 := by omega
      have hw1 : IntKind.i64.wrap ((s[j].toNat : Int) / 16 + 1) = (s[j].toNat : Int) / 16 + 1 := IntWalk.i64_in _ (by omega)
      have hw2 : IntKind.i64.wrap ((s[j].toNat : Int) % 16 + 1) = (s[j].toNat : Int) % 16 + 1 := IntWalk.i64_in _ (by omega)
      have hx1 := dg_cut (s[j].toNat / 16) (by omega)
      have hx2 := dg_cut (s[j].toNat % 16) (by omega)
      have hl : (Oct.hex (s.data.toList.take j)).length ≤ 2 * s.size := by rw [Oct.hex_length, List.length_take]; omega
      have ha1 := fun w : World => add_T w (Oct.hex (s.data.toList.take j)) [Oct.dig (s[j].toNat / 16)] (by simp; omega)
      have ha2 := fun w : World => add_T w (Oct.hex (s.data.toList.take j) ++ [Oct.dig (s[j].toNat / 16)]) [Oct.dig (s[j].toNat % 16)] (by simp; omega)
      have hF : Oct.hex (s.data.toList.take (j + 1)) = Oct.hex (s.data.toList.take j) ++ [Oct.dig (s[j].toNat / 16)] ++ [Oct.dig (s[j].toNat % 16)] := by
        rw [take_snoc s.data.toList j (by rw [hsl]; exact hlt), Oct.hex_append, List.append_assoc]
        rfl
      have HF := Lib.hid hF
      clear hF
      go_wp2
      go_quiet (fail)
      clear hw1 hw2
      go_wp2
      go_roundw
      case rel => exact ⟨j + 1, by omega, by go_num, by rw [HF.out, List.append_assoc]; rfl, below_drewN hb _⟩
      case measure => simp [intOf]; omega
    · obtain rfl : j = s.size := by omega
      rw [List.take_of_length_le (by rw [hsl]; exact Nat.le_refl _)]
      go_wp2
      go_ret
      exact ⟨rfl, hb⟩
end Go.Proofs.Ytmcafgimagpaaaa
