/- What lex.Quote returns: Lx.quote. Conditions: a text of at most 3000 bytes; bytealg.MaxLen holds a number. -/
import Derived.Test.YtfibaopngpfmjaaGreatDoorPxPlain
import Derived.Lib.SplitLaws
set_option linter.unusedVariables false
set_option linter.unusedSimpArgs false
namespace Go.Proofs.YtfibaopngpfmjaaGreatDoor
open Go.RowKit Go.Proofs
theorem replace_calls (s : List UInt8) (m : Int) (W : World) (hs : s.length ≤ 3000) (hm : W.cell? ⟨0, 0, none⟩ = some (.int .i64 m)) :
    Calls Tryz.prog 19 #[.string (T s), .string (T [39]), .string (T [39, 39])] W fun e w' => e = .returned (.string (T (Lx.esc s))) ∧ Below W.heap.size W w' := by
  have hsz := T_size s
  have h2 : (T [39, 39]).size = 2 := rfl
  have h1 : (T [39]).size = 1 := rfl
  have hc := Lib.countB_le (T [39]) (by rw [h1]; exact Nat.le_refl _) (T s).size (T s) (Nat.le_refl _)
  have := strings_ReplaceAll (T s) (T [39]) (T [39, 39]) m W (by omega) hm (by rw [h1]; exact Nat.le_refl _) (by rw [h2]; omega)
  rw [T_list, T_list, T_list, Lx.replace_quote] at this
  exact this
set_option maxRecDepth 100000 in
set_option maxHeartbeats 1000000 in
theorem quote_any (s : List UInt8) (m : Int) (w : World) (hs : s.length ≤ 3000) (hm : w.cell? ⟨0, 0, none⟩ = some (.int .i64 m)) (h0 : 0 < w.heap.size) :
    Calls Tryz.prog 7 #[.string (T s)] w fun e w' => e = .returned (.string (T (Lx.quote s))) ∧ Below w.heap.size w w' := by
  have HP := Lib.hid (plain_any s w (by omega))
  have HR := Lib.hid (fun (W : World) hm => replace_calls s m W hs hm)
  have HF : RowKit.Hid (Lx.quote s = if Lx.plain s then s else 39 :: (Lx.esc s ++ [39])) := Lib.hid rfl
  have HM := Lib.hid hm
  have hel := Lx.esc_le s
  have hn1 : ¬ 9223372036854775807 < 1 + (Lx.esc s).length := by omega
  have hn2 : ¬ 9223372036854775807 < 1 + (Lx.esc s).length + 1 := by omega
  clear hel
  clear hm hs
  generalize Lx.plain s = p at *
  cases p with
  | true =>
    go_enter Tryz.func7, Tryz.ntmps7
    go_wp2_with fail
    (with_reducible refine HP.out.mono ?_); rintro e w1 ⟨rfl, b1⟩
    have HB := Lib.hid b1
    clear b1
    go_wp2_with fail
    go_ret
    exact ⟨by rw [HF.out]; rfl, HB.out⟩
  | false =>
    go_enter Tryz.func7, Tryz.ntmps7
    go_wp2_with fail
    (with_reducible refine HP.out.mono ?_); rintro e w1 ⟨rfl, b1⟩
    have HB := Lib.hid b1
    have HM1 := Lib.hid ((b1.cell (p := ⟨0, 0, none⟩) h0).trans HM.out)
    clear b1
    go_wp2_with fail
    (with_reducible refine (HR.out _ HM1.out).mono ?_); rintro e w2 ⟨rfl, b2⟩
    have HB2 := Lib.hid (bnext HB.out b2)
    clear b2
    go_wp2_with fail
    go_ret
    refine ⟨?_, HB2.out⟩
    have e1 : T [39] ++ T (Lx.esc s) ++ T [39] = T (39 :: (Lx.esc s ++ [39])) := by rw [T_append, T_append]; rfl
    rw [HF.out]
    exact congrArg (fun x => Ending.returned (Value.string x)) e1
end Go.Proofs.YtfibaopngpfmjaaGreatDoor
