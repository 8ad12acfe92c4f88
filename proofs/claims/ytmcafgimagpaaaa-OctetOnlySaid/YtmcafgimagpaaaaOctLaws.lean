/- The five statements about layer 2 return true, whatever they are given, and write nothing that was there. Conditions: the arguments are ints and texts. -/
import Derived.Test.YtmcafgimagpaaaaOctAlive
set_option linter.unusedVariables false
namespace Go.Proofs.Ytmcafgimagpaaaa
open Go.RowKit

set_option maxHeartbeats 1000000 in
theorem numbers_any (n wd : Int) (s : ByteArray) (at_ : Int) (w : World) (hn : n ≤ 9223372036854775807) (hs : s.size ≤ 9223372036854775807) :
    Calls Try.prog 3 #[.int .i64 n, .int .i64 wd, .string s, .int .i64 at_] w fun e w' => e = .returned (.bool true) ∧ Below w.heap.size w w' := by
  by_cases h : (1000 : Int) < s.size
  · go_enter Try.func3, Try.ntmps3
    go_wp2_with fail
    refine (alive_any _).mono ?_; rintro e w1 ⟨rfl, hb1⟩
    go_wp2_with fail
    go_ret
    exact ⟨rfl, hb1⟩
  · go_enter Try.func3, Try.ntmps3
    go_wp2_with fail
    refine (put_any _ _ _ hn).mono ?_; rintro e w1 ⟨rfl, hb1⟩
    go_wp2_with fail
    refine (rput_any _ _ _ hn).mono ?_; rintro e w2 ⟨rfl, hb2⟩
    go_wp2_with fail
    refine (get_any _ _ _ _ hs).mono ?_; rintro e w3 ⟨rfl, rfl⟩
    go_wp2_with fail
    refine (rget_any _ _ _ _ hs).mono ?_; rintro e w4 ⟨rfl, rfl⟩
    go_wp2_with fail
    refine (alive_any _).mono ?_; rintro e w5 ⟨rfl, hb5⟩
    go_wp2_with fail
    go_ret
    exact ⟨rfl, bnext (bnext hb1 hb2) hb5⟩

set_option maxHeartbeats 1000000 in
theorem texts_any (s : ByteArray) (at_ : Int) (w : World) (hs : s.size ≤ 9223372036854775807) :
    Calls Try.prog 4 #[.string s, .int .i64 at_] w fun e w' => e = .returned (.bool true) ∧ Below w.heap.size w w' := by
  by_cases h : (70000 : Int) < s.size
  · go_enter Try.func4, Try.ntmps4
    go_wp2_with fail
    refine (alive_any _).mono ?_; rintro e w1 ⟨rfl, hb1⟩
    go_wp2_with fail
    go_ret
    exact ⟨rfl, hb1⟩
  · go_enter Try.func4, Try.ntmps4
    go_wp2_with fail
    refine (pt_any _ _ hs).mono ?_; rintro e w1 ⟨rfl, hb1⟩
    go_wp2_with fail
    refine (rpt_any _ _ hs).mono ?_; rintro e w2 ⟨rfl, hb2⟩
    go_wp2_with fail
    refine (gt_any _ _ _ hs).mono ?_; rintro e w3 ⟨rfl, rfl⟩
    go_wp2_with fail
    refine (rgt_any _ _ _ hs).mono ?_; rintro e w4 ⟨rfl, rfl⟩
    go_wp2_with fail
    refine (alive_any _).mono ?_; rintro e w5 ⟨rfl, hb5⟩
    go_wp2_with fail
    go_ret
    exact ⟨rfl, bnext (bnext hb1 hb2) hb5⟩

theorem numbers_wf (n wd : Int) (s : ByteArray) (at_ : Int) (w : World) (hn : (Lit.int .i64 n).wf = true) (_ : (Lit.int .i64 wd).wf = true) (hs : s.size ≤ maxLen) (_ : (Lit.int .i64 at_).wf = true) :
    Calls Try.prog 3 #[.int .i64 n, .int .i64 wd, .string s, .int .i64 at_] w fun e w' => e = .returned (.bool true) ∧ Below w.heap.size w w' :=
  numbers_any n wd s at_ w (i64s n hn).2 (by unfold maxLen at hs; omega)
theorem texts_wf (s : ByteArray) (at_ : Int) (w : World) (hs : s.size ≤ maxLen) (_ : (Lit.int .i64 at_).wf = true) :
    Calls Try.prog 4 #[.string s, .int .i64 at_] w fun e w' => e = .returned (.bool true) ∧ Below w.heap.size w w' :=
  texts_any s at_ w (by unfold maxLen at hs; omega)
end Go.Proofs.Ytmcafgimagpaaaa
