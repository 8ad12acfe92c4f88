/- What octet.PutText returns: Oct.ptS, Oct.ptE. Conditions: the text is no longer than an int can say. -/
import Derived.Test.YtjjdaelddicokaaGreatDoorOctPut
set_option linter.unusedVariables false
namespace Go.Proofs.YtjjdaelddicokaaGreatDoor
open Go.RowKit
def PtSays (s : ByteArray) (w : World) (e : Ending) (w' : World) : Prop :=
  e = .returned (.tuple #[.string (T (Oct.ptS s.data.toList)), .int .i64 (Oct.ptE s.data.toList)]) ∧ Below w.heap.size w w'

theorem size_list (s : ByteArray) : s.data.toList.length = s.size := by simp
theorem putSays_len (n : Nat) (h : n ≤ 65535) {w : World} {e : Ending} {w' : World} (hp : PutSays (n : Int) 2 w e w') :
    e = .returned (.tuple #[.string (T (Oct.le 2 n)), .int .i64 0]) ∧ Below w.heap.size w w' := by
  have hE : Oct.putE (n : Int) 2 = 0 := by unfold Oct.putE; rw [if_neg (by omega), if_neg]; simp; omega
  have hS : Oct.putS (n : Int) 2 = Oct.le 2 n := by unfold Oct.putS; rw [hE, if_pos rfl]; rfl
  obtain ⟨he, hb⟩ := hp
  rw [hE, hS] at he
  exact ⟨he, hb⟩
theorem putSays_long (n : Nat) (h : 65535 < n) {w : World} {e : Ending} {w' : World} (hp : PutSays (n : Int) 2 w e w') :
    e = .returned (.tuple #[.string (T []), .int .i64 5]) ∧ Below w.heap.size w w' := by
  have hE : Oct.putE (n : Int) 2 = 5 := by unfold Oct.putE; rw [if_neg (by omega), if_pos]; right; simp; omega
  have hS : Oct.putS (n : Int) 2 = [] := by unfold Oct.putS; rw [hE, if_neg (by decide)]
  obtain ⟨he, hb⟩ := hp
  rw [hE, hS] at he
  exact ⟨he, hb⟩
theorem pt_long {s : ByteArray} (h : 65535 < s.size) {w w' : World} (hb : Below w.heap.size w w') : PtSays s w (.returned (.tuple #[.string (T []), .int .i64 4])) w' := by
  unfold PtSays Oct.ptS Oct.ptE; rw [size_list, if_pos h, if_pos h]; exact ⟨rfl, hb⟩
theorem pt_short {s : ByteArray} (h : ¬ 65535 < s.size) {w w' : World} (hb : Below w.heap.size w w') : PtSays s w (.returned (.tuple #[.string (T (Oct.le 2 s.size) ++ s), .int .i64 0])) w' := by
  unfold PtSays Oct.ptS Oct.ptE; rw [size_list, if_neg h, if_neg h]
  conv => lhs; rw [← T_of s, T_append]
  exact ⟨rfl, hb⟩
theorem le2_add (s : ByteArray) (h : s.size ≤ 65535) (w : World) : (Op.stringOp .add (T (Oct.le 2 s.size)) s).run Tryz.prog w = .ok (.string (T (Oct.le 2 s.size) ++ s)) w :=
  run_string_add_sum w _ _ (by rw [T_size, Oct.le_length]; omega)

set_option maxHeartbeats 400000 in
theorem pt_any (s : ByteArray) (w : World) (hs : s.size ≤ 9223372036854775807) : Calls Tryz.prog 66 #[.string s] w (PtSays s w) := by
  by_cases h : 65535 < s.size
  · have hi : (65535 : Int) < s.size := by omega
    have HF := Lib.hid (pt_long h (Below.refl _ w))
    clear h
    go_enter Tryz.func66, Tryz.ntmps66
    go_wp2
    go_ret2
    exact HF.out
  · have hi : ¬ (65535 : Int) < s.size := by omega
    have HF := Lib.hid (fun w' => pt_short h (w := w) (w' := w'))
    have hc := (put_any (s.size : Int) 2 w (by omega)).mono fun e w' hp => putSays_len s.size (by omega) hp
    have HC := Lib.hid hc
    have hadd := le2_add s (by omega)
    clear h hc
    go_enter Tryz.func66, Tryz.ntmps66
    go_wp2_with (go_at_call 77; refine HC.out.mono ?_; rintro e w' ⟨rfl, hb⟩)
    go_ret2
    exact HF.out _ hb

end Go.Proofs.YtjjdaelddicokaaGreatDoor
