/- What the scanner's blanks does: it skips a blank. Conditions: a program of at most 10000 bytes; at most one blank. -/
import Derived.Test.YtfibaopngpfmjaaGreatDoorPxScan
import Derived.LoopN
import Derived.Maps.AppendAt
set_option linter.unusedVariables false
set_option linter.unusedSimpArgs false
namespace Go.Proofs.YtfibaopngpfmjaaGreatDoor
open Go.RowKit
theorem below_grownBy {w w' : World} (h : Below w.heap.size w w') (row : Option Nat) : w.grownBy w' row := ⟨h.os, h.tape, h.output, h.size, fun k hk _ => h.block k hk⟩
theorem grown_setG {W W' : World} {p : Nat} (h : W.grownBy W' (some p)) (o : Nat) (u : Value) : W.grownBy (W'.setCell ⟨p, o, none⟩ u) (some p) :=
  ⟨h.os, h.tape, h.output, by simpa using h.size, fun i hi hn => by rw [Below.heap_setCell _ _ _ _ (fun e => hn (by rw [e]))]; exact h.block i hi hn⟩
/-- What follows is no blank. -/
def Lx.free (r : List UInt8) : Prop := Go.Lib.hasPrefix r [32] = false ∧ Go.Lib.hasPrefix r [9] = false ∧ Go.Lib.hasPrefix r [92, 10] = false
theorem hp_any (r p : List UInt8) (W : World) : Calls Tryz.prog 40 #[.string (T r), .string (T p)] W fun e w' => e = .returned (.bool (Lib.hasPrefix r p)) ∧ w' = W := strings_HasPrefix (T r) (T p) W
set_option maxHeartbeats 2000000 in
theorem blanks_none (g : Nat) (s : List UInt8) (at_ en : Nat) (tv : Value) (w : World) (h : ScRow w g s at_ en tv) (ha : at_ ≤ s.length) (hs : s.length ≤ 10000) (hf : Lx.free (s.drop at_)) :
    Calls Tryz.prog 36 #[.pointer (some ⟨g, 0, none⟩)] w fun e w' => e = .returned (.tuple #[]) ∧ Below w.heap.size w w' := by
  have HR := Lib.hid (rest_any g s at_ en tv w h ha hs)
  have HP := Lib.hid (fun (W : World) => hp_any (s.drop at_) [32] W)
  have HQ := Lib.hid (fun (W : World) => hp_any (s.drop at_) [9] W)
  have HE := Lib.hid (fun (W : World) => hp_any (s.drop at_) [92, 10] W)
  rw [hf.1] at HP
  rw [hf.2.1] at HQ
  rw [hf.2.2] at HE
  clear h hf
  generalize s.drop at_ = r at *
  go_enter Tryz.func36, Tryz.ntmps36
  go_wp2_with fail
  refine wp_loop_rounds 1 ?_
  rw [rounds_succ]
  go_wp2_with fail
  (with_reducible refine HR.out.mono ?_); rintro e w1 ⟨rfl, b1⟩
  have HB := Lib.hid b1
  clear b1
  go_wp2_with fail
  (with_reducible refine (HP.out _).mono ?_); rintro e w2 ⟨rfl, rfl⟩
  go_wp2_with fail
  (with_reducible refine (HQ.out _).mono ?_); rintro e w2 ⟨rfl, rfl⟩
  go_wp2_with fail
  (with_reducible refine (HE.out _).mono ?_); rintro e w2 ⟨rfl, rfl⟩
  go_wp2_with fail
  refine bodyPost_ret (results_none rfl _ _ _) rfl ?_
  exact ⟨rfl, HB.out⟩
set_option maxHeartbeats 4000000 in
theorem blanks_one (g : Nat) (s : List UInt8) (at_ en : Nat) (tv : Value) (w : World) (h : ScRow w g s at_ en tv) (ha : at_ + 1 ≤ s.length) (hs : s.length ≤ 10000) (h1 : Go.Lib.hasPrefix (s.drop at_) [32] = true) (hf : Lx.free (s.drop (at_ + 1))) :
    Calls Tryz.prog 36 #[.pointer (some ⟨g, 0, none⟩)] w fun e w' => e = .returned (.tuple #[]) ∧ ScRow w' g s (at_ + 1) en tv ∧ w.grownBy w' (some g) := by
  have HR := Lib.hid (rest_any g s at_ en tv w h (by omega) hs)
  have HR2 := Lib.hid (fun (W : World) (h : ScRow W g s (at_ + 1) en tv) => rest_any g s (at_ + 1) en tv W h ha hs)
  have HP1 := Lib.hid (fun (W : World) => hp_any (s.drop at_) [32] W)
  have HP := Lib.hid (fun (W : World) => hp_any (s.drop (at_ + 1)) [32] W)
  have HQ := Lib.hid (fun (W : World) => hp_any (s.drop (at_ + 1)) [9] W)
  have HE := Lib.hid (fun (W : World) => hp_any (s.drop (at_ + 1)) [92, 10] W)
  rw [h1] at HP1
  rw [hf.1] at HP
  rw [hf.2.1] at HQ
  rw [hf.2.2] at HE
  have HS := Lib.hid h
  have hc1 : ((at_ + 1 : Nat) : Int) = (at_ : Int) + 1 := by omega
  clear h hf h1
  generalize s.drop at_ = r at *
  generalize s.drop (at_ + 1) = r2 at *
  go_enter Tryz.func36, Tryz.ntmps36
  go_wp2_with fail
  refine wp_loop_rounds 2 ?_
  rw [rounds_succ]
  go_wp2_with fail
  (with_reducible refine HR.out.mono ?_); rintro e w1 ⟨rfl, b1⟩
  have HS1 := Lib.hid (HS.out.next b1)
  have HG1 := Lib.hid (below_grownBy b1 (some g))
  clear b1
  go_wp2_with fail
  (with_reducible refine (HP1.out _).mono ?_); rintro e w2 ⟨rfl, rfl⟩
  obtain ⟨⟨r0, r1, _⟩, f1, _⟩ := HS1.out.reads
  go_wp2_with fail
  have hset := HS1.out.setAt (at_ + 1)
  rw [hc1] at hset
  have HS2 := Lib.hid hset
  have HG2 := Lib.hid (grown_setG HG1.out 1 (.int .i64 ((at_ : Int) + 1)))
  clear hset r0 r1 f1
  generalize World.setCell _ _ _ = w3 at *
  rw [rounds_succ]
  go_wp2_with fail
  (with_reducible refine (HR2.out _ HS2.out).mono ?_); rintro e w4 ⟨rfl, b4⟩
  have HS4 := Lib.hid (HS2.out.next b4)
  have HG4 := Lib.hid (HG2.out.trans (below_grownBy b4 (some g)))
  clear b4
  go_wp2_with fail
  (with_reducible refine (HP.out _).mono ?_); rintro e w5 ⟨rfl, rfl⟩
  go_wp2_with fail
  (with_reducible refine (HQ.out _).mono ?_); rintro e w5 ⟨rfl, rfl⟩
  go_wp2_with fail
  (with_reducible refine (HE.out _).mono ?_); rintro e w5 ⟨rfl, rfl⟩
  go_wp2_with fail
  refine bodyPost_ret (results_none rfl _ _ _) rfl ?_
  exact ⟨rfl, HS4.out, HG4.out⟩
end Go.Proofs.YtfibaopngpfmjaaGreatDoor
