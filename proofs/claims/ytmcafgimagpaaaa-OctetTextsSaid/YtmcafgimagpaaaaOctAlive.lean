/- The examples of the chapter, as the statements of layer 2 check them: they all hold. Conditions: none. -/
import Derived.Test.YtmcafgimagpaaaaOctText
import Derived.Test.YtmcafgimagpaaaaOctRHex
set_option linter.unusedVariables false
namespace Go.Proofs.Ytmcafgimagpaaaa
open Go.RowKit
set_option maxHeartbeats 1000000 in
theorem alive_any (w : World) : Calls Try.prog 8 #[] w fun e w' => e = .returned (.bool true) ∧ Below w.heap.size w w' := by
  have H1 := Lib.hid (fun w => (put_any 258 2 w (by decide)).mono fun e w' (hp : PutSays 258 2 w e w') => (show e = .returned (.tuple #[.string ⟨#[2, 1]⟩, .int .i64 0]) ∧ Below w.heap.size w w' from hp))
  have H2 := Lib.hid (fun w => (put_any 256 1 w (by decide)).mono fun e w' (hp : PutSays 256 1 w e w') => (show e = .returned (.tuple #[.string ⟨#[]⟩, .int .i64 5]) ∧ Below w.heap.size w w' from hp))
  have H3 := Lib.hid (fun w => (get_any ⟨#[9, 2, 1]⟩ 1 2 w (by decide)).mono fun e w' (hp : GetSays ⟨#[9, 2, 1]⟩ 1 2 w e w') => (show e = .returned (.tuple #[.int .i64 258, .int .i64 3, .int .i64 0]) ∧ w = w' from hp))
  have H4 := Lib.hid (fun w => (pt_any ⟨#[97, 98]⟩ w (by decide)).mono fun e w' (hp : PtSays ⟨#[97, 98]⟩ w e w') => (show e = .returned (.tuple #[.string ⟨#[2, 0, 97, 98]⟩, .int .i64 0]) ∧ Below w.heap.size w w' from hp))
  have H5 := Lib.hid (fun w => (gt_any ⟨#[2, 0, 97, 98]⟩ 0 w (by decide)).mono fun e w' (hp : GtSays ⟨#[2, 0, 97, 98]⟩ 0 w e w') => (show e = .returned (.tuple #[.string ⟨#[97, 98]⟩, .int .i64 4, .int .i64 0]) ∧ w = w' from hp))
  have H6 := Lib.hid (fun w => (unhex_any ⟨#[48, 48, 65, 70]⟩ w (by decide)).mono fun e w' (hp : UnhexSays ⟨#[48, 48, 65, 70]⟩ w e w') => (show e = .returned (.tuple #[.string ⟨#[]⟩, .int .i64 2]) ∧ Below w.heap.size w w' from hp))
  have H7 := Lib.hid (fun w => (unhex_any ⟨#[48, 48, 97, 102]⟩ w (by decide)).mono fun e w' (hp : UnhexSays ⟨#[48, 48, 97, 102]⟩ w e w') => (show e = .returned (.tuple #[.string ⟨#[0, 175]⟩, .int .i64 0]) ∧ Below w.heap.size w w' from hp))
  have H8 := Lib.hid (fun w => (hex_any ⟨#[0, 175]⟩ w (by decide)).mono fun e w' hp => (show e = .returned (.string ⟨#[48, 48, 97, 102]⟩) ∧ Below w.heap.size w w' from hp))
  go_enter Try.func8, Try.ntmps8
  go_wp2_with fail
  refine (H1.out _).mono ?_; rintro e w1 ⟨rfl, hb1⟩
  go_wp2_with fail
  refine (H2.out _).mono ?_; rintro e w2 ⟨rfl, hb2⟩
  go_wp2_with fail
  refine (H3.out _).mono ?_; rintro e w2' ⟨rfl, rfl⟩
  go_wp2_with fail
  refine (H4.out _).mono ?_; rintro e w4 ⟨rfl, hb4⟩
  go_wp2_with fail
  refine (H5.out _).mono ?_; rintro e w5 ⟨rfl, rfl⟩
  go_wp2_with fail
  refine (H6.out _).mono ?_; rintro e w6 ⟨rfl, hb6⟩
  go_wp2_with fail
  refine (H7.out _).mono ?_; rintro e w7 ⟨rfl, hb7⟩
  go_wp2_with fail
  refine (H8.out _).mono ?_; rintro e w8 ⟨rfl, hb8⟩
  go_wp2_with fail
  go_ret
  exact ⟨rfl, bnext (bnext (bnext (bnext (bnext (bnext hb1 hb2) hb4) hb6) hb7) hb8) (Below.refl _ _)⟩
end Go.Proofs.Ytmcafgimagpaaaa
