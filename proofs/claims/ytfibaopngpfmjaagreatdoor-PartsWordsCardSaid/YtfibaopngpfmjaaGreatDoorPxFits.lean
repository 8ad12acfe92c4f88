/- What parse.fits returns for a simple command: true. Conditions: at most 900 words that are texts. -/
import Derived.Test.YtfibaopngpfmjaaGreatDoorPxSize
set_option linter.unusedVariables false
set_option linter.unusedSimpArgs false
namespace Go.Proofs.YtfibaopngpfmjaaGreatDoor
open Go.RowKit Go.Proofs
set_option maxHeartbeats 1000000 in
theorem wordDepth_one (x y : ByteArray) (w : World) : Calls Tryz.prog 101 #[.agg #[.int .i64 1, .string x, .string y, .slice none 0 0, .slice none 0 0]] w fun e w' => e = .returned (.int .i64 1) ∧ Below w.heap.size w w' := by
  have HB := Lib.hid (alloc_below w (.cells #[.int .i64 1, .string x, .string y, .slice none 0 0, .slice none 0 0] 36))
  go_enter Tryz.func101, Tryz.ntmps101
  go_wp2_with fail
  refine wp_loop_rounds 1 ?_
  rw [rounds_succ]
  go_wp2_with fail
  refine wp_loop_rounds 1 ?_
  rw [rounds_succ]
  go_wp2_with fail
  go_ret
  exact ⟨rfl, HB.out⟩
set_option maxRecDepth 100000 in
set_option maxHeartbeats 8000000 in
theorem depth_any (p : Int) (k wc : Nat) (l : List Tok) (w : World) (hl : l.length ≤ 900) (hk : k < w.heap.size) (hw : WCells w k l) :
    Calls Tryz.prog 50 #[.agg #[.int .i64 1, .int .i64 p, .string (T []), .slice (some ⟨k, 0, none⟩) l.length wc, .slice none 0 0, .slice none 0 0]] w fun e w' => (∃ d : Int, e = .returned (.int .i64 d) ∧ d ≤ 2) ∧ Below w.heap.size w w' := by
  have HB0 := Lib.hid (alloc_below w (.cells #[.int .i64 1, .int .i64 p, .string (T []), .slice (some ⟨k, 0, none⟩) l.length wc, .slice none 0 0, .slice none 0 0] 31))
  have HN0 := Lib.hid (heap_alloc_new w (.cells #[.int .i64 1, .int .i64 p, .string (T []), .slice (some ⟨k, 0, none⟩) l.length wc, .slice none 0 0, .slice none 0 0] 31))
  have HC := Lib.hid hw
  clear hw
  go_enter Tryz.func50, Tryz.ntmps50
  go_wp2_with fail
  refine wp_loop_rounds 1 ?_
  rw [rounds_succ]
  go_wp2_with fail
  generalize hw1 : w.alloc _ = w1 at *
  clear hw1
  have hlt1 : w.heap.size < w1.heap.size := row_ltP HN0.out
  have HC1 := Lib.hid (HC.out.next HB0.out hk)
  have hk1 : k < w1.heap.size := by omega
  have hnb : (l.length : Int) ≤ 900 := by omega
  have HBd := Lib.hid (Below.refl w1.heap.size w1)
  clear HC hl
  generalize hln : l.length = n at *
  go_loopw [3, 25] (fun s3 s25 W => ∃ j : Nat, j ≤ n ∧ (s3 = .int .i64 0 ∨ s3 = .int .i64 1) ∧ s25 = .int .i64 j ∧ Below w1.heap.size w1 W) (fun _ i _ => n - (intOf i).toNat)
  case atStart => exact ⟨0, Nat.zero_le _, .inl rfl, rfl, HBd.out⟩
  case round =>
    obtain ⟨j, hj, hs3, rfl, hb⟩ := hrel
    have HB := Lib.hid hb
    by_cases hlt : j < n
    · obtain ⟨t, ht, d0, d1, d2, d3, d4⟩ := (HC1.out.next hb hk1) j (by omega)
      have HT := Lib.hid (fun (W : World) => wordDepth_one (T t.text) (T t.quoted) W)
      have hlt2 : (j : Int) < (n : Int) := by omega
      clear ht hb HBd
      rcases hs3 with rfl | rfl
      all_goals
        go_wp2_with fail
        have HB2 := Lib.hid (show Below w1.heap.size w1 (wr.alloc (.cells #[.int .i64 1, .string (T t.text), .string (T t.quoted), .slice none 0 0, .slice none 0 0] 36)) from HB.out.alloc HB.out.size _)
        (with_reducible refine (HT.out _).mono ?_); rintro e w3 ⟨rfl, b3⟩
        have HB3 := Lib.hid (bnext HB2.out b3)
        clear b3 HB2 HB d0 d1 d2 d3 d4
        go_wp2_with fail
        go_roundw
        case rel => exact ⟨j + 1, hlt, .inr rfl, rfl, HB3.out⟩
        case measure =>
          simp only [intOf]
          omega
    · have hge : (n : Int) ≤ (j : Int) := by omega
      have hjn : j = n := by omega
      subst hjn
      obtain ⟨c0, c1, c2, c3, c4, c5⟩ := six_cells ((hb.block _ hlt1).trans HN0.out)
      clear hb
      rcases hs3 with rfl | rfl
      all_goals
        go_wp2_with fail
        refine wp_loop_rounds 1 ?_
        rw [rounds_succ]
        go_wp2_with fail
        go_ret
        refine ⟨⟨_, rfl, ?_⟩, (HB0.out.trans (HB.out.mono (Nat.le_of_lt hlt1)))⟩
        omega
set_option maxHeartbeats 1000000 in
theorem fits1_any (p : Int) (k wc : Nat) (l : List Tok) (w : World) (hl : l.length ≤ 900) (hk : k < w.heap.size) (hw : WCells w k l) :
    Calls Tryz.prog 49 #[.agg #[.int .i64 1, .int .i64 p, .string (T []), .slice (some ⟨k, 0, none⟩) l.length wc, .slice none 0 0, .slice none 0 0]] w fun e w' => e = .returned (.bool false) ∧ Below w.heap.size w w' := by
  have HB := Lib.hid (alloc_below w (.cells #[.int .i64 1, .int .i64 p, .string (T []), .slice (some ⟨k, 0, none⟩) l.length wc, .slice none 0 0, .slice none 0 0] 31))
  have HD := Lib.hid (depth_any p k wc l (w.alloc (.cells #[.int .i64 1, .int .i64 p, .string (T []), .slice (some ⟨k, 0, none⟩) l.length wc, .slice none 0 0, .slice none 0 0] 31)) hl (by simp; omega) (hw.next HB.out hk))
  clear hw hl
  go_enter Tryz.func49, Tryz.ntmps49
  go_wp2_with fail
  (with_reducible refine HD.out.mono ?_); rintro e w1 ⟨⟨d, rfl, hd⟩, b1⟩
  have HB1 := Lib.hid (bnext HB.out b1)
  have hd2 : decide ((32 : Int) < d) = false := by rw [decide_eq_false_iff_not]; omega
  clear b1
  go_wp2_with fail
  go_ret
  exact ⟨by first | rfl | (rw [hd2]; rfl) | (congr 2), HB1.out⟩
end Go.Proofs.YtfibaopngpfmjaaGreatDoor
