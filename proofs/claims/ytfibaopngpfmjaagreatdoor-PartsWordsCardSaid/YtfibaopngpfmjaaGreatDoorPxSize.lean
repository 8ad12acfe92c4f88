/- What parse.Size returns for a simple command: one and the number of its words. Conditions: at most 900 words that are texts. -/
import Derived.Test.YtfibaopngpfmjaaGreatDoorPxItems
set_option linter.unusedVariables false
set_option linter.unusedSimpArgs false
namespace Go.Proofs.YtfibaopngpfmjaaGreatDoor
open Go.RowKit Go.Proofs
theorem wds_get (l : List Tok) (j : Nat) (t : Tok) (h : l[j]? = some t) (f : Nat) (hf : f < 5) : (wds l)[j * 5 + f]? = (twc t)[f]? := by
  induction l generalizing j with
  | nil => simp at h
  | cons x l ih =>
    have e : wds (x :: l) = twc x ++ wds l := rfl
    have e4 : (twc x).length = 5 := rfl
    rw [e]
    cases j with
    | zero =>
      simp at h; subst h
      rw [List.getElem?_append_left (by omega)]
      simp
    | succ j =>
      simp at h
      rw [List.getElem?_append_right (by omega), e4, show (j + 1) * 5 + f - 5 = j * 5 + f from by omega]
      exact ih j h
/-- The words' cells, from an address on. -/
def WCells (W : World) (k : Nat) (l : List Tok) : Prop :=
  ∀ j, j < l.length → ∃ t, l[j]? = some t ∧ W.cell? ⟨k, j * 5, none⟩ = some (.int .i64 1) ∧ W.cell? ⟨k, j * 5 + 1, none⟩ = some (.string (T t.text)) ∧ W.cell? ⟨k, j * 5 + 2, none⟩ = some (.string (T t.quoted)) ∧ W.cell? ⟨k, j * 5 + 3, none⟩ = some (.slice none 0 0) ∧ W.cell? ⟨k, j * 5 + 4, none⟩ = some (.slice none 0 0)
theorem wcells_of {W : World} {B : Nat} {v : Value} {l : List Tok} (h : W.ownsRow B 36 5 v l.length (wds l)) (hl : 0 < l.length) : ∃ k cap, v = .slice (some ⟨k, 0, none⟩) l.length cap ∧ k < W.heap.size ∧ WCells W k l := by
  obtain ⟨ao, cap, rfl, hc⟩ := own_form h
  obtain ⟨k, rfl, hcell⟩ := hc (by omega)
  have hw : WCells W k l := by
    intro j hj
    obtain ⟨t, ht⟩ : ∃ t, l[j]? = some t := ⟨_, List.getElem?_eq_getElem hj⟩
    refine ⟨t, ht, ?_, ?_, ?_, ?_, ?_⟩
    · exact hcell _ _ (by have := wds_get l j t ht 0 (by omega); simpa [twc] using this)
    · exact hcell _ _ (by have := wds_get l j t ht 1 (by omega); simpa [twc] using this)
    · exact hcell _ _ (by have := wds_get l j t ht 2 (by omega); simpa [twc] using this)
    · exact hcell _ _ (by have := wds_get l j t ht 3 (by omega); simpa [twc] using this)
    · exact hcell _ _ (by have := wds_get l j t ht 4 (by omega); simpa [twc] using this)
  obtain ⟨t, _, c0, _⟩ := hw 0 hl
  exact ⟨k, cap, rfl, block_lt_of_cell c0, hw⟩
theorem WCells.next {W W' : World} {k : Nat} {l : List Tok} {B : Nat} (h : WCells W k l) (hb : Below B W W') (hk : k < B) : WCells W' k l := by
  intro j hj
  obtain ⟨t, h0, h1, h2, h3, h4, h5⟩ := h j hj
  exact ⟨t, h0, cell_below hb hk h1, cell_below hb hk h2, cell_below hb hk h3, cell_below hb hk h4, cell_below hb hk h5⟩
theorem size_nil (w : World) : Calls Tryz.prog 47 #[.slice none 0 0] w fun e w' => e = .returned (.int .i64 0) ∧ w' = w := by
  go_enter Tryz.func47, Tryz.ntmps47
  go_wp2_with fail
  refine wp_loop_rounds 1 ?_
  rw [rounds_succ]
  go_wp2_with fail
  go_ret
  exact ⟨rfl, rfl⟩
set_option maxHeartbeats 1000000 in
theorem wordSize_one (x y : ByteArray) (w : World) : Calls Tryz.prog 98 #[.agg #[.int .i64 1, .string x, .string y, .slice none 0 0, .slice none 0 0]] w fun e w' => e = .returned (.int .i64 1) ∧ Below w.heap.size w w' := by
  have HB := Lib.hid (alloc_below w (.cells #[.int .i64 1, .string x, .string y, .slice none 0 0, .slice none 0 0] 36))
  have HN := Lib.hid size_nil
  go_enter Tryz.func98, Tryz.ntmps98
  go_wp2_with fail
  (with_reducible refine (HN.out _).mono ?_); rintro e w1 ⟨rfl, rfl⟩
  go_wp2_with fail
  refine wp_loop_rounds 1 ?_
  rw [rounds_succ]
  go_wp2_with fail
  go_ret
  exact ⟨rfl, HB.out⟩
set_option maxRecDepth 100000 in
set_option maxHeartbeats 8000000 in
theorem size_any (p : Int) (cb cc k wc : Nat) (l : List Tok) (w : World) (hl : l.length ≤ 900)
    (hc : w.cell? ⟨cb, 0, none⟩ = some (.int .i64 1) ∧ w.cell? ⟨cb, 1, none⟩ = some (.int .i64 p) ∧ w.cell? ⟨cb, 2, none⟩ = some (.string (T [])) ∧ w.cell? ⟨cb, 3, none⟩ = some (.slice (some ⟨k, 0, none⟩) l.length wc) ∧ w.cell? ⟨cb, 4, none⟩ = some (.slice none 0 0) ∧ w.cell? ⟨cb, 5, none⟩ = some (.slice none 0 0)) (hk : k < w.heap.size) (hw : WCells w k l) :
    Calls Tryz.prog 47 #[.slice (some ⟨cb, 0, none⟩) 1 cc] w fun e w' => e = .returned (.int .i64 (1 + (l.length : Int))) ∧ Below w.heap.size w w' := by
  obtain ⟨c0, c1, c2, c3, c4, c5⟩ := hc
  have HB0 := Lib.hid (alloc_below w (.cells #[.int .i64 1, .int .i64 p, .string (T []), .slice (some ⟨k, 0, none⟩) l.length wc, .slice none 0 0, .slice none 0 0] 31))
  have HN0 := Lib.hid (heap_alloc_new w (.cells #[.int .i64 1, .int .i64 p, .string (T []), .slice (some ⟨k, 0, none⟩) l.length wc, .slice none 0 0, .slice none 0 0] 31))
  have HZ := Lib.hid size_nil
  have HW1 := Lib.hid (fun (x y : ByteArray) (W : World) => wordSize_one x y W)
  have HC := Lib.hid hw
  clear hw
  go_enter Tryz.func47, Tryz.ntmps47
  go_wp2_with fail
  refine wp_loop_rounds 2 ?_
  rw [rounds_succ]
  go_upto_region 5 with fail
  generalize hw1 : w.alloc _ = w1 at *
  clear hw1 c0 c1 c2 c3 c4 c5
  have hklt := hk
  have hx1 : IntKind.i64.wrap 1 = 1 := by decide
  have hx2 : IntKind.i64.wrap 0 = 0 := by decide
  have hlt1 : w.heap.size < w1.heap.size := row_ltP HN0.out
  obtain ⟨c0, c1, c2, c3, c4, c5⟩ := six_cells HN0.out
  go_quiet ((go_at_call 47; refine Calls.quiet_of_same (HZ.out _)))
  go_wp2_with fail
  have HC1 := Lib.hid (HC.out.next HB0.out hk)
  have HBd := Lib.hid (show Below w1.heap.size w1 (w1.drewN nq) from below_drewN w1 nq)
  have HL := Lib.hid hl
  have hk1 : k < w1.heap.size := by omega
  have hnb : (l.length : Int) ≤ 900 := by omega
  clear HC c0 c1 c2 c3 c4 c5 hl
  generalize hln : l.length = n at *
  generalize hw2 : w1.drewN nq = w2 at *
  clear hw2
  go_loopw [3, 29] (fun s3 s29 W => ∃ j : Nat, j ≤ n ∧ s3 = .int .i64 (1 + (j : Int)) ∧ s29 = .int .i64 j ∧ Below w1.heap.size w1 W) (fun _ i _ => n - (intOf i).toNat)
  case atStart => exact ⟨0, Nat.zero_le _, rfl, rfl, HBd.out⟩
  case round =>
    obtain ⟨j, hj, rfl, rfl, hb⟩ := hrel
    have HB := Lib.hid hb
    by_cases hlt : j < n
    · obtain ⟨t, ht, d0, d1, d2, d3, d4⟩ := (HC1.out.next hb hk1) j (by omega)
      have HT := Lib.hid (fun (W : World) => wordSize_one (T t.text) (T t.quoted) W)
      have hlt2 : (j : Int) < (n : Int) := by omega
      clear ht hb HBd
      go_wp2_with fail
      have HB2 := Lib.hid (show Below w1.heap.size w1 (wr.alloc (.cells #[.int .i64 1, .string (T t.text), .string (T t.quoted), .slice none 0 0, .slice none 0 0] 36)) from HB.out.alloc HB.out.size _)
      (with_reducible refine (HT.out _).mono ?_); rintro e w3 ⟨rfl, b3⟩
      have HB3 := Lib.hid (bnext HB2.out b3)
      clear b3 HB2 HB d0 d1 d2 d3 d4
      have hx3 : IntKind.i64.wrap (1 + (j : Int) + 1) = 1 + ((j + 1 : Nat) : Int) := by rw [IntWalk.i64_in _ (by omega)]; omega
      go_wp2_with fail
      go_roundw
      case rel => exact ⟨j + 1, hlt, by first | rfl | (rw [hx3]) | (congr 1; omega), by first | rfl | (congr 1), HB3.out⟩
      case measure =>
        simp only [intOf]
        omega
    · have hge : (n : Int) ≤ (j : Int) := by omega
      have hjn : j = n := by omega
      subst hjn
      obtain ⟨c0, c1, c2, c3, c4, c5⟩ := six_cells ((hb.block _ hlt1).trans HN0.out)
      clear hb
      go_wp2_with fail
      refine wp_loop_rounds 1 ?_
      rw [rounds_succ]
      go_wp2_with fail
      rw [rounds_succ]
      go_wp2_with fail
      go_ret
      exact ⟨by rw [hln]; rfl, (HB0.out.trans (HB.out.mono (Nat.le_of_lt hlt1)))⟩
end Go.Proofs.YtfibaopngpfmjaaGreatDoor
