/- What clone returns. Conditions: the slice holds the given blocks; at most 10^6 of them. -/
import Derived.Test.YtpcieookddpkhaaDoorBlkClone
set_option linter.unusedVariables false
set_option linter.unusedSimpArgs false
namespace Go.Proofs.YtpcieookddpkhaaDoor
open Go.RowKit
set_option maxHeartbeats 1000000 in
theorem sclone_any (c : Int) (v : Value) (bs : List Blk) (w : World) (hv : Blks w v bs) (hl : bs.length ≤ 1000000) :
    Calls Tryd.prog 37 #[.agg #[.int .i64 c, v]] w fun e w' => ∃ v', e = .returned (.agg #[.int .i64 c, v']) ∧ w'.ownsRow w.heap.size 49 3 v' bs.length (bcs bs) ∧ Below w.heap.size w w' := by
  obtain ⟨ao, n, cp, rfl⟩ := hv.form
  have HV := Lib.hid hv
  clear hv
  go_enter Tryd.func37, Tryd.ntmps37
  go_wp2_with fail
  refine (bclone_any _ bs _ (HV.out.below (((Below.refl _ _).alloc (Nat.le_refl _) _).alloc (by simp) _)) hl).mono ?_; rintro e w1 ⟨v1, rfl, hown, h1⟩
  have hr0 := after_alloc2_old h1
  have hr1 := after_alloc2_new h1
  have hbw := after_alloc2 h1
  have d0 : w1.cell? ⟨w.heap.size, 0, none⟩ = some (.int .i64 c) := by rw [cell_of_row _ _ _ _ _ _ hr0]; rfl
  have d1 : w1.cell? ⟨w.heap.size, 1, none⟩ = some (.slice ao n cp) := by rw [cell_of_row _ _ _ _ _ _ hr0]; rfl
  have f1 := frozen_of_row w1 w.heap.size 1 _ _ hr0
  have e0 : w1.cell? ⟨w.heap.size + 1, 0, none⟩ = some (.int .i64 0) := by rw [cell_of_row _ _ _ _ _ _ hr1]; rfl
  have e1 : w1.cell? ⟨w.heap.size + 1, 1, none⟩ = some (.slice none 0 0) := by rw [cell_of_row _ _ _ _ _ _ hr1]; rfl
  have g0 := frozen_of_row w1 (w.heap.size + 1) 0 _ _ hr1
  have g1 := frozen_of_row w1 (w.heap.size + 1) 1 _ _ hr1
  obtain ⟨ao1, n1, c1, rfl⟩ : ∃ a n c, v1 = .slice a n c := by
    rcases hown.2 with ⟨e, _⟩ | ⟨g', cap', cur, e, _⟩
    · exact ⟨_, _, _, e⟩
    · exact ⟨_, _, _, e⟩
  have HBW := Lib.hid hbw
  have HOW := Lib.hid hown
  clear hr0 hr1 hbw h1 hown
  go_wp2_with fail
  have ho := ownsRow_setCell_below (ownsRow_setCell_below (ownsRow_setCell_below HOW.out (a := ⟨w.heap.size, 1, none⟩) (by simp <;> omega) (.slice ao1 n1 c1)) (a := ⟨w.heap.size + 1, 0, none⟩) (by simp <;> omega) (.int .i64 c)) (a := ⟨w.heap.size + 1, 1, none⟩) (by simp <;> omega) (.slice ao1 n1 c1)
  have hbl := ((HBW.out.setCell (p := ⟨w.heap.size, 1, none⟩) (Nat.le_refl _) (.slice ao1 n1 c1)).setCell (p := ⟨w.heap.size + 1, 0, none⟩) (Nat.le_succ _) (.int .i64 c)).setCell (p := ⟨w.heap.size + 1, 1, none⟩) (Nat.le_succ _) (.slice ao1 n1 c1)
  exact bodyPost_ret (v := .agg #[.int .i64 c, .slice ao1 n1 c1]) (by simp [results, Tryd.results37, go_sem, d0, d1, e0, e1]) rfl ⟨_, rfl, World.ownsRow.mono ho (by simp; omega), hbl⟩
theorem bcs_get : ∀ (bs : List Blk) (j : Nat) (h : j < bs.length), (bcs bs)[j * 3]? = some (.string (T bs[j].sc)) ∧ (bcs bs)[j * 3 + 1]? = some (.int .i64 bs[j].kd) ∧ (bcs bs)[j * 3 + 2]? = some (.string (T bs[j].dt)) := by
  intro bs
  induction bs with
  | nil => intro j h; simp at h
  | cons x l ih =>
    intro j h
    cases j with
    | zero => simp [bcs]
    | succ j =>
      have := ih j (by simpa using h)
      rw [show (j + 1) * 3 = j * 3 + 3 from by omega]
      simpa [bcs] using this
theorem blks_own {w : World} {base : Nat} {v : Value} {bs : List Blk} (h : w.ownsRow base 49 3 v bs.length (bcs bs)) : Blks w v bs := by
  rcases h.2 with ⟨rfl, h0⟩ | ⟨g, cap, cur, rfl, hb, hg, hnc, hcm, hcs, htk⟩
  · have e : bs = [] := List.eq_nil_of_length_eq_zero h0
    subst e
    exact ⟨none, 0, rfl, Nat.le_refl _, fun _ => rfl, fun j hj => by simp at hj⟩
  · refine ⟨some ⟨g, 0, none⟩, cap, rfl, hnc, (fun h => nomatch h), fun j hj => ⟨g, 0, rfl, ?_, ?_, ?_, ?_⟩⟩
    · rcases Nat.lt_or_ge g w.heap.size with h' | h'
      · exact h'
      · simp [Array.getElem?_eq_none h'] at hg
    · have := h.cells (g := g) rfl (j * 3) _ (bcs_get bs j hj).1
      rw [Addr.add_lit] at this
      exact this
    · have := h.cells (g := g) rfl (j * 3 + 1) _ (bcs_get bs j hj).2.1
      rw [Addr.add_lit] at this
      exact this
    · have := h.cells (g := g) rfl (j * 3 + 2) _ (bcs_get bs j hj).2.2
      rw [Addr.add_lit] at this
      exact this
end Go.Proofs.YtpcieookddpkhaaDoor
