/- What parse.documents returns at words: a slice. Conditions: at most 900 tokens, all words. -/
import Derived.Test.YtfibaopngpfmjaaGreatDoorPxList
import Derived.OwnWalk
set_option linter.unusedVariables false
set_option linter.unusedSimpArgs false
namespace Go.Proofs.YtfibaopngpfmjaaGreatDoor
open Go.RowKit Go.Proofs
set_option maxRecDepth 100000 in
set_option maxHeartbeats 4000000 in
theorem documents_any (B : Nat) (x : ByteArray) (tv : Value) (l : List Tok) (w : World) (hown : w.ownsRow B 132 4 tv l.length (toks l)) (hl : l.length ≤ 900) (hl0 : 0 < l.length) (hw : Wds l) :
    Calls Tryz.prog 44 #[.string x, tv] w fun e w' => ∃ ao n c, e = .returned (.slice ao n c) ∧ Below w.heap.size w w' := by
  obtain ⟨i0, hi, hz0, hz1, hz2⟩ := info_parts (P := Tryz.prog) (e := 9) (z := .string ByteArray.empty) (size := 1) (bytes := 16) (by kernel_rfl)
  obtain ⟨ao, cap, rfl, hc⟩ := own_form hown
  obtain ⟨k, rfl, hcell⟩ := hc (by omega)
  have hkl : k < w.heap.size := by
    have h0 : (toks l)[0]? = some (.int .i64 (tkAt l 0).kind) := by
      obtain ⟨t, ht⟩ : ∃ t, l[0]? = some t := ⟨l[0], List.getElem?_eq_getElem hl0⟩
      have h1 := toks_get l 0 t ht 0 (by omega)
      have h2 : tkAt l 0 = t := by unfold tkAt; rw [List.getD_eq_getElem?_getD, ht]; rfl
      rw [h2]; simpa [tokv] using h1
    exact block_lt_of_cell (hcell 0 _ h0)
  have HC : RowKit.Hid (∀ j, j < l.length → ∃ t, l[j]? = some t ∧ t.kind = 1 ∧ w.cell? ⟨k, j * 4, none⟩ = some (.int .i64 1) ∧ w.cell? ⟨k, j * 4 + 1, none⟩ = some (.int .i64 (t.pos : Int)) ∧ w.cell? ⟨k, j * 4 + 2, none⟩ = some (.string (T t.text)) ∧ w.cell? ⟨k, j * 4 + 3, none⟩ = some (.string (T t.quoted))) := by
    apply Lib.hid
    intro j hj
    obtain ⟨t, ht⟩ : ∃ t, l[j]? = some t := ⟨_, List.getElem?_eq_getElem hj⟩
    have hk := hw t (List.mem_of_getElem? ht)
    refine ⟨t, ht, hk, ?_, ?_, ?_, ?_⟩
    · exact hcell _ _ (by have := toks_get l j t ht 0 (by omega); rw [← hk]; simpa [tokv] using this)
    · exact hcell _ _ (by have := toks_get l j t ht 1 (by omega); simpa [tokv] using this)
    · exact hcell _ _ (by have := toks_get l j t ht 2 (by omega); simpa [tokv] using this)
    · exact hcell _ _ (by have := toks_get l j t ht 3 (by omega); simpa [tokv] using this)
  clear hown hc hcell hw
  generalize l.length = n at *
  go_enter Tryz.func44, Tryz.ntmps44
  go_wp2_with (at_make; refine wpList_make_full _ rfl _ _ 32 rfl w.heap.size 9 i0 (.string ByteArray.empty) 1 Tryz.underlying32 hi hz0 hz1 _ _ _ _ n rfl rfl rfl rfl ?b1 ?b2 ?b3 ?_)
  case b1 => first | (rw [hz2]; omega) | omega
  case b2 => unfold maxLen; omega
  try (case b3 => omega)
  intro w1 hown1 hg1
  have HB1 := Lib.hid (below_of_none hg1)
  clear hown1 hg1
  go_wp2
  go_loopw [17] (fun i wr => ∃ j : Nat, j ≤ n ∧ i = .int .i64 j ∧ Below w.heap.size w wr) (fun i _ => n - (intOf i).toNat)
  case atStart => exact ⟨0, Nat.zero_le _, rfl, HB1.out⟩
  case round =>
    obtain ⟨j, hj, rfl, hb⟩ := hrel
    by_cases hlt : j < n
    · obtain ⟨t, ht, hk, c0, c1, c2, c3⟩ := HC.out j hlt
      have d0 : wr.cell? ⟨k, j * 4, none⟩ = some (.int .i64 1) := cell_below hb hkl c0
      have d1 : wr.cell? ⟨k, j * 4 + 1, none⟩ = some (.int .i64 (t.pos : Int)) := cell_below hb hkl c1
      have d2 : wr.cell? ⟨k, j * 4 + 2, none⟩ = some (.string (T t.text)) := cell_below hb hkl c2
      have d3 : wr.cell? ⟨k, j * 4 + 3, none⟩ = some (.string (T t.quoted)) := cell_below hb hkl c3
      have HB2 := Lib.hid (show Below w.heap.size w (wr.alloc (.cells #[.int .i64 1, .int .i64 (t.pos : Int), .string (T t.text), .string (T t.quoted)] 132)) from hb.alloc hb.size _)
      have hlt2 : (j : Int) < (n : Int) := by omega
      clear c0 c1 c2 c3 ht hb HB1
      go_wp2_with fail
      go_roundw
      case rel => exact ⟨j + 1, hlt, rfl, HB2.out⟩
      case measure =>
        simp only [intOf]
        omega
    · have hge : (n : Int) ≤ (j : Int) := by omega
      go_wp2_with fail
      go_ret
      exact ⟨_, _, _, rfl, hb⟩
end Go.Proofs.YtfibaopngpfmjaaGreatDoor
