/- strings.Builder's WriteByte with its row named: so that a second builder beside it is kept. Conditions: room under the model's bound. -/
import Derived.Test.YtfibaopngpfmjaaGreatDoorPxQuoted
set_option linter.unusedVariables false
set_option linter.unusedSimpArgs false
namespace Go.Proofs.YtfibaopngpfmjaaGreatDoor
open Go.RowKit Go.Proofs
/-- Every old block but the builder's and its row's is as it was. -/
def Frm (b : Nat) (ro : Option Nat) (w w' : World) : Prop := w.heap.size ≤ w'.heap.size ∧ ∀ i, i < w.heap.size → i ≠ b → some i ≠ ro → w'.heap[i]? = w.heap[i]?
/-- A builder whose row's value is v. -/
def BAt (B b : Nat) (v : Value) (bs : List Value) (w : World) : Prop :=
  B ≤ b ∧ ∃ p, (p = .pointer none ∨ p = .pointer (some ⟨b, 0, none⟩)) ∧ w.heap[b]? = some (.cells #[p, v] 154 (0, 0)) ∧ w.ownsRow B 5 1 v bs.length bs
theorem BAt.isB {B b : Nat} {v : Value} {l : List UInt8} {w : World} (h : BAt B b v (Lib.byteCells l) w) : IsB B b l w := by
  obtain ⟨hB, p, hp, hb, ho⟩ := h
  have hne := Lib.ownBlock_ne ho hb (by decide)
  rcases hp with rfl | rfl
  · exact .inl ⟨hB, v, hb, ho, hne⟩
  · exact .inr ⟨hB, v, hb, ho, hne⟩
theorem check_at (B b : Nat) (v : Value) (bs : List Value) (w : World) (h : BAt B b v bs w) :
    Calls Tryz.prog 165 #[.pointer (some ⟨b, 0, none⟩)] w fun e w' => e = .returned (.tuple #[]) ∧ (w'.heap[b]? = some (.cells #[.pointer (some ⟨b, 0, none⟩), v] 154 (0, 0)) ∧ w'.ownsRow B 5 1 v bs.length bs ∧ w'.heap.size = w.heap.size ∧ (∀ i, i ≠ b → w'.heap[i]? = w.heap[i]?) ∧ Below B w w') := by
  obtain ⟨hB, p, hp, hb, ho⟩ := h
  have hne := Lib.ownBlock_ne ho hb (by decide)
  rcases hp with rfl | rfl
  · have hh : Lib.BuilderAt 154 5 B b (.pointer none) bs w := ⟨hB, v, hb, ho, hne⟩
    refine (check_fresh b w hh.cell0 hh.shape hh.frozen0).mono ?_
    rintro e w' ⟨rfl, rfl⟩
    refine ⟨rfl, ?_, ?_, by simp, fun i hi => Below.heap_setCell _ _ _ _ hi, (Below.refl B w).setCell (p := ⟨b, 0, none⟩) hB _⟩
    · simp [World.setCell, Array.getElem?_modify, hb]
    · exact ho.kept (row := some b) ⟨rfl, rfl, rfl, by simp [World.setCell], fun k _ hk => Below.heap_setCell _ _ _ _ (fun e => hk (by simp [e]))⟩ (Or.inr hne)
  · have hh : Lib.BuilderAt 154 5 B b (.pointer (some ⟨b, 0, none⟩)) bs w := ⟨hB, v, hb, ho, hne⟩
    refine (check_used b w hh.cell0).mono ?_
    rintro e w' ⟨rfl, rfl⟩
    exact ⟨rfl, hb, ho, rfl, fun _ _ => rfl, Below.refl B _⟩
set_option maxHeartbeats 2000000 in
set_option maxRecDepth 100000 in
theorem wbyte_at (B b : Nat) (v : Value) (bs : List Value) (c : Int) (w : World) (h : BAt B b v bs w) (hlen : bs.length + 1 ≤ 140737488355328) (hBw : B ≤ w.heap.size) :
    Calls Tryz.prog 151 #[.pointer (some ⟨b, 0, none⟩), .int .u8 c] w fun e w' => e = .returned .nilIface ∧ ((∃ v', BAt B b v' (bs ++ [.int .u8 c]) w' ∧ (v'.ownBlock = v.ownBlock ∨ ∃ k, v'.ownBlock = some k ∧ w.heap.size ≤ k)) ∧ Frm b v.ownBlock w w' ∧ Below B w w') := by
  obtain ⟨i0, hi, hz0, hz1, hz2⟩ := info_parts (P := Tryz.prog) (e := 5) (z := .int .u8 0) (size := 1) (bytes := 1) (by kernel_rfl)
  have hB := h.1
  have HC := Lib.hid (check_at B b v bs w h)
  clear h
  go_enter Tryz.func151, Tryz.ntmps151
  go_wp2_with (go_at_call 165; refine HC.out.mono ?_)
  rintro e w1 ⟨rfl, hbk, hown, hsz0, hfr0, hb1⟩
  have HZ := Lib.hid hsz0
  have HF := Lib.hid hfr0
  clear hsz0 hfr0
  have hne := Lib.ownBlock_ne hown hbk (by decide)
  have c0 : w1.cell? ⟨b, 0, none⟩ = some (.pointer (some ⟨b, 0, none⟩)) := by rw [Lib.cell_of_heap hbk]; rfl
  have c1 : w1.cell? ⟨b, 1, none⟩ = some v := by rw [Lib.cell_of_heap hbk]; rfl
  go_wp2_with (at_builtin; refine wpList_append_own_at _ rfl _ _ 152 rfl B 5 i0 (.int .u8 0) 1 1 Tryz.underlying152 hi hz0 hz1 hz2 rfl (by decide) _ _ _ rfl (hown.alloc _) ⟨w1.heap.size, 0, none⟩ 1 1 [.int .u8 c] rfl rfl ?c1 ?c2 ?c3 ?c4 ?c5 ?_)
  case c1 =>
    intro j u hj
    match j, hj with
    | 0, hj => simp at hj; subst hj; simp [Addr.add]
  case c2 => intro u hu; simp at hu; subst hu; rfl
  case c3 => unfold maxLen; omega
  case c4 => omega
  case c5 => have := HZ.out; simp; omega
  intro v' w2 hown' hgrow _ hat
  have hlt : b < w1.heap.size := row_ltP hbk
  have hb2 : w2.heap[b]? = some (.cells #[.pointer (some ⟨b, 0, none⟩), v] 154 (0, 0)) := by
    rw [hgrow.block b (by simp; omega) (fun e => hne e.symm), Lib.alloc_old w1 _ b hlt]
    exact hbk
  have d0 : w2.cell? ⟨b, 0, none⟩ = some (.pointer (some ⟨b, 0, none⟩)) := by rw [Lib.cell_of_heap hb2]; rfl
  have d1 : w2.cell? ⟨b, 1, none⟩ = some v := by rw [Lib.cell_of_heap hb2]; rfl
  have f1 : w2.frozen? ⟨b, 1, none⟩ = false := Lib.frozen_of_heap hb2 1
  have hs2 := hgrow.size
  obtain ⟨g, cap, rfl⟩ : ∃ g cap, v' = .slice (some ⟨g, 0, none⟩) (bs.length + 1) cap := by
    rcases hown'.2 with ⟨_, h0⟩ | ⟨g, cap, cur, hv, _⟩
    · omega
    · exact ⟨g, cap, hv⟩
  have A := Lib.hid hat
  clear hat
  go_wp2
  go_ret
  have hsz := HZ.out
  have hfr := HF.out
  have hne2 := Lib.ownBlock_ne hown' hb2 (by decide)
  refine ⟨rfl, ⟨.slice (some ⟨g, 0, none⟩) (bs.length + 1) cap, ⟨hB, .pointer (some ⟨b, 0, none⟩), .inr rfl, ?_, ?_⟩, ?_⟩, ⟨?_, ?_⟩, ?_⟩
  · simp [World.setCell, Array.getElem?_modify, hb2]
  · have := hown'.kept (w' := w2.setCell ⟨b, 1, none⟩ (.slice (some ⟨g, 0, none⟩) (bs.length + 1) cap)) (row := some b) ⟨rfl, rfl, rfl, by simp [World.setCell], fun k _ hk => Below.heap_setCell _ _ _ _ (fun e => hk (by simp [e]))⟩ (Or.inr hne2)
    simpa using this
  · rcases A.out with h5 | h5
    · exact .inl h5
    · refine .inr ⟨_, h5, ?_⟩
      omega
  · simp [World.setCell] at hs2 ⊢; omega
  · intro i hi hib hir
    rw [Below.heap_setCell _ _ _ _ hib, hgrow.block i (by simp; omega) hir, Lib.alloc_old w1 _ i (by omega)]
    exact hfr i hib
  · exact ((hb1.alloc (by omega) _).grown hgrow (by simp; omega) (fun k hk => (hown.lt k hk).1)).setCell (p := ⟨b, 1, none⟩) hB _
theorem owns_lower {w : World} {B B' : Nat} {e : TypeId} {z : Nat} {v : Value} {n : Nat} {xs : List Value} (h : w.ownsRow B e z v n xs) (hB : B' ≤ B) : w.ownsRow B' e z v n xs := by
  refine ⟨h.1, ?_⟩
  rcases h.2 with h2 | ⟨g, cap, cur, hv, hb, h3⟩
  · exact .inl h2
  · exact .inr ⟨g, cap, cur, hv, Nat.le_trans hB hb, h3⟩
set_option maxHeartbeats 2000000 in
set_option maxRecDepth 100000 in
theorem wstring_new (B b : Nat) (s : ByteArray) (w : World) (h : BAt B b (.slice none 0 0) [] w) (hlen : s.size ≤ 140737488355328) (hBw : B ≤ w.heap.size) :
    Calls Tryz.prog 105 #[.pointer (some ⟨b, 0, none⟩), .string s] w fun e w' => e = .returned (.tuple #[.int .i64 s.size, .nilIface]) ∧ ((∃ v', BAt B b v' (Lib.strCells s) w' ∧ (v'.ownBlock = none ∨ ∃ k, v'.ownBlock = some k ∧ w.heap.size ≤ k) ∧ (s = ByteArray.empty → v' = .slice none 0 0)) ∧ Frm b none w w' ∧ Below B w w') := by
  obtain ⟨i0, hi, hz0, hz1, hz2⟩ := info_parts (P := Tryz.prog) (e := 5) (z := .int .u8 0) (size := 1) (bytes := 1) (by kernel_rfl)
  have hB := h.1
  have HC := Lib.hid (check_at B b (.slice none 0 0) [] w h)
  clear h
  go_enter Tryz.func105, Tryz.ntmps105
  go_wp2_with (go_at_call 165; refine HC.out.mono ?_)
  rintro e w1 ⟨rfl, hbk, hown, hsz0, hfr0, hb1⟩
  have HZ := Lib.hid hsz0
  have HF := Lib.hid hfr0
  clear hsz0 hfr0
  have hown2 : w1.ownsRow w1.heap.size 5 1 (.slice none 0 0) 0 [] := ⟨rfl, .inl ⟨rfl, rfl⟩⟩
  have c0 : w1.cell? ⟨b, 0, none⟩ = some (.pointer (some ⟨b, 0, none⟩)) := by rw [Lib.cell_of_heap hbk]; rfl
  have c1 : w1.cell? ⟨b, 1, none⟩ = some (.slice none 0 0) := by rw [Lib.cell_of_heap hbk]; rfl
  go_wp2_with (at_builtin; refine Lib.wpList_append_own_string _ rfl _ _ 152 9 rfl w1.heap.size 5 i0 Tryz.underlying152 Tryz.underlying9 hi hz0 hz1 hz2 _ _ _ rfl hown2 s rfl ?c3 ?c4 ?c5 ?_)
  case c3 => unfold maxLen; omega
  case c4 => omega
  case c5 => exact Nat.le_refl _
  intro v' w2 hown' hgrow hnil
  have HNIL := Lib.hid hnil
  clear hnil
  have hlt : b < w1.heap.size := row_ltP hbk
  have hb2 : w2.heap[b]? = some (.cells #[.pointer (some ⟨b, 0, none⟩), .slice none 0 0] 154 (0, 0)) := by
    rw [hgrow.block b hlt (fun e => by cases e)]
    exact hbk
  have d0 : w2.cell? ⟨b, 0, none⟩ = some (.pointer (some ⟨b, 0, none⟩)) := by rw [Lib.cell_of_heap hb2]; rfl
  have d1 : w2.cell? ⟨b, 1, none⟩ = some (.slice none 0 0) := by rw [Lib.cell_of_heap hb2]; rfl
  have f1 : w2.frozen? ⟨b, 1, none⟩ = false := Lib.frozen_of_heap hb2 1
  have hs2 := Lib.hid hgrow.size
  obtain ⟨ao, n', cap, rfl⟩ : ∃ ao n' cap, v' = .slice ao n' cap := by
    rcases hown'.2 with ⟨hv, _⟩ | ⟨g, cap, cur, hv, _⟩
    · exact ⟨_, _, _, hv⟩
    · exact ⟨_, _, _, hv⟩
  have HO := Lib.hid hown'
  clear hown'
  go_wp2
  go_ret2
  have hsz := HZ.out
  have hfr := HF.out
  have hs3 := hs2.out
  have hoB := owns_lower HO.out (show B ≤ w1.heap.size by omega)
  have hne2 := Lib.ownBlock_ne hoB hb2 (by decide)
  refine ⟨rfl, ⟨.slice ao n' cap, ⟨hB, .pointer (some ⟨b, 0, none⟩), .inr rfl, ?_, ?_⟩, ?_, fun hz => HNIL.out.2 hz⟩, ⟨?_, ?_⟩, ?_⟩
  · simp [World.setCell, Array.getElem?_modify, hb2]
  · have := hoB.kept (w' := w2.setCell ⟨b, 1, none⟩ (.slice ao n' cap)) (row := some b) ⟨rfl, rfl, rfl, by simp [World.setCell], fun k _ hk => Below.heap_setCell _ _ _ _ (fun e => hk (by simp [e]))⟩ (Or.inr hne2)
    simpa [Lib.strCells_length] using this
  · rcases HO.out.2 with ⟨h5, _⟩ | ⟨g, cp, cur, h5, h6, _⟩
    · exact .inl (by rw [h5]; rfl)
    · refine .inr ⟨g, by rw [h5]; rfl, by omega⟩
  · simp [World.setCell]; omega
  · intro i hi hib hir
    rw [Below.heap_setCell _ _ _ _ hib, hgrow.block i (by omega) (fun e => by cases e)]
    exact hfr i hib
  · exact (hb1.grown hgrow (by omega) (fun k hk => by cases hk)).setCell (p := ⟨b, 1, none⟩) hB _
end Go.Proofs.YtfibaopngpfmjaaGreatDoor
