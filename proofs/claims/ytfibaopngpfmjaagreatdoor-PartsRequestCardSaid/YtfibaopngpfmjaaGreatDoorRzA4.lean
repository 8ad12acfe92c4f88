/- The scanner's quoted texts and words. Conditions: those that each theorem names. -/
import Derived.Test.YtfibaopngpfmjaaGreatDoorRzA3
import Derived.OwnWalk
import Derived.Lib.Repeat
set_option linter.unusedVariables false
set_option linter.unusedSimpArgs false
set_option maxRecDepth 100000
set_option maxHeartbeats 4000000
namespace Go.Proofs.YtfibaopngpfmjaaGreatDoor
open Go.RowKit Go.Proofs
/-- Every old block but the builder's and its row's is as it was. -/
def Frm (b : Nat) (ro : Option Nat) (w w' : World) : Prop := w.heap.size ≤ w'.heap.size ∧ ∀ i, i < w.heap.size → i ≠ b → some i ≠ ro → w'.heap[i]? = w.heap[i]?
/-- A builder whose row's value is v. -/
def BAt (B b : Nat) (v : Value) (bs : List Value) (w : World) : Prop :=
 B ≤ b ∧ ∃ p, (p = .pointer none ∨ p = .pointer (some ⟨b, 0, none⟩)) ∧ w.heap[b]? = some (.cells #[p, v] 154 (0, 0)) ∧ w.ownsRow B 5 1 v bs.length bs
theorem BAt.isB {B b : Nat} {v : Value} {l : List UInt8} {w : World} (h : BAt B b v (Lib.byteCells l) w) : IsB B b l w := by
 obtain ⟨hB, p, hp, hb, ho⟩ := h
 have hne := Lib.ownBlock_ne ho hb (by decide)
 rcases hp with rfl | rfl
 ·exact .inl ⟨hB, v, hb, ho, hne⟩
 ·exact .inr ⟨hB, v, hb, ho, hne⟩
theorem check_at (B b : Nat) (v : Value) (bs : List Value) (w : World) (h : BAt B b v bs w) :
  Calls Tryz.prog 165 #[.pointer (some ⟨b, 0, none⟩)] w fun e w' => e = .returned (.tuple #[]) ∧ (w'.heap[b]? = some (.cells #[.pointer (some ⟨b, 0, none⟩), v] 154 (0, 0)) ∧ w'.ownsRow B 5 1 v bs.length bs ∧ w'.heap.size = w.heap.size ∧ (∀ i, i ≠ b → w'.heap[i]? = w.heap[i]?) ∧ Below B w w') := by
 obtain ⟨hB, p, hp, hb, ho⟩ := h
 have hne := Lib.ownBlock_ne ho hb (by decide)
 rcases hp with rfl | rfl
 ·have hh : Lib.BuilderAt 154 5 B b (.pointer none) bs w := ⟨hB, v, hb, ho, hne⟩
  refine (check_fresh b w hh.cell0 hh.shape hh.frozen0).mono ?_
  rintro e w' ⟨rfl, rfl⟩
  refine ⟨rfl, ?_, ?_, by simp, fun i hi => Below.heap_setCell _ _ _ _ hi, (Below.refl B w).setCell (p := ⟨b, 0, none⟩) hB _⟩
  ·simp [World.setCell, Array.getElem?_modify, hb]
  ·exact ho.kept (row := some b) ⟨rfl, rfl, rfl, by simp [World.setCell], fun k _ hk => Below.heap_setCell _ _ _ _ (fun e => hk (by simp [e]))⟩ (Or.inr hne)
 ·have hh : Lib.BuilderAt 154 5 B b (.pointer (some ⟨b, 0, none⟩)) bs w := ⟨hB, v, hb, ho, hne⟩
  refine (check_used b w hh.cell0).mono ?_
  rintro e w' ⟨rfl, rfl⟩
  exact ⟨rfl, hb, ho, rfl, fun _ _ => rfl, Below.refl B _⟩
theorem wbyte_at (B b : Nat) (v : Value) (bs : List Value) (c : Int) (w : World) (h : BAt B b v bs w) (hlen : bs.length + 1 ≤ 140737488355328) (hBw : B ≤ w.heap.size) :
  Calls Tryz.prog 151 #[.pointer (some ⟨b, 0, none⟩), .int .u8 c] w fun e w' => e = .returned .nilIface ∧ ((∃ v', BAt B b v' (bs ++ [.int .u8 c]) w' ∧ (v'.ownBlock = v.ownBlock ∨ ∃ k, v'.ownBlock = some k ∧ w.heap.size ≤ k)) ∧ Frm b v.ownBlock w w' ∧ Below B w w') := by
 obtain ⟨i0, hi, hz0, hz1, hz2⟩ := info_parts (P := Tryz.prog) (e := 5) (z := .int .u8 0) (size := 1) (bytes := 1) (by kernel_rfl)
 have hB := h.1
 have HC := lh (check_at B b v bs w h)
 clear h
 go_enter Tryz.func151, Tryz.ntmps151
 go_wp2_with (go_at_call 165; refine HC.out.mono ?_)
 rintro e w1 ⟨rfl, hbk, hown, hsz0, hfr0, hb1⟩
 have HZ := lh hsz0
 have HF := lh hfr0
 clear hsz0 hfr0
 have hne := Lib.ownBlock_ne hown hbk (by decide)
 have c0 : w1.cell? ⟨b, 0, none⟩ = some (.pointer (some ⟨b, 0, none⟩)) := by rw [Lib.cell_of_heap hbk]; rfl
 have c1 : w1.cell? ⟨b, 1, none⟩ = some v := by rw [Lib.cell_of_heap hbk]; rfl
 go_wp2_with (at_builtin; refine wpList_append_own_at _ rfl _ _ 152 rfl B 5 i0 (.int .u8 0) 1 1 Tryz.underlying152 hi hz0 hz1 hz2 rfl (by decide) _ _ _ rfl (hown.alloc _) ⟨w1.heap.size, 0, none⟩ 1 1 [.int .u8 c] rfl rfl ?c1 ?c2 ?c3 ?c4 ?c5 ?_)
 case c1 =>
  intro j u hj
  match j, hj with
  | 0, hj => simp at hj; subst hj; simp [Addr.add]
 case c2 => intro u hu; simp at hu; subst hu; rfl
 case c3 => unfold maxLen; omega
 case c4 => omega
 case c5 => have := HZ.out; simp; omega
 intro v' w2 hown' hgrow _ hat
 have hlt : b < w1.heap.size := row_ltP hbk
 have hb2 : w2.heap[b]? = some (.cells #[.pointer (some ⟨b, 0, none⟩), v] 154 (0, 0)) := by
  rw [hgrow.block b (by simp; omega) (fun e => hne e.symm), Lib.alloc_old w1 _ b hlt]
  exact hbk
 have d0 : w2.cell? ⟨b, 0, none⟩ = some (.pointer (some ⟨b, 0, none⟩)) := by rw [Lib.cell_of_heap hb2]; rfl
 have d1 : w2.cell? ⟨b, 1, none⟩ = some v := by rw [Lib.cell_of_heap hb2]; rfl
 have f1 : w2.frozen? ⟨b, 1, none⟩ = false := Lib.frozen_of_heap hb2 1
 have hs2 := hgrow.size
 obtain ⟨g, cap, rfl⟩ : ∃ g cap, v' = .slice (some ⟨g, 0, none⟩) (bs.length + 1) cap := by
  rcases hown'.2 with ⟨_, h0⟩ | ⟨g, cap, cur, hv, _⟩
  ·omega
  ·exact ⟨g, cap, hv⟩
 have A := lh hat
 clear hat
 go_wp2
 go_ret
 have hsz := HZ.out
 have hfr := HF.out
 have hne2 := Lib.ownBlock_ne hown' hb2 (by decide)
 refine ⟨rfl, ⟨.slice (some ⟨g, 0, none⟩) (bs.length + 1) cap, ⟨hB, .pointer (some ⟨b, 0, none⟩), .inr rfl, ?_, ?_⟩, ?_⟩, ⟨?_, ?_⟩, ?_⟩
 ·simp [World.setCell, Array.getElem?_modify, hb2]
 ·have := hown'.kept (w' := w2.setCell ⟨b, 1, none⟩ (.slice (some ⟨g, 0, none⟩) (bs.length + 1) cap)) (row := some b) ⟨rfl, rfl, rfl, by simp [World.setCell], fun k _ hk => Below.heap_setCell _ _ _ _ (fun e => hk (by simp [e]))⟩ (Or.inr hne2)
  simpa using this
 ·rcases A.out with h5 | h5
  ·exact .inl h5
  ·refine .inr ⟨_, h5, ?_⟩
   omega
 ·simp [World.setCell] at hs2 ⊢; omega
 ·intro i hi hib hir
  rw [Below.heap_setCell _ _ _ _ hib, hgrow.block i (by simp; omega) hir, Lib.alloc_old w1 _ i (by omega)]
  exact hfr i hib
 ·exact ((hb1.alloc (by omega) _).grown hgrow (by simp; omega) (fun k hk => (hown.lt k hk).1)).setCell (p := ⟨b, 1, none⟩) hB _
theorem owns_lower {w : World} {B B' : Nat} {e : TypeId} {z : Nat} {v : Value} {n : Nat} {xs : List Value} (h : w.ownsRow B e z v n xs) (hB : B' ≤ B) : w.ownsRow B' e z v n xs := by
 refine ⟨h.1, ?_⟩
 rcases h.2 with h2 | ⟨g, cap, cur, hv, hb, h3⟩
 ·exact .inl h2
 ·exact .inr ⟨g, cap, cur, hv, Nat.le_trans hB hb, h3⟩
theorem wstring_new (B b : Nat) (s : ByteArray) (w : World) (h : BAt B b (.slice none 0 0) [] w) (hlen : s.size ≤ 140737488355328) (hBw : B ≤ w.heap.size) :
  Calls Tryz.prog 105 #[.pointer (some ⟨b, 0, none⟩), .string s] w fun e w' => e = .returned (.tuple #[.int .i64 s.size, .nilIface]) ∧ ((∃ v', BAt B b v' (Lib.strCells s) w' ∧ (v'.ownBlock = none ∨ ∃ k, v'.ownBlock = some k ∧ w.heap.size ≤ k) ∧ (s = ByteArray.empty → v' = .slice none 0 0)) ∧ Frm b none w w' ∧ Below B w w') := by
 obtain ⟨i0, hi, hz0, hz1, hz2⟩ := info_parts (P := Tryz.prog) (e := 5) (z := .int .u8 0) (size := 1) (bytes := 1) (by kernel_rfl)
 have hB := h.1
 have HC := lh (check_at B b (.slice none 0 0) [] w h)
 clear h
 go_enter Tryz.func105, Tryz.ntmps105
 go_wp2_with (go_at_call 165; refine HC.out.mono ?_)
 rintro e w1 ⟨rfl, hbk, hown, hsz0, hfr0, hb1⟩
 have HZ := lh hsz0
 have HF := lh hfr0
 clear hsz0 hfr0
 have hown2 : w1.ownsRow w1.heap.size 5 1 (.slice none 0 0) 0 [] := ⟨rfl, .inl ⟨rfl, rfl⟩⟩
 have c0 : w1.cell? ⟨b, 0, none⟩ = some (.pointer (some ⟨b, 0, none⟩)) := by rw [Lib.cell_of_heap hbk]; rfl
 have c1 : w1.cell? ⟨b, 1, none⟩ = some (.slice none 0 0) := by rw [Lib.cell_of_heap hbk]; rfl
 go_wp2_with (at_builtin; refine Lib.wpList_append_own_string _ rfl _ _ 152 9 rfl w1.heap.size 5 i0 Tryz.underlying152 Tryz.underlying9 hi hz0 hz1 hz2 _ _ _ rfl hown2 s rfl ?c3 ?c4 ?c5 ?_)
 case c3 => unfold maxLen; omega
 case c4 => omega
 case c5 => exact Nat.le_refl _
 intro v' w2 hown' hgrow hnil
 have HNIL := lh hnil
 clear hnil
 have hlt : b < w1.heap.size := row_ltP hbk
 have hb2 : w2.heap[b]? = some (.cells #[.pointer (some ⟨b, 0, none⟩), .slice none 0 0] 154 (0, 0)) := by
  rw [hgrow.block b hlt (fun e => by cases e)]
  exact hbk
 have d0 : w2.cell? ⟨b, 0, none⟩ = some (.pointer (some ⟨b, 0, none⟩)) := by rw [Lib.cell_of_heap hb2]; rfl
 have d1 : w2.cell? ⟨b, 1, none⟩ = some (.slice none 0 0) := by rw [Lib.cell_of_heap hb2]; rfl
 have f1 : w2.frozen? ⟨b, 1, none⟩ = false := Lib.frozen_of_heap hb2 1
 have hs2 := lh hgrow.size
 obtain ⟨ao, n', cap, rfl⟩ : ∃ ao n' cap, v' = .slice ao n' cap := by
  rcases hown'.2 with ⟨hv, _⟩ | ⟨g, cap, cur, hv, _⟩
  ·exact ⟨_, _, _, hv⟩
  ·exact ⟨_, _, _, hv⟩
 have HO := lh hown'
 clear hown'
 go_wp2
 go_ret2
 have hsz := HZ.out
 have hfr := HF.out
 have hs3 := hs2.out
 have hoB := owns_lower HO.out (show B ≤ w1.heap.size by omega)
 have hne2 := Lib.ownBlock_ne hoB hb2 (by decide)
 refine ⟨rfl, ⟨.slice ao n' cap, ⟨hB, .pointer (some ⟨b, 0, none⟩), .inr rfl, ?_, ?_⟩, ?_, fun hz => HNIL.out.2 hz⟩, ⟨?_, ?_⟩, ?_⟩
 ·simp [World.setCell, Array.getElem?_modify, hb2]
 ·have := hoB.kept (w' := w2.setCell ⟨b, 1, none⟩ (.slice ao n' cap)) (row := some b) ⟨rfl, rfl, rfl, by simp [World.setCell], fun k _ hk => Below.heap_setCell _ _ _ _ (fun e => hk (by simp [e]))⟩ (Or.inr hne2)
  simpa [Lib.strCells_length] using this
 ·rcases HO.out.2 with ⟨h5, _⟩ | ⟨g, cp, cur, h5, h6, _⟩
  ·exact .inl (by rw [h5]; rfl)
  ·refine .inr ⟨g, by rw [h5]; rfl, by omega⟩
 ·simp [World.setCell]; omega
 ·intro i hi hib hir
  rw [Below.heap_setCell _ _ _ _ hib, hgrow.block i (by omega) (fun e => by cases e)]
  exact hfr i hib
 ·exact (hb1.grown hgrow (by omega) (fun k hk => by cases hk)).setCell (p := ⟨b, 1, none⟩) hB _
def Two (B b1 b2 : Nat) (l1 l2 : List UInt8) (W : World) : Prop :=
 b1 ≠ b2 ∧ ∃ v1 v2, BAt B b1 v1 (Lib.byteCells l1) W ∧ BAt B b2 v2 (Lib.byteCells l2) W ∧ (v1.ownBlock = none ∨ v2.ownBlock = none ∨ v1.ownBlock ≠ v2.ownBlock)
theorem Two.symm {B b1 b2 : Nat} {l1 l2 : List UInt8} {W : World} (h : Two B b1 b2 l1 l2 W) : Two B b2 b1 l2 l1 W := by
 obtain ⟨hn, v1, v2, h1, h2, h3⟩ := h
 refine ⟨fun e => hn e.symm, v2, v1, h2, h1, ?_⟩
 rcases h3 with h3 | h3 | h3
 ·exact .inr (.inl h3)
 ·exact .inl h3
 ·exact .inr (.inr fun e => h3 e.symm)
theorem Two.left {B b1 b2 : Nat} {l1 l2 : List UInt8} {W : World} (h : Two B b1 b2 l1 l2 W) : IsB B b1 l1 W := by
 obtain ⟨_, v1, v2, h1, _⟩ := h
 exact h1.isB
/-- A builder that another's writing leaves alone. -/
theorem BAt.frm {B b b' : Nat} {v : Value} {ro : Option Nat} {bs : List Value} {w w' : World} (h : BAt B b v bs w) (hf : Frm b' ro w w') (hb : b ≠ b') (hro : some b ≠ ro) (hv : v.ownBlock = none ∨ v.ownBlock ≠ ro) (hvb : v.ownBlock ≠ some b') : BAt B b v bs w' := by
 obtain ⟨hB, p, hp, hbk, ho⟩ := h
 refine ⟨hB, p, hp, (hf.2 b (row_ltP hbk) hb hro).trans hbk, ho.1, ?_⟩
 rcases ho.2 with h2 | ⟨g, cap, cur, e1, e2, e3, e4⟩
 ·exact .inl h2
 ·subst e1
  refine .inr ⟨g, cap, cur, rfl, e2, (hf.2 g (row_ltP e3) (fun e => hvb (by rw [e]; rfl)) ?_).trans e3, e4⟩
  rcases hv with hv | hv
  ·cases hv
  ·exact hv
theorem BAt.ne {B b b' : Nat} {v v' : Value} {bs bs' : List Value} {w : World} (h : BAt B b v bs w) (h' : BAt B b' v' bs' w) : v.ownBlock ≠ some b' := by
 obtain ⟨_, p, _, hbk, ho⟩ := h
 obtain ⟨_, p', _, hbk', ho'⟩ := h'
 exact Lib.ownBlock_ne ho hbk' (by decide)
theorem BAt.row {B b k : Nat} {v : Value} {bs : List Value} {w : World} (h : BAt B b v bs w) (hk : v.ownBlock = some k) : k < w.heap.size := by
 obtain ⟨_, p, _, hbk, ho⟩ := h
 exact (ho.lt k hk).2
theorem wb_two (B b1 b2 : Nat) (l1 l2 : List UInt8) (c : UInt8) (z : Int) (hz : z = (c.toNat : Int)) (w : World) (h : Two B b1 b2 l1 l2 w) (hlen : l1.length ≤ 1099511627776) (hBw : B ≤ w.heap.size) :
  Calls Tryz.prog 151 #[.pointer (some ⟨b1, 0, none⟩), .int .u8 z] w fun e w' => e = .returned .nilIface ∧ (Two B b1 b2 (l1 ++ [c]) l2 w' ∧ Below B w w') := by
 obtain ⟨hn, v1, v2, h1, h2, h3⟩ := h
 refine (wbyte_at B b1 v1 (Lib.byteCells l1) z w h1 (by rw [Lib.byteCells_length]; omega) hBw).mono ?_
 rintro e w' ⟨he, ⟨v', hb, hro⟩, hf, hbl⟩
 have e21 := h2.ne h1
 have k2 : BAt B b2 v2 (Lib.byteCells l2) w' := h2.frm hf (fun e => hn e.symm) (fun e => h1.ne h2 e.symm) (by
  rcases h3 with h3 | h3 | h3
  ·rcases hx : v2.ownBlock with _ | k
   ·exact .inl rfl
   ·exact .inr (by rw [h3]; intro e; cases e)
  ·exact .inl h3
  ·exact .inr fun e => h3 e.symm) e21
 refine ⟨he, ⟨hn, v', v2, ?_, k2, ?_⟩, hbl⟩
 ·rw [Lib.byteCells_append]
  subst hz
  exact hb
 ·rcases hx : v2.ownBlock with _ | k
  ·exact .inr (.inl rfl)
  ·rcases hro with e | ⟨m, e, hm⟩
   ·rw [e]
    rcases h3 with h3 | h3 | h3
    ·exact .inl h3
    ·rw [h3] at hx; cases hx
    ·exact .inr (.inr (by rw [← hx]; exact h3))
   ·have := h2.row hx
    refine .inr (.inr ?_)
    rw [e]
    intro e2
    cases e2
    omega
/-- Both are new. -/
def Fresh2 (B b1 b2 : Nat) (W : World) : Prop := b1 ≠ b2 ∧ BAt B b1 (.slice none 0 0) [] W ∧ BAt B b2 (.slice none 0 0) [] W
theorem Fresh2.two {B b1 b2 : Nat} {W : World} (h : Fresh2 B b1 b2 W) : Two B b1 b2 [] [] W := ⟨h.1, _, _, h.2.1, h.2.2, .inl rfl⟩
theorem bat_new (w : World) (B : Nat) (hB : B ≤ w.heap.size) : BAt B w.heap.size (.slice none 0 0) [] (w.alloc (.cells #[.pointer none, .slice none 0 0] 154)) :=
 ⟨hB, .pointer none, .inl rfl, Array.getElem?_push_size, rfl, .inl ⟨rfl, rfl⟩⟩
theorem BAt.far {B b g : Nat} {v : Value} {bs : List Value} {w w' : World} (h : BAt B b v bs w) (hg : w.grownBy w' (some g)) (hlt : g < B) : BAt B b v bs w' := by
 have hB := h.1
 refine h.frm (b' := g) (ro := none) ⟨hg.size, fun i hi hn _ => hg.block i hi (fun e => hn (Option.some.inj e))⟩ (by omega) (fun e => by cases e) ?_ ?_
 ·rcases hx : v.ownBlock with _ | k
  ·exact .inl rfl
  ·exact .inr fun e => by cases e
 ·obtain ⟨_, p, _, hbk, ho⟩ := h
  intro e
  have := (ho.lt g e).1
  omega
theorem fresh2_new (w : World) : Fresh2 w.heap.size w.heap.size (w.heap.size + 1) ((w.alloc (.cells #[.pointer none, .slice none 0 0] 154)).alloc (.cells #[.pointer none, .slice none 0 0] 154)) := by
 refine ⟨by omega, ?_, ?_⟩
 ·obtain ⟨hB, p, hp, hbk, ho⟩ := bat_new w w.heap.size (Nat.le_refl _)
  exact ⟨hB, p, hp, (Lib.alloc_old _ _ _ (row_ltP hbk)).trans hbk, rfl, .inl ⟨rfl, rfl⟩⟩
 ·have := bat_new (w.alloc (.cells #[.pointer none, .slice none 0 0] 154)) w.heap.size (by simp)
  simpa using this
theorem Fresh2.far {B b1 b2 g : Nat} {w w' : World} (h : Fresh2 B b1 b2 w) (hg : w.grownBy w' (some g)) (hlt : g < B) : Fresh2 B b1 b2 w' := ⟨h.1, h.2.1.far hg hlt, h.2.2.far hg hlt⟩
theorem Two.far {B b1 b2 g : Nat} {l1 l2 : List UInt8} {w w' : World} (h : Two B b1 b2 l1 l2 w) (hg : w.grownBy w' (some g)) (hlt : g < B) : Two B b1 b2 l1 l2 w' := by
 obtain ⟨hn, v1, v2, h1, h2, h3⟩ := h
 exact ⟨hn, v1, v2, h1.far hg hlt, h2.far hg hlt, h3⟩
/-- A text into a builder that is new, beside another. -/
theorem ws_two (B b1 b2 : Nat) (v2 : Value) (l2 p : List UInt8) (w : World) (hn : b1 ≠ b2) (h1 : BAt B b1 (.slice none 0 0) [] w) (h2 : BAt B b2 v2 (Lib.byteCells l2) w) (hlen : p.length ≤ 1099511627776) (hBw : B ≤ w.heap.size) :
  Calls Tryz.prog 105 #[.pointer (some ⟨b1, 0, none⟩), .string (T p)] w fun e w' => e = .returned (.tuple #[.int .i64 (p.length : Int), .nilIface]) ∧ ((∃ v1, BAt B b1 v1 (Lib.byteCells p) w' ∧ BAt B b2 v2 (Lib.byteCells l2) w' ∧ (v1.ownBlock = none ∨ v2.ownBlock = none ∨ v1.ownBlock ≠ v2.ownBlock) ∧ (p = [] → v1 = .slice none 0 0)) ∧ Below B w w') := by
 have hsz : (T p).size = p.length := T_size p
 refine (wstring_new B b1 (T p) w h1 (by rw [hsz]; omega) hBw).mono ?_
 rintro e w' ⟨he, ⟨v', hb, hro, hnil⟩, hf, hbl⟩
 refine ⟨by rw [he, hsz], ⟨v', hb, ?_, ?_, fun hp => hnil (by rw [hp]; rfl)⟩, hbl⟩
 ·refine h2.frm hf (fun e => hn e.symm) (fun e => by cases e) ?_ (h2.ne h1)
  rcases hx : v2.ownBlock with _ | k
  ·exact .inl rfl
  ·exact .inr fun e => by cases e
 ·rcases hro with e | ⟨m, e, hm⟩
  ·exact .inl e
  ·rcases hx : v2.ownBlock with _ | k
   ·exact .inr (.inl rfl)
   ·have := h2.row hx
    refine .inr (.inr ?_)
    rw [e]
    intro e2
    cases e2
    omega
theorem frm_freeze (w : World) (b g n : Nat) : Frm b (some g) w (w.drew.freeze ⟨g, 0, none⟩ n) := by
 refine ⟨(Lib.below_freeze (Below.drew (Below.refl 0 w)) (p := ⟨g, 0, none⟩) (Nat.zero_le _) n).size, ?_⟩
 intro i hi hib hir
 have hig : g ≠ i := fun e => hir (by rw [e])
 unfold World.freeze
 split
 ·rfl
 ·simp only [Array.getElem?_modify]
  rw [if_neg hig]
  rfl
theorem bstr_at (B b : Nat) (v : Value) (l : List UInt8) (w : World) (h : BAt B b v (Lib.byteCells l) w) (h0 : l ≠ []) (hBw : B ≤ w.heap.size) :
  Calls Tryz.prog 107 #[.pointer (some ⟨b, 0, none⟩)] w fun e w' => e = .returned (.string (T l)) ∧ (Frm b v.ownBlock w w' ∧ Below B w w') := by
 obtain ⟨hB, p, hp, hbk, hown⟩ := h
 have hl0 : l.length ≠ 0 := by simpa using h0
 rw [Lib.byteCells_length] at hown
 obtain ⟨g, cap, cur, rfl, hbg, hg, hnc, hcm, hcs, htake⟩ : ∃ g cap cur, v = .slice (some ⟨g, 0, none⟩) l.length cap ∧ B ≤ g ∧ w.heap[g]? = some (.cells cur 5 (0, 0)) ∧ l.length ≤ cap ∧ cap ≤ maxLen ∧ cur.size = cap * 1 ∧ cur.toList.take (l.length * 1) = Lib.byteCells l := by
  rcases hown.2 with ⟨_, hz⟩ | ⟨g, cap, cur, hv, r⟩
  ·exact absurd hz hl0
  ·exact ⟨g, cap, cur, hv, r⟩
 have c1 : w.drew.cell? ⟨b, 1, none⟩ = some (.slice (some ⟨g, 0, none⟩) l.length cap) := by
  have : w.drew.heap[b]? = some (.cells #[p, .slice (some ⟨g, 0, none⟩) l.length cap] 154 (0, 0)) := hbk
  rw [Lib.cell_of_heap this]; rfl
 have hSD : (Builtin.unsafeSliceData_ #[152] 216 #[.slice (some ⟨g, 0, none⟩) l.length cap]).run Tryz.prog w.drew = .ok (.pointer (some ⟨g, 0, none⟩)) w.drew :=
  Lib.run_unsafeSliceData_row _ _ _ _ _ _ (by omega)
 have hUS : (Builtin.unsafeString_ #[216, 3] 9 #[.pointer (some ⟨g, 0, none⟩), .int .i64 l.length]).run Tryz.prog w.drew = .ok (.string (T l)) (w.drew.freeze ⟨g, 0, none⟩ l.length) := by
  refine Lib.run_unsafeString_row w.drew 216 3 9 5 Tryz.underlying216 (by kernel_rfl) g cur.size (by have hg' : w.drew.heap[g]? = some (.cells cur 5 (0, 0)) := hg; simp [World.shape?, hg']) l h0 (by omega) (by unfold maxLen at hcm; omega) ?_
  intro j x hx
  have := hown.cells (g := g) rfl j (.int .u8 x.toNat) (by simp [Lib.byteCells, hx])
  exact this
 have HZ := lh hbg
 have HFr := lh (frm_freeze w b g l.length)
 have mixed : Tryz.prog.follows .mixedOrders = true := by kernel_rfl
 go_enter Tryz.func107, Tryz.ntmps107
 go_wp2
 go_region_o
 all_goals (go_wp2; go_ret; exact ⟨rfl, HFr.out, Lib.below_freeze (Below.drew (Below.refl B w)) (p := ⟨g, 0, none⟩) HZ.out _⟩)
theorem bstr_nil (B b : Nat) (w : World) (h : BAt B b (.slice none 0 0) [] w) :
  Calls Tryz.prog 107 #[.pointer (some ⟨b, 0, none⟩)] w fun e w' => e = .returned (.string (T [])) ∧ w' = w.drew := by
 obtain ⟨hB, p, hp, hbk, hown⟩ := h
 have hUS : (Builtin.unsafeString_ #[216, 3] 9 #[.pointer none, .int .i64 0]).run Tryz.prog w.drew = .ok (.string .empty) w.drew := Lib.run_unsafeString_none w.drew _ _ _ none
 have c1 : w.drew.cell? ⟨b, 1, none⟩ = some (.slice none 0 0) := by
  have : w.drew.heap[b]? = some (.cells #[p, .slice none 0 0] 154 (0, 0)) := hbk
  rw [Lib.cell_of_heap this]; rfl
 have hSD : (Builtin.unsafeSliceData_ #[152] 216 #[.slice none 0 0]).run Tryz.prog w.drew = .ok (.pointer none) w.drew := rfl
 have mixed : Tryz.prog.follows .mixedOrders = true := by kernel_rfl
 clear hown hbk hp
 go_enter Tryz.func107, Tryz.ntmps107
 go_wp2
 go_region_o
 all_goals (go_wp2; go_ret; exact ⟨rfl, rfl⟩)
/-- What stands behind a word: the end, or a blank. -/
def Lx.stop (tl : List UInt8) : Prop := tl = [] ∨ ∃ t, tl = 32 :: t
theorem Lx.stop_ord {tl : List UInt8} (h : Lx.stop tl) : Lx.ord tl = false ∧ Go.Lib.hasPrefix tl [39] = false := by
 rcases h with rfl | ⟨t, rfl⟩
 ·exact ⟨rfl, rfl⟩
 ·refine ⟨?_, by rw [hasPrefix_cons]; rfl⟩
  show (!Lx.special 32 && !Go.Lib.hasPrefix (32 :: t) [92, 10]) = false
  rw [show Lx.special 32 = true from by decide]
  rfl
/-- Bytes that need no quotes. -/
def Lx.simple (v : List UInt8) : Prop := ∀ c ∈ v, Lx.special c = false ∧ c ≠ 92
theorem Lx.ord_of {c : UInt8} {r : List UInt8} (h : Lx.special c = false ∧ c ≠ 92) : Lx.ord (c :: r) = true := by
 show (!Lx.special c && !Go.Lib.hasPrefix (c :: r) [92, 10]) = true
 rw [h.1]
 have : Go.Lib.hasPrefix (c :: r) [92, 10] = false := by
  unfold Go.Lib.hasPrefix
  have e : ((92 : UInt8) == c) = false := by simpa using fun e => h.2 e.symm
  simp [List.isPrefixOf, e]
 rw [this]; rfl
def WS (w0 : World) (g B b1 b2 : Nat) (s v tl : List UInt8) (en : Nat) (tv : Value) (k : Nat) (W : World) : Prop :=
 ∃ u v' at', v = u ++ v' ∧ s.drop at' = v' ++ tl ∧ ScRow W g s at' en tv ∧ Two B b1 b2 u (List.replicate u.length 48) W ∧ w0.grownBy W (some g) ∧ B ≤ W.heap.size ∧ k = v'.length ∧ at' ≤ s.length
theorem word_plain (g : Nat) (s v tl : List UInt8) (at_ en : Nat) (tv : Value) (w : World) (h : ScRow w g s at_ en tv) (ha : at_ ≤ s.length) (hs : s.length ≤ 10000) (hd : s.drop at_ = v ++ tl) (hv : Lx.simple v) (hv0 : v ≠ []) (htl : Lx.stop tl) :
  Calls Tryz.prog 88 #[.pointer (some ⟨g, 0, none⟩)] w fun e w' => e = .returned (.tuple #[.string (T v), .string (T (List.replicate v.length 48)), .bool true]) ∧ ScRow w' g s (s.length - tl.length) en tv ∧ w.grownBy w' (some g) := by
 have hgl := row_ltP h
 have HF := lh (fresh2_new w).two
 have HB := lh (show Below w.heap.size w ((w.alloc (.cells #[.pointer none, .slice none 0 0] 154)).alloc (.cells #[.pointer none, .slice none 0 0] 154)) from ((Below.refl w.heap.size w).alloc (Nat.le_refl _) _).alloc (by simp) _)
 have HG := lh (below_grownBy HB.out (some g))
 have HS := lh (h.belowB HB.out hgl)
 have A := lh (And.intro ha (And.intro hs (And.intro hd (And.intro hv htl))))
 clear h ha hs hd hv htl
 go_enter Tryz.func88, Tryz.ntmps88
 go_wp2_with fail
 clear HB
 generalize World.alloc _ _ = w1 at *
 go_loopg [] v.length (fun k W => WS w g w.heap.size w.heap.size (w.heap.size + 1) s v tl en tv k W)
 case atStart =>
  exact ⟨[], v, at_, rfl, A.out.2.2.1, HS.out, HF.out, HG.out, HG.out.size, rfl, A.out.1⟩
 case round =>
  obtain ⟨u, v', at', hv, hd, hsr, htw, hgr, hbs, hk, hle⟩ := hrel
  have hs := A.out.2.1
  have HR := lh (rest_any g s at' en tv wr hsr hle hs)
  have HO := lh (ordinary_any g s at' en tv wr hsr hle hs)
  rw [hd] at HR HO
  have HV := lh (And.intro hv (And.intro hd hk))
  have HSR := lh hsr
  have HTW := lh htw
  have HGR := lh hgr
  have hul : u.length ≤ 10000 := by
   have e1 := congrArg List.length A.out.2.2.1
   rw [List.length_drop, hv] at e1
   simp at e1
   omega
  clear hv hd hk hsr htw hgr hs
  cases v' with
  | nil =>
   have hot : Lx.ord ([] ++ tl) = false := (Lx.stop_ord A.out.2.2.2.2).1
   rw [hot] at HO
   have hqt : Go.Lib.hasPrefix tl [39] = false := (Lx.stop_ord A.out.2.2.2.2).2
   have HPX := lh (fun (W : World) => hp_any tl [39] W)
   rw [hqt] at HPX
   have HR' := lh (fun (W : World) (h : ScRow W g s at' en tv) => rest_any g s at' en tv W h hle A.out.2.1)
   rw [HV.out.2.1, List.nil_append] at HR'
   clear hot hqt HR
   go_wp2_with fail
   (with_reducible refine HO.out.mono ?_); rintro e w2 ⟨rfl, b2⟩
   have HS2 := lh (HSR.out.next b2)
   have HG2 := lh (HGR.out.trans (below_grownBy b2 (some g)))
   have HT2 := lh (HTW.out.far (below_grownBy b2 (some g)) hgl)
   clear b2
   go_wp2_with fail
   (with_reducible refine (HR'.out _ HS2.out).mono ?_); rintro e w3 ⟨rfl, b3⟩
   have HS3 := lh (HS2.out.next b3)
   have HG3 := lh (HG2.out.trans (below_grownBy b3 (some g)))
   have HT3 := lh (HT2.out.far (below_grownBy b3 (some g)) hgl)
   clear b3
   go_wp2_with fail
   (with_reducible refine (HPX.out _).mono ?_); rintro e w4 ⟨rfl, rfl⟩
   obtain ⟨hv, hd, hk⟩ := HV.out
   have huv : u = v := by rw [hv]; simp
   have hu0 : u ≠ [] := by rw [huv]; exact hv0
   obtain ⟨hn12, v1, v2, h1, h2, h3⟩ := HT3.out
   have HN := lh (And.intro h1 (And.intro h2 h3))
   have HSA := lh (bstr_at w.heap.size w.heap.size v1 u w4 h1 hu0 HG3.out.size)
   have HE := lh huv
   clear h1 h2 h3 hv hd hk huv hu0
   go_wp2_with fail
   (with_reducible refine HSA.out.mono ?_); rintro e w5 ⟨rfl, hf5, b5⟩
   have HS5 := lh (HS3.out.belowB b5 hgl)
   have HG5 := lh (grown_belowB HG3.out b5 (Nat.le_refl _))
   have hk2 : BAt w.heap.size (w.heap.size + 1) v2 (Lib.byteCells (List.replicate u.length 48)) w5 := by
    obtain ⟨h1, h2, h3⟩ := HN.out
    refine h2.frm hf5 (by omega) (fun e => h1.ne h2 e.symm) ?_ (h2.ne h1)
    rcases h3 with h3 | h3 | h3
    ·rcases hx : v2.ownBlock with _ | k
     ·exact .inl rfl
     ·exact .inr (by rw [h3]; intro e; cases e)
    ·exact .inl h3
    ·exact .inr fun e => h3 e.symm
   have HSB := lh (bstr_any w.heap.size (w.heap.size + 1) (List.replicate u.length 48) w5 hk2.isB HG5.out.size)
   clear hf5 b5 hk2
   go_wp2_with fail
   (with_reducible refine HSB.out.mono ?_); rintro e w6 ⟨rfl, b6⟩
   have HS6 := lh (HS5.out.belowB b6 hgl)
   have HG6 := lh (grown_belowB HG5.out b6 (Nat.le_refl _))
   clear b6
   go_wp2_with fail
   go_ret3
   refine ⟨by rw [← HE.out]; rfl, ?_, HG6.out⟩
   have e1 : s.length - tl.length = at' := by
    have := congrArg List.length HV.out.2.1
    rw [List.length_drop] at this
    simp at this
    omega
   rw [e1]
   exact HS6.out
  | cons c r =>
   have hcs := A.out.2.2.2.1 c (by rw [HV.out.1]; simp)
   have hot : Lx.ord (c :: r ++ tl) = true := Lx.ord_of hcs
   rw [hot] at HO
   have hal : at' + 1 ≤ s.length := by
    have := congrArg List.length HV.out.2.1
    simp at this
    omega
   have hc1 : (at' : Int) + 1 ≤ (s.length : Int) := by omega
   have hc2 : (s.length : Int) ≤ 10000 := by have := A.out.2.1; omega
   have hc3 : (at' : Int) < ((T s).size : Int) := by rw [T_size]; omega
   have hc4 : (0 : Int) ≤ (at' : Int) := by omega
   have hsz : (T s).size = s.length := T_size s
   have hc5 : (at' : Int) < (s.length : Int) := by omega
   have hgg : ∀ h, (T s)[at']'h = c := by
    intro h
    have e1 : s[at']? = some c := by
     have := congrArg (fun l => l[0]?) HV.out.2.1
     simpa using this
    have e2 : at' < s.length := by omega
    have e3 : s[at'] = c := by rw [List.getElem?_eq_getElem e2] at e1; exact Option.some.inj e1
    rw [← e3]; rfl
   clear hcs hot
   go_wp2_with fail
   (with_reducible refine HO.out.mono ?_); rintro e w2 ⟨rfl, b2⟩
   have HS2 := lh (HSR.out.next b2)
   have HG2 := lh (HGR.out.trans (below_grownBy b2 (some g)))
   have HT2 := lh (HTW.out.far (below_grownBy b2 (some g)) hgl)
   clear b2
   obtain ⟨⟨c0, c1, _⟩, f1, _⟩ := HS2.out.reads
   go_wp2_with fail
   have HSD := lh (HS2.out.next (below_drew1 w2))
   have HGD := lh (HG2.out.trans (below_grownBy (below_drew1 w2) (some g)))
   have HTD := lh (HT2.out.far (below_grownBy (below_drew1 w2) (some g)) hgl)
   have hBD : w.heap.size ≤ w2.drew.heap.size := HG2.out.size
   have HWB := lh (wb_two w.heap.size w.heap.size (w.heap.size + 1) u (List.replicate u.length 48) c (c.toNat : Int) rfl w2.drew HTD.out (by omega) hBD)
   go_region_held3 (fun W' => W'.cell? ⟨g, 0, none⟩ = some (.string (T s)) ∧ W'.cell? ⟨g, 1, none⟩ = some (.int .i64 (at' : Int))) (first | (with_reducible assumption) | (exact ⟨c0, c1⟩) | (exact ⟨cell_below hB4 hgl c0, cell_below hB4 hgl c1⟩)) (first | (go_at_call 151; (with_reducible refine HWB.out.mono ?_); rintro e w4 ⟨rfl, ht4, hB4⟩))
   have HS4 := lh (HSD.out.belowB hB4 hgl)
   have HG4 := lh (grown_belowB HGD.out hB4 (Nat.le_refl _))
   have hBw4 : w.heap.size ≤ w4.heap.size := HG4.out.size
   have HW5 := lh (wb_two w.heap.size (w.heap.size + 1) w.heap.size (List.replicate u.length 48) (u ++ [c]) 48 48 rfl w4 ht4.symm (by rw [List.length_replicate]; omega) hBw4)
   clear ht4 hB4 c0 c1 f1 HSD HGD HTD HS2 HG2 HT2 hBD HWB
   go_wp2_with fail
   (with_reducible refine HW5.out.mono ?_); rintro e w5 ⟨rfl, ht5, b5⟩
   have HS5 := lh (HS4.out.belowB b5 hgl)
   have HG5 := lh (grown_belowB HG4.out b5 (Nat.le_refl _))
   have HT5 := lh ht5.symm
   clear ht5 b5 HW5 HS4 HG4
   obtain ⟨⟨c0, c1, _⟩, f1, _⟩ := HS5.out.reads
   have hw1 : IntKind.i64.wrap ((at' : Int) + 1) = (at' : Int) + 1 := IntWalk.i64_in _ (by omega)
   go_wp2_with fail
   obtain ⟨hv, hd, hk⟩ := HV.out
   go_roundg (r.length)
   case measure => rw [hk]; simp
   case rel =>
    refine ⟨u ++ [c], r, at' + 1, ?_, ?_, ?_, ?_, ?_, ?_, rfl, hal⟩
    ·rw [hv]; simp
    ·exact drop_of s at' [c] _ hd
    ·exact HS5.out.setAt (at' + 1)
    ·have := HT5.out.far (grown_setG (below_grownBy (Below.refl w5.heap.size w5) (some g)) 1 (.int .i64 ((at' : Int) + 1))) hgl
     rw [show (u ++ [c]).length = u.length + 1 from by simp, List.replicate_succ']
     exact this
    ·exact grown_setG HG5.out 1 _
    ·simpa using HG5.out.size
/-- String() of a builder beside another, empty or not. -/
theorem bstr_two (B b : Nat) (v : Value) (l : List UInt8) (w : World) (h : BAt B b v (Lib.byteCells l) w) (h0 : l = [] → v = .slice none 0 0) (hBw : B ≤ w.heap.size) :
  Calls Tryz.prog 107 #[.pointer (some ⟨b, 0, none⟩)] w fun e w' => e = .returned (.string (T l)) ∧ (Frm b v.ownBlock w w' ∧ Below B w w') := by
 cases l with
 | nil =>
  have := h0 rfl
  subst this
  refine (bstr_nil B b w h).mono ?_
  rintro e w' ⟨rfl, rfl⟩
  exact ⟨rfl, ⟨Nat.le_refl _, fun _ _ _ _ => rfl⟩, Below.drew (Below.refl B w)⟩
 | cons c r => exact bstr_at B b v (c :: r) w h (by simp) hBw
theorem Lx.ord_quote (r : List UInt8) : Lx.ord (39 :: r) = false := by
 show (!Lx.special 39 && !Go.Lib.hasPrefix (39 :: r) [92, 10]) = false
 rw [show Lx.special 39 = true from by decide]
 rfl
theorem repeat_one (n : Nat) : Lib.repeatL [49] n = List.replicate n 49 := by
 induction n with
 | zero => rfl
 | succ n ih => simp [Lib.repeatL, List.replicate_succ, ih] at *
theorem repeat_calls (n : Nat) (hn : n ≤ 100000) (W : World) : Calls Tryz.prog 108 #[.string (T [49]), .int .i64 (n : Int)] W fun e w' => e = .returned (.string (T (List.replicate n 49))) ∧ Below W.heap.size W w' := by
 have := strings_Repeat (T [49]) n W (by omega) (by rw [T_size]; simp; omega)
 rw [T_list, repeat_one] at this
 exact this
theorem word_quoted (g : Nat) (s v tl : List UInt8) (at_ en : Nat) (tv : Value) (w : World) (h : ScRow w g s at_ en tv) (ha : at_ ≤ s.length) (hs : s.length ≤ 10000) (hd : s.drop at_ = 39 :: (Lx.esc v ++ 39 :: tl)) (htl : Lx.stop tl) :
  Calls Tryz.prog 88 #[.pointer (some ⟨g, 0, none⟩)] w fun e w' => e = .returned (.tuple #[.string (T v), .string (T (List.replicate v.length 49)), .bool true]) ∧ ScRow w' g s (s.length - tl.length) en tv ∧ w.grownBy w' (some g) := by
 have hgl := row_ltP h
 have HF := lh (fresh2_new w)
 have HB := lh (show Below w.heap.size w ((w.alloc (.cells #[.pointer none, .slice none 0 0] 154)).alloc (.cells #[.pointer none, .slice none 0 0] 154)) from ((Below.refl w.heap.size w).alloc (Nat.le_refl _) _).alloc (by simp) _)
 have HG := lh (below_grownBy HB.out (some g))
 have HS := lh (h.belowB HB.out hgl)
 have hvl : v.length ≤ 10000 := by
  have e1 := congrArg List.length hd
  have e2 := le_esc v
  simp at e1
  omega
 have hdt : s.drop (s.length - tl.length) = tl := by
  have e1 : s.drop (at_ + (39 :: (Lx.esc v ++ [39])).length) = tl := drop_of s at_ (39 :: (Lx.esc v ++ [39])) tl (by rw [hd]; simp)
  have e2 := congrArg List.length hd
  have e3 : s.length - tl.length = at_ + (39 :: (Lx.esc v ++ [39])).length := by
   simp at e2 ⊢
   omega
  rw [e3]; exact e1
 have HO1 := lh (fun (W : World) (h : ScRow W g s at_ en tv) => ordinary_any g s at_ en tv W h ha hs)
 have HR1 := lh (fun (W : World) (h : ScRow W g s at_ en tv) => rest_any g s at_ en tv W h ha hs)
 have HO2 := lh (fun (W : World) (h : ScRow W g s (s.length - tl.length) en tv) => ordinary_any g s (s.length - tl.length) en tv W h (by omega) hs)
 have HR2 := lh (fun (W : World) (h : ScRow W g s (s.length - tl.length) en tv) => rest_any g s (s.length - tl.length) en tv W h (by omega) hs)
 rw [hdt, (Lx.stop_ord htl).1] at HO2
 rw [hdt] at HR2
 have HP2 := lh (fun (W : World) => hp_any tl [39] W)
 rw [(Lx.stop_ord htl).2] at HP2
 have HQ := lh (fun (W : World) (h : ScRow W g s at_ en tv) => quoted_any g s v tl at_ en tv W h hs hd (Lx.stop_ord htl).2)
 rw [hd] at HO1 HR1
 have HP1 := lh (fun (W : World) => hp_any (39 :: (Lx.esc v ++ 39 :: tl)) [39] W)
 rw [hasPrefix_cons, show ((39 : UInt8) == 39) = true from by decide] at HP1
 rw [Lx.ord_quote] at HO1
 generalize 39 :: (Lx.esc v ++ 39 :: tl) = rr at *
 clear h ha hs hd hdt htl
 generalize hat2 : s.length - tl.length = at2 at *
 go_enter Tryz.func88, Tryz.ntmps88
 go_wp2_with fail
 clear HB
 generalize World.alloc _ _ = w1 at *
 refine wp_loop_rounds 2 ?_
 rw [rounds_succ]
 go_wp2_with fail
 (with_reducible refine (HO1.out _ HS.out).mono ?_); rintro e w2 ⟨rfl, b2⟩
 have HS2 := lh (HS.out.next b2)
 have HG2 := lh (HG.out.trans (below_grownBy b2 (some g)))
 have HF2 := lh (HF.out.far (below_grownBy b2 (some g)) hgl)
 clear b2 HS HG HF HO1
 go_wp2_with fail
 (with_reducible refine (HR1.out _ HS2.out).mono ?_); rintro e w3 ⟨rfl, b3⟩
 have HS3 := lh (HS2.out.next b3)
 have HG3 := lh (HG2.out.trans (below_grownBy b3 (some g)))
 have HF3 := lh (HF2.out.far (below_grownBy b3 (some g)) hgl)
 clear b3 HS2 HG2 HF2 HR1
 go_wp2_with fail
 (with_reducible refine (HP1.out _).mono ?_); rintro e w4 ⟨rfl, rfl⟩
 go_wp2_with fail
 (with_reducible refine (HQ.out _ HS3.out).mono ?_); rintro e w5 ⟨rfl, hs5, g5⟩
 have HS5 := lh hs5
 have HG5 := lh (HG3.out.trans g5)
 have HF5 := lh (HF3.out.far g5 hgl)
 clear hs5 g5 HS3 HG3 HF3 HQ
 have HT1 := lh (ws_two w.heap.size w.heap.size (w.heap.size + 1) (.slice none 0 0) [] v w5 HF5.out.1 HF5.out.2.1 HF5.out.2.2 (by omega) HG5.out.size)
 go_wp2_with fail
 (with_reducible refine HT1.out.mono ?_); rintro e w6 ⟨rfl, ⟨v1, k1, k2, hne, hnil⟩, b6⟩
 have HS6 := lh (HS5.out.belowB b6 hgl)
 have HG6 := lh (grown_belowB HG5.out b6 (Nat.le_refl _))
 have HK := lh (And.intro k1 (And.intro k2 hnil))
 have HSZ : (T v).size = v.length := T_size v
 clear b6 HS5 HG5 HF5 HT1 k1 k2 hne hnil
 go_wp2_with fail
 (with_reducible refine (repeat_calls v.length (by omega) _).mono ?_); rintro e w7 ⟨rfl, b7⟩
 have HS7 := lh (HS6.out.next b7)
 have HG7 := lh (HG6.out.trans (below_grownBy b7 (some g)))
 have HK7 := lh (And.intro (HK.out.1.far (below_grownBy b7 (some g)) hgl) (And.intro (HK.out.2.1.far (below_grownBy b7 (some g)) hgl) HK.out.2.2))
 clear b7 HS6 HG6 HK
 have HT2 := lh (ws_two w.heap.size (w.heap.size + 1) w.heap.size v1 v (List.replicate v.length 49) w7 (by omega) HK7.out.2.1 HK7.out.1 (by rw [List.length_replicate]; omega) HG7.out.size)
 go_wp2_with fail
 (with_reducible refine HT2.out.mono ?_); rintro e w8 ⟨rfl, ⟨v2, k2, k1, hne, _⟩, b8⟩
 have HS8 := lh (HS7.out.belowB b8 hgl)
 have HG8 := lh (grown_belowB HG7.out b8 (Nat.le_refl _))
 have HK8 := lh (And.intro k1 (And.intro k2 (And.intro hne HK7.out.2.2)))
 clear b8 HS7 HG7 HT2 k1 k2 hne HK7
 go_wp2_with fail
 rw [rounds_succ]
 go_wp2_with fail
 (with_reducible refine (HO2.out _ HS8.out).mono ?_); rintro e w9 ⟨rfl, b9⟩
 have HS9 := lh (HS8.out.next b9)
 have HG9 := lh (HG8.out.trans (below_grownBy b9 (some g)))
 have HK9 := lh (And.intro (HK8.out.1.far (below_grownBy b9 (some g)) hgl) (And.intro (HK8.out.2.1.far (below_grownBy b9 (some g)) hgl) HK8.out.2.2))
 clear b9 HS8 HG8 HK8 HO2
 go_wp2_with fail
 (with_reducible refine (HR2.out _ HS9.out).mono ?_); rintro e wa ⟨rfl, ba⟩
 have HSa := lh (HS9.out.next ba)
 have HGa := lh (HG9.out.trans (below_grownBy ba (some g)))
 have HKa := lh (And.intro (HK9.out.1.far (below_grownBy ba (some g)) hgl) (And.intro (HK9.out.2.1.far (below_grownBy ba (some g)) hgl) HK9.out.2.2))
 clear ba HS9 HG9 HK9 HR2
 go_wp2_with fail
 (with_reducible refine (HP2.out _).mono ?_); rintro e wb ⟨rfl, rfl⟩
 have HSA := lh (bstr_two w.heap.size w.heap.size v1 v wb HKa.out.1 HKa.out.2.2.2 HGa.out.size)
 go_wp2_with fail
 (with_reducible refine HSA.out.mono ?_); rintro e wc ⟨rfl, hf, bc⟩
 have HSc := lh (HSa.out.belowB bc hgl)
 have HGc := lh (grown_belowB HGa.out bc (Nat.le_refl _))
 have hk2 : BAt w.heap.size (w.heap.size + 1) v2 (Lib.byteCells (List.replicate v.length 49)) wc := by
  obtain ⟨h1, h2, h3, _⟩ := HKa.out
  refine h2.frm hf (by omega) (fun e => h1.ne h2 e.symm) ?_ (h2.ne h1)
  rcases h3 with h3 | h3 | h3
  ·exact .inl h3
  ·rcases hx : v2.ownBlock with _ | k
   ·exact .inl rfl
   ·exact .inr (by rw [h3]; intro e; cases e)
  ·exact .inr h3
 have HSB := lh (bstr_any w.heap.size (w.heap.size + 1) (List.replicate v.length 49) wc hk2.isB HGc.out.size)
 clear hf bc hk2
 go_wp2_with fail
 (with_reducible refine HSB.out.mono ?_); rintro e wd ⟨rfl, bd⟩
 have HSd := lh (HSc.out.belowB bd hgl)
 have HGd := lh (grown_belowB HGc.out bd (Nat.le_refl _))
 clear bd
 go_wp2_with fail
 go_ret3
 exact ⟨rfl, HSd.out, HGd.out⟩
end Go.Proofs.YtfibaopngpfmjaaGreatDoor
