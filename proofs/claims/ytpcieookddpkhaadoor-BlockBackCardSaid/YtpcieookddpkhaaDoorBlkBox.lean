/- A store in a box of its own, which is stored into again and again. Conditions: those that each fact names. -/
import Derived.Test.YtpcieookddpkhaaDoorBlkPlain2
import Derived.Test.YtpcieookddpkhaaDoorBlkLoad
import Derived.Test.YtpcieookddpkhaaDoorBlkUsed
set_option linter.unusedVariables false
set_option linter.unusedSimpArgs false
namespace Go.Proofs.YtpcieookddpkhaaDoor
open Go.RowKit
def BoxSt (g : Nat) (c : Int) (v : Value) (bs : List Blk) (W : World) : Prop :=
  W.heap[g]? = some (.cells #[.int .i64 c, v] 24 (0, 0)) ∧ ∃ base, W.ownsRow base 49 3 v bs.length (bcs bs)
theorem BoxSt.next {g : Nat} {c : Int} {v : Value} {bs : List Blk} {W W' : World} (h : BoxSt g c v bs W) (hb : Below W.heap.size W W') : BoxSt g c v bs W' := by
  obtain ⟨h0, base, h1⟩ := h
  exact ⟨(hb.block _ (row_lt h0)).trans h0, base, own_below h1 hb⟩
theorem BoxSt.start {c : Int} {v : Value} {bs : List Blk} {W : World} {base : Nat} (h : W.ownsRow base 49 3 v bs.length (bcs bs)) : BoxSt W.heap.size c v bs (W.alloc (.cells #[.int .i64 c, v] 24)) :=
  ⟨heap_alloc_new _ _, base, h.alloc _⟩
theorem BoxSt.blks {g : Nat} {c : Int} {v : Value} {bs : List Blk} {W : World} (h : BoxSt g c v bs W) : Blks W v bs := by
  obtain ⟨_, base, h1⟩ := h
  exact blks_own h1
theorem BoxSt.slice {g : Nat} {c : Int} {v : Value} {bs : List Blk} {W : World} (h : BoxSt g c v bs W) : ∃ a cp, v = .slice a bs.length cp := by
  obtain ⟨_, base, h1⟩ := h
  rcases h1.2 with ⟨e, e0⟩ | ⟨g', cap', cur, e, _⟩
  · exact ⟨none, 0, by rw [e0]; exact e⟩
  · exact ⟨_, _, e⟩
theorem own_slice {W : World} {base n : Nat} {e : TypeId} {v : Value} {xs : List Value} (h : W.ownsRow base e 3 v n xs) : ∃ a cp, v = .slice a n cp := by
  rcases h.2 with ⟨e, e0⟩ | ⟨g', cap', cur, e, _⟩
  · exact ⟨none, 0, by rw [e0]; exact e⟩
  · exact ⟨_, _, e⟩
theorem BoxSt.reads {g : Nat} {c : Int} {v : Value} {bs : List Blk} {W : World} (h : BoxSt g c v bs W) :
    W.cell? ⟨g, 0, none⟩ = some (.int .i64 c) ∧ W.cell? ⟨g, 1, none⟩ = some v ∧ W.frozen? ⟨g, 0, none⟩ = false ∧ W.frozen? ⟨g, 1, none⟩ = false := by
  obtain ⟨h0, _⟩ := h
  refine ⟨?_, ?_, frozen_of_row W _ 0 _ _ h0, frozen_of_row W _ 1 _ _ h0⟩
  · rw [cell_of_row _ _ _ _ _ _ h0]; rfl
  · rw [cell_of_row _ _ _ _ _ _ h0]; rfl
theorem BoxSt.store {g : Nat} {c c' : Int} {v v' : Value} {bs bs' : List Blk} {W : World} {base : Nat} (h : BoxSt g c v bs W) (hown : W.ownsRow base 49 3 v' bs'.length (bcs bs')) :
    BoxSt g c' v' bs' ((W.setCell ⟨g, 0, none⟩ (.int .i64 c')).setCell ⟨g, 1, none⟩ v') := by
  obtain ⟨h0, _⟩ := h
  have h1 := heap_setCell_same W g 0 _ _ (.int .i64 c') h0
  have h2 := heap_setCell_same _ g 1 _ _ v' h1
  exact ⟨h2, base, own_set (own_set hown h0 (by decide) 0 _) h1 (by decide) 1 _⟩
theorem BoxSt.lt {g : Nat} {c : Int} {v : Value} {bs : List Blk} {W : World} (h : BoxSt g c v bs W) : g < W.heap.size := row_lt h.1
end Go.Proofs.YtpcieookddpkhaaDoor
