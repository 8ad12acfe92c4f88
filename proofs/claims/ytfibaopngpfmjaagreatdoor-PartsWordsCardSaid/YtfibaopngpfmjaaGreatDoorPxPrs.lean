/- The parser's state, and what its token returns. Conditions: at most 1000 tokens. -/
import Derived.Test.YtfibaopngpfmjaaGreatDoorPxScanA
set_option linter.unusedVariables false
set_option linter.unusedSimpArgs false
namespace Go.Proofs.YtfibaopngpfmjaaGreatDoor
open Go.RowKit Go.Proofs
/-- The parser's block. -/
def PrRow (W : World) (g : Nat) (x : ByteArray) (tv dv : Value) (n : Nat) : Prop :=
  W.heap[g]? = some (.cells #[.string x, tv, dv, .int .i64 (n : Int)] 104 (0, 0))
theorem PrRow.reads {W : World} {g : Nat} {x : ByteArray} {tv dv : Value} {n : Nat} (h : PrRow W g x tv dv n) :
    (W.cell? ⟨g, 0, none⟩ = some (.string x) ∧ W.cell? ⟨g, 1, none⟩ = some tv ∧ W.cell? ⟨g, 2, none⟩ = some dv ∧ W.cell? ⟨g, 3, none⟩ = some (.int .i64 (n : Int))) ∧ W.frozen? ⟨g, 3, none⟩ = false := by
  unfold PrRow at h
  refine ⟨⟨?_, ?_, ?_, ?_⟩, ?_⟩
  all_goals first
    | (rw [Lib.cell_of_heap h]; rfl)
    | (exact Lib.frozen_of_heap h _)
/-- The parser at its token n of the list l. -/
def PrS (W : World) (g : Nat) (l : List Tok) (n : Nat) : Prop := ∃ x tv dv B, PrRow W g x tv dv n ∧ W.ownsRow B 132 4 tv l.length (toks l) ∧ tv.ownBlock ≠ some g
theorem PrS.next {W W' : World} {g n : Nat} {l : List Tok} (h : PrS W g l n) (hb : Below W.heap.size W W') : PrS W' g l n := by
  obtain ⟨x, tv, dv, B, h1, h2, h3⟩ := h
  exact ⟨x, tv, dv, B, (hb.block _ (row_ltP h1)).trans h1, own_next h2 hb, h3⟩
theorem PrS.lt {W : World} {g n : Nat} {l : List Tok} (h : PrS W g l n) : g < W.heap.size := by
  obtain ⟨x, tv, dv, B, h1, h2, h3⟩ := h
  exact row_ltP h1
theorem PrS.step {W : World} {g n : Nat} {l : List Tok} (h : PrS W g l n) : PrS (W.setCell ⟨g, 3, none⟩ (.int .i64 ((n : Int) + 1))) g l (n + 1) := by
  obtain ⟨x, tv, dv, B, h1, h2, h3⟩ := h
  refine ⟨x, tv, dv, B, ?_, h2.kept (grown_setG (below_grownBy (Below.refl W.heap.size W) (some g)) 3 _) (Or.inr h3), h3⟩
  have := heap_setCell_same W g 3 _ _ (.int .i64 ((n : Int) + 1)) h1
  unfold PrRow
  rw [this]
  rfl
def tkval (t : Tok) : Value := .agg #[.int .i64 t.kind, .int .i64 (t.pos : Int), .string (T t.text), .string (T t.quoted)]
def tzero : Tok := ⟨0, 0, [], []⟩
def tkAt (l : List Tok) (i : Nat) : Tok := l.getD i tzero
theorem four_stored {W : World} {g : Nat} {a b c d v0 v1 v2 v3 : Value} {t : TypeId} (h : W.heap[g]? = some (.cells #[a, b, c, d] t (0, 0))) :
    ((((W.setCell ⟨g, 0, none⟩ v0).setCell ⟨g, 1, none⟩ v1).setCell ⟨g, 2, none⟩ v2).setCell ⟨g, 3, none⟩ v3).heap[g]? = some (.cells #[v0, v1, v2, v3] t (0, 0)) := by
  have h0 := heap_setCell_same W g 0 _ _ v0 h
  have h1 := heap_setCell_same _ g 1 _ _ v1 h0
  have h2 := heap_setCell_same _ g 2 _ _ v2 h1
  exact heap_setCell_same _ g 3 _ _ v3 h2
theorem four_cells {W : World} {g : Nat} {a b c d : Value} {t : TypeId} (h : W.heap[g]? = some (.cells #[a, b, c, d] t (0, 0))) :
    W.cell? ⟨g, 0, none⟩ = some a ∧ W.cell? ⟨g, 1, none⟩ = some b ∧ W.cell? ⟨g, 2, none⟩ = some c ∧ W.cell? ⟨g, 3, none⟩ = some d := by
  refine ⟨?_, ?_, ?_, ?_⟩ <;> (rw [Lib.cell_of_heap h]; rfl)
theorem below_four {B g : Nat} {w W : World} (h : Below B w W) (hg : B ≤ g) (v0 v1 v2 v3 : Value) : Below B w ((((W.setCell ⟨g, 0, none⟩ v0).setCell ⟨g, 1, none⟩ v1).setCell ⟨g, 2, none⟩ v2).setCell ⟨g, 3, none⟩ v3) :=
  (((h.setCell (p := ⟨g, 0, none⟩) hg _).setCell (p := ⟨g, 1, none⟩) hg _).setCell (p := ⟨g, 2, none⟩) hg _).setCell (p := ⟨g, 3, none⟩) hg _
set_option maxRecDepth 100000 in
set_option maxHeartbeats 4000000 in
theorem ptok_any (g n j : Nat) (l : List Tok) (w : World) (h : PrS w g l n) (hl : l.length ≤ 1000) (hn : n ≤ 1000) (hj : j ≤ 10) :
    Calls Tryz.prog 97 #[.pointer (some ⟨g, 0, none⟩), .int .i64 (j : Int)] w fun e w' => e = .returned (tkval (tkAt l (n + j))) ∧ Below w.heap.size w w' := by
  have hgl := h.lt
  obtain ⟨x, tv, dv, B, hr, hown, hne⟩ := h
  obtain ⟨ao, cap, rfl, hc⟩ := own_form hown
  obtain ⟨⟨r0, r1, r2, r3⟩, f3⟩ := hr.reads
  have HBd := Lib.hid (fun (k : Nat) => show Below w.heap.size w (w.drewN k) from below_drewN w k)
  have hw1 : IntKind.i64.wrap ((n : Int) + (j : Int)) = (n : Int) + (j : Int) := IntWalk.i64_in _ (by omega)
  have hgne : g ≠ w.heap.size := by omega
  by_cases hlt : n + j < l.length
  · have hlt2 : (n : Int) + (j : Int) < (l.length : Int) := by omega
    obtain ⟨k, rfl, hcell⟩ := hc (by omega)
    obtain ⟨t, ht⟩ : ∃ t, l[n + j]? = some t := ⟨_, List.getElem?_eq_getElem hlt⟩
    have hz : tkAt l (n + j) = t := by
      unfold tkAt
      rw [List.getD_eq_getElem?_getD, ht]
      rfl
    have c0 : w.cell? ⟨k, (n + j) * 4, none⟩ = some (.int .i64 t.kind) := hcell _ _ (by have := toks_get l (n + j) t ht 0 (by omega); simpa [tokv] using this)
    have c1 : w.cell? ⟨k, (n + j) * 4 + 1, none⟩ = some (.int .i64 (t.pos : Int)) := hcell _ _ (by have := toks_get l (n + j) t ht 1 (by omega); simpa [tokv] using this)
    have c2 : w.cell? ⟨k, (n + j) * 4 + 2, none⟩ = some (.string (T t.text)) := hcell _ _ (by have := toks_get l (n + j) t ht 2 (by omega); simpa [tokv] using this)
    have c3 : w.cell? ⟨k, (n + j) * 4 + 3, none⟩ = some (.string (T t.quoted)) := hcell _ _ (by have := toks_get l (n + j) t ht 3 (by omega); simpa [tokv] using this)
    have hkl : k < w.heap.size := block_lt_of_cell c0
    have hkne : k ≠ w.heap.size := by omega
    have HZ := Lib.hid hz
    have hi0 : (0 : Int) ≤ (n : Int) + (j : Int) := by omega
    have hi1 : ((n : Int) + (j : Int)).toNat = n + j := by omega
    clear hown hr hc hcell hlt hz ht
    go_enter Tryz.func97, Tryz.ntmps97
    go_upto_region 1 with fail
    go_quiet (fail)
    go_wp2_with fail
    go_region
    all_goals go_wp2_with fail
    all_goals
      have hq0 : ((w.alloc (.cells #[.int .i64 0, .int .i64 0, .string ByteArray.empty, .string ByteArray.empty] 132)).drewN (nq + 1)).heap[w.heap.size]? = some (.cells #[.int .i64 0, .int .i64 0, .string ByteArray.empty, .string ByteArray.empty] 132 (0, 0)) := heap_alloc_new w _
      have hq := four_stored (v0 := .int .i64 t.kind) (v1 := .int .i64 (t.pos : Int)) (v2 := .string (T t.text)) (v3 := .string (T t.quoted)) hq0
      obtain ⟨q0, q1, q2, q3⟩ := four_cells hq
      exact bodyPost_ret (v := tkval t) (by simp [results, Tryz.results97, go_sem, q0, q1, q2, q3, tkval]) rfl ⟨by rw [HZ.out], below_four (((Below.refl w.heap.size w).alloc (Nat.le_refl _) _).trans (below_drewN _ (nq + 1) |>.mono (by simp))) (Nat.le_refl _) _ _ _ _⟩
  · have hlt2 : (l.length : Int) ≤ (n : Int) + (j : Int) := by omega
    have hz : tkAt l (n + j) = tzero := by
      unfold tkAt
      rw [List.getD_eq_getElem?_getD, List.getElem?_eq_none (by omega)]
      rfl
    have HZ := Lib.hid hz
    have HR0 := Lib.hid hr
    clear hown hr hc hlt hz
    go_enter Tryz.func97, Tryz.ntmps97
    go_upto_region 1 with fail
    have q1 : (w.alloc (.cells #[.int .i64 0, .int .i64 0, .string ByteArray.empty, .string ByteArray.empty] 132)).cell? ⟨g, 1, none⟩ = some (.slice ao l.length cap) := by
      rw [Lib.cell_of_heap ((Lib.alloc_old w _ g hgl).trans HR0.out)]; rfl
    go_quiet (fail)
    go_wp2_with fail
    have hq0 : ((w.alloc (.cells #[.int .i64 0, .int .i64 0, .string ByteArray.empty, .string ByteArray.empty] 132)).drewN nq).heap[w.heap.size]? = some (.cells #[.int .i64 0, .int .i64 0, .string ByteArray.empty, .string ByteArray.empty] 132 (0, 0)) := heap_alloc_new w _
    have hq := four_stored (v0 := .int .i64 0) (v1 := .int .i64 0) (v2 := .string (T [])) (v3 := .string (T [])) hq0
    obtain ⟨q0, q1, q2, q3⟩ := four_cells hq
    exact bodyPost_ret (v := tkval tzero) (by simp [results, Tryz.results97, go_sem, q0, q1, q2, q3, tkval, tzero]) rfl ⟨by rw [HZ.out], below_four (((Below.refl w.heap.size w).alloc (Nat.le_refl _) _).trans (below_drewN _ nq |>.mono (by simp))) (Nat.le_refl _) _ _ _ _⟩
end Go.Proofs.YtfibaopngpfmjaaGreatDoor
