/- What the parser's piece and word return at a word. Conditions: at most 1000 tokens, all words. -/
import Derived.Test.YtfibaopngpfmjaaGreatDoorPxKw
set_option linter.unusedVariables false
set_option linter.unusedSimpArgs false
namespace Go.Proofs.YtfibaopngpfmjaaGreatDoor
open Go.RowKit Go.Proofs
def twv (t : Tok) : Value := .agg #[.int .i64 1, .string (T t.text), .string (T t.quoted), .slice none 0 0, .slice none 0 0]
theorem five_stored {W : World} {g : Nat} {a b c d x v0 v1 v2 v3 v4 : Value} {t : TypeId} (h : W.heap[g]? = some (.cells #[a, b, c, d, x] t (0, 0))) :
    (((((W.setCell ⟨g, 0, none⟩ v0).setCell ⟨g, 1, none⟩ v1).setCell ⟨g, 2, none⟩ v2).setCell ⟨g, 3, none⟩ v3).setCell ⟨g, 4, none⟩ v4).heap[g]? = some (.cells #[v0, v1, v2, v3, v4] t (0, 0)) := by
  have h0 := heap_setCell_same W g 0 _ _ v0 h
  have h1 := heap_setCell_same _ g 1 _ _ v1 h0
  have h2 := heap_setCell_same _ g 2 _ _ v2 h1
  have h3 := heap_setCell_same _ g 3 _ _ v3 h2
  exact heap_setCell_same _ g 4 _ _ v4 h3
theorem five_cells {W : World} {g : Nat} {a b c d x : Value} {t : TypeId} (h : W.heap[g]? = some (.cells #[a, b, c, d, x] t (0, 0))) :
    W.cell? ⟨g, 0, none⟩ = some a ∧ W.cell? ⟨g, 1, none⟩ = some b ∧ W.cell? ⟨g, 2, none⟩ = some c ∧ W.cell? ⟨g, 3, none⟩ = some d ∧ W.cell? ⟨g, 4, none⟩ = some x := by
  refine ⟨?_, ?_, ?_, ?_, ?_⟩ <;> (rw [Lib.cell_of_heap h]; rfl)
theorem five_frozen {W : World} {g : Nat} {a b c d x : Value} {t : TypeId} (h : W.heap[g]? = some (.cells #[a, b, c, d, x] t (0, 0))) :
    W.frozen? ⟨g, 0, none⟩ = false ∧ W.frozen? ⟨g, 1, none⟩ = false ∧ W.frozen? ⟨g, 2, none⟩ = false ∧ W.frozen? ⟨g, 3, none⟩ = false ∧ W.frozen? ⟨g, 4, none⟩ = false := by
  refine ⟨?_, ?_, ?_, ?_, ?_⟩ <;> exact Lib.frozen_of_heap h _
theorem below_five {B g : Nat} {w W : World} (h : Below B w W) (hg : B ≤ g) (v0 v1 v2 v3 v4 : Value) : Below B w (((((W.setCell ⟨g, 0, none⟩ v0).setCell ⟨g, 1, none⟩ v1).setCell ⟨g, 2, none⟩ v2).setCell ⟨g, 3, none⟩ v3).setCell ⟨g, 4, none⟩ v4) :=
  ((((h.setCell (p := ⟨g, 0, none⟩) hg _).setCell (p := ⟨g, 1, none⟩) hg _).setCell (p := ⟨g, 2, none⟩) hg _).setCell (p := ⟨g, 3, none⟩) hg _).setCell (p := ⟨g, 4, none⟩) hg _
theorem five_grown {W : World} (g : Nat) (v0 v1 v2 v3 v4 : Value) : W.grownBy (((((W.setCell ⟨g, 0, none⟩ v0).setCell ⟨g, 1, none⟩ v1).setCell ⟨g, 2, none⟩ v2).setCell ⟨g, 3, none⟩ v3).setCell ⟨g, 4, none⟩ v4) (some g) :=
  grown_setG (grown_setG (grown_setG (grown_setG (grown_setG (below_grownBy (Below.refl _ W) (some g)) 0 v0) 1 v1) 2 v2) 3 v3) 4 v4
theorem own_neP {w : World} {base : Nat} {e e2 : TypeId} {size n p : Nat} {v : Value} {xs : List Value} {cs : Array Value} {fr : Nat × Nat} (h : w.ownsRow base e size v n xs) (hp : w.heap[p]? = some (.cells cs e2 fr)) (hne : e ≠ e2) : v.ownBlock ≠ some p := by
  intro hv
  rcases h.2 with ⟨rfl, _⟩ | ⟨g, cap, cur, rfl, hg, hrow, hrest⟩
  · simp [Value.ownBlock] at hv
  · simp only [Value.ownBlock, Option.some.injEq] at hv
    subst hv
    rw [hp] at hrow
    injection hrow with hrow
    injection hrow with _ hrow _
    exact hne hrow.symm
/-- A write into a block of another type leaves the parser alone. -/
theorem PrS.other {W W' : World} {g n p : Nat} {l : List Tok} {cs : Array Value} {e2 : TypeId} {fr : Nat × Nat} (h : PrS W g l n) (hp : W.heap[p]? = some (.cells cs e2 fr)) (hne : 132 ≠ e2) (hpg : p ≠ g) (hg : W.grownBy W' (some p)) : PrS W' g l n := by
  obtain ⟨x, tv, dv, B, h1, h2, h3⟩ := h
  exact ⟨x, tv, dv, B, (hg.block _ (row_ltP h1) (fun e => hpg (Option.some.inj e).symm)).trans h1, h2.kept hg (Or.inr (own_neP h2 hp hne)), h3⟩
/-- What grows by a new block alone. -/
theorem grown_new {w W W' : World} {g p : Nat} (h : w.grownBy W (some g)) (hg : W.grownBy W' (some p)) (hp : w.heap.size ≤ p) : w.grownBy W' (some g) :=
  ⟨hg.os.trans h.os, hg.tape.trans h.tape, hg.output.trans h.output, Nat.le_trans h.size hg.size, fun i hi hn => (hg.block i (Nat.lt_of_lt_of_le hi h.size) (fun e => by cases e; omega)).trans (h.block i hi hn)⟩
/-- A new row of zeros: the result's place. -/
abbrev wzero : Obj := .cells #[.int .i64 0, .string (T []), .string (T []), .slice none 0 0, .slice none 0 0] 36
abbrev tkobj (t : Tok) : Obj := .cells #[.int .i64 t.kind, .int .i64 (t.pos : Int), .string (T t.text), .string (T t.quoted)] 132
set_option maxRecDepth 100000 in
set_option maxHeartbeats 4000000 in
theorem piece_any (g n : Nat) (l : List Tok) (w : World) (h : PrS w g l n) (hl : l.length ≤ 1000) (hn : n < l.length) (hw : Wds l) :
    Calls Tryz.prog 277 #[.pointer (some ⟨g, 0, none⟩)] w fun e w' => e = .returned (twv (tkAt l n)) ∧ PrS w' g l (n + 1) ∧ w.grownBy w' (some g) := by
  have hgl := h.lt
  have HB0 := Lib.hid (show Below w.heap.size w (w.alloc wzero) from (Below.refl _ w).alloc (Nat.le_refl _) _)
  have HZ0 := Lib.hid (heap_alloc_new w wzero)
  have HS0 := Lib.hid (h.next HB0.out)
  have HT := Lib.hid (fun (W : World) (h : PrS W g l n) => ptok0 g n l W h hl (by omega))
  have HI := Lib.hid (fun (W : World) => begw_yes (tkAt l n) W (hw.in hn))
  have hk1 := hw.in hn
  have hb : (n : Int) ≤ 1000 := by omega
  have hgne : g ≠ w.heap.size := by omega
  clear h hl hn hw
  unfold tkval at HT HI
  unfold twv
  generalize tkAt l n = t at *
  have HA := Lib.hid (fun (W : World) => show Below W.heap.size W (W.alloc (tkobj t)) from (Below.refl _ W).alloc (Nat.le_refl _) _)
  have HN := Lib.hid (fun (W : World) => heap_alloc_new W (tkobj t))
  unfold tkobj at HA HN
  rw [hk1] at HT HI HA HN
  clear hk1
  go_enter Tryz.func277, Tryz.ntmps277
  go_wp2_with fail
  generalize hw0 : World.alloc _ _ = w0 at *
  clear hw0
  (with_reducible refine (HT.out _ HS0.out).mono ?_); rintro e w1 ⟨rfl, b1⟩
  have HS1 := Lib.hid (HS0.out.next b1)
  have HZ1 := Lib.hid ((b1.block _ (row_ltP HZ0.out)).trans HZ0.out)
  have HB1 := Lib.hid (bnext HB0.out b1)
  clear b1 HS0 HZ0 HB0 HT
  go_wp2_with fail
  have HS2 := Lib.hid (HS1.out.next (HA.out w1))
  have HZ2 := Lib.hid (((HA.out w1).block _ (row_ltP HZ1.out)).trans HZ1.out)
  have HB2 := Lib.hid (bnext HB1.out (HA.out w1))
  have HK2 := Lib.hid (HN.out w1)
  have htb : w.heap.size < w1.heap.size := row_ltP HZ1.out
  generalize hw2 : w1.alloc _ = w2 at *
  generalize w1.heap.size = tb at *
  clear hw2 HS1 HZ1 HB1 HA HN
  (with_reducible refine (HI.out _).mono ?_); rintro e w3 ⟨rfl, b3⟩
  have HS3 := Lib.hid (HS2.out.next b3)
  have HZ3 := Lib.hid ((b3.block _ (row_ltP HZ2.out)).trans HZ2.out)
  have HK3 := Lib.hid ((b3.block _ (row_ltP HK2.out)).trans HK2.out)
  have HB3 := Lib.hid (bnext HB2.out b3)
  clear b3 HS2 HZ2 HB2 HK2 HI
  obtain ⟨x, tv, dv, B, hr, _, _⟩ := HS3.out
  obtain ⟨⟨r0, r1, r2, r3⟩, f3⟩ := hr.reads
  have HS4 := Lib.hid HS3.out.step
  have HG4 := Lib.hid (grown_setG (below_grownBy HB3.out (some g)) 3 (.int .i64 ((n : Int) + 1)))
  have HZ4 := Lib.hid ((Below.heap_setCell w3 ⟨g, 3, none⟩ (.int .i64 ((n : Int) + 1)) w.heap.size (by show w.heap.size ≠ g; omega)).trans HZ3.out)
  have HK4 := Lib.hid ((Below.heap_setCell w3 ⟨g, 3, none⟩ (.int .i64 ((n : Int) + 1)) tb (by show tb ≠ g; omega)).trans HK3.out)
  clear hr HS3 HZ3 HK3 HB3
  go_upto_region 5 with fail
  generalize hw4 : World.setCell _ _ _ = w4 at *
  clear hw4 r0 r1 r2 r3 f3
  obtain ⟨k0, k1, k2, k3⟩ := four_cells HK4.out
  obtain ⟨z0, z1, z2, z3, z4⟩ := five_cells HZ4.out
  obtain ⟨y0, y1, y2, y3, y4⟩ := five_frozen HZ4.out
  go_wp2_with fail
  have hq := five_stored (v0 := .int .i64 1) (v1 := .string (T t.text)) (v2 := .string (T t.quoted)) (v3 := .slice none 0 0) (v4 := .slice none 0 0) HZ4.out
  obtain ⟨q0, q1, q2, q3, q4⟩ := five_cells hq
  exact bodyPost_ret (v := .agg #[.int .i64 1, .string (T t.text), .string (T t.quoted), .slice none 0 0, .slice none 0 0]) (by simp [results, Tryz.results277, go_sem, q0, q1, q2, q3, q4]) rfl ⟨rfl, HS4.out.other HZ4.out (by decide) (by omega) (five_grown _ _ _ _ _ _), grown_new HG4.out (five_grown _ _ _ _ _ _) (Nat.le_refl _)⟩
end Go.Proofs.YtfibaopngpfmjaaGreatDoor
