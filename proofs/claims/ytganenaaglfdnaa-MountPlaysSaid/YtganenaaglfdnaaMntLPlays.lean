/- The walk of MountPlays: true, for all inputs. Conditions: the slice holds the given calls. -/
import Derived.Test.YtganenaaglfdnaaMntLaw
import Derived.Test.YtganenaaglfdnaaMntOps
import Derived.Test.YtganenaaglfdnaaMntDid
import Derived.Test.YtganenaaglfdnaaMntWant
import Derived.Test.YtganenaaglfdnaaMntEqual
import Derived.Test.YtganenaaglfdnaaMntRight
import Derived.Test.YtganenaaglfdnaaMntRRight
import Derived.Deep.RegionHeldLaw
set_option linter.unusedVariables false
set_option linter.unusedSimpArgs false
namespace Go.Proofs.Ytganenaaglfdnaa
open Go.RowKit

/-- Two boxes laid one behind the other. -/
theorem carry_two {V W' : World} {o o' : Obj} (b : Below ((V.alloc o).alloc o').heap.size ((V.alloc o).alloc o') W') : W'.heap[V.heap.size]? = some o ∧ W'.heap[V.heap.size + 1]? = some o' := by
  obtain ⟨h1, h2, _⟩ := mafter2 b
  exact ⟨h1, h2⟩
theorem carry_twod {V W' : World} {o o' : Obj} (b : Below ((V.alloc o).alloc o').drew.heap.size ((V.alloc o).alloc o').drew W') : W'.heap[V.heap.size]? = some o ∧ W'.heap[V.heap.size + 1]? = some o' :=
  carry_two (V := V) (o := o) (o' := o') ⟨b.os, b.tape, b.output, b.size, b.block⟩
theorem alloc_keep {W : World} {g : Nat} {x o : Obj} (h : W.heap[g]? = some x) : (W.alloc o).heap[g]? = some x := (Lib.alloc_old _ _ _ (row_lt h)).trans h
theorem alloc_next {W : World} {o o' : Obj} : ((W.alloc o).alloc o').heap[W.heap.size + 1]? = some o' := (congrArg (fun n => ((W.alloc o).alloc o').heap[n]?) (show W.heap.size + 1 = (W.alloc o).heap.size from by simp)).trans (heap_alloc_new _ _)
/-- The cells that a call of a round reads: the name space's box and the call, in a world behind W1. -/
abbrev PlS (W1 W : World) (g : Nat) (r : Chn) (v : Value) (b off : Nat) (x : OpR) : Prop :=
  W.cell? ⟨g, 0, none⟩ = some (.int .i64 0) ∧ W.cell? ⟨g, 1, none⟩ = some (.int .i64 r.dev) ∧ W.cell? ⟨g, 2, none⟩ = some (.int .i64 r.id) ∧ W.cell? ⟨g, 3, none⟩ = some (.int .i64 r.fid) ∧ W.cell? ⟨g, 4, none⟩ = some (.string (T r.path)) ∧ W.cell? ⟨g, 5, none⟩ = some (.string (T r.name)) ∧ W.cell? ⟨g, 6, none⟩ = some v ∧ W.cell? ⟨b, off, none⟩ = some (.int .i64 x.kd) ∧ W.cell? ⟨b, off + 1, none⟩ = some (.int .i64 x.old.dev) ∧ W.cell? ⟨b, off + 2, none⟩ = some (.int .i64 x.old.id) ∧ W.cell? ⟨b, off + 3, none⟩ = some (.int .i64 x.old.fid) ∧ W.cell? ⟨b, off + 4, none⟩ = some (.string (T x.old.path)) ∧ W.cell? ⟨b, off + 5, none⟩ = some (.string (T x.old.name)) ∧ W.cell? ⟨b, off + 6, none⟩ = some (.int .i64 x.ch.dev) ∧ W.cell? ⟨b, off + 7, none⟩ = some (.int .i64 x.ch.id) ∧ W.cell? ⟨b, off + 8, none⟩ = some (.int .i64 x.ch.fid) ∧ W.cell? ⟨b, off + 9, none⟩ = some (.string (T x.ch.path)) ∧ W.cell? ⟨b, off + 10, none⟩ = some (.string (T x.ch.name)) ∧ W.cell? ⟨b, off + 11, none⟩ = some (.int .i64 x.flag) ∧ (g < W1.heap.size ∧ b < W1.heap.size) ∧ Below W1.heap.size W1 W
theorem pl_s {W1 W : World} {g : Nat} {r : Chn} {v : Value} {b off : Nat} {x : OpR} (h : W1.heap[g]? = some (.cells #[.int .i64 0, .int .i64 r.dev, .int .i64 r.id, .int .i64 r.fid, .string (T r.path), .string (T r.name), v] 26 (0, 0))) (hc : OCells W1 b off x) (hl : b < W1.heap.size) (hb : Below W1.heap.size W1 W) : PlS W1 W g r v b off x := by
  obtain ⟨⟨h0, h1, h2, h3, h4, h5, h6⟩, _⟩ := ns_reads ((hb.block _ (row_lt h)).trans h)
  obtain ⟨q0, q1, q2, q3, q4, q5, q6, q7, q8, q9, q10, q11⟩ := hc.below hb hl
  exact ⟨h0, h1, h2, h3, h4, h5, h6, q0, q1, q2, q3, q4, q5, q6, q7, q8, q9, q10, q11, ⟨row_lt h, hl⟩, hb⟩
theorem PlS.bel {W1 W : World} {g : Nat} {r : Chn} {v : Value} {b off : Nat} {x : OpR} (h : PlS W1 W g r v b off x) : Below W1.heap.size W1 W := h.2.2.2.2.2.2.2.2.2.2.2.2.2.2.2.2.2.2.2.2
/-- The two name spaces behind k calls. -/
def PlSt (w W : World) (g5 g6 : Nat) (r : Chn) (v5 v6 : Value) (ms : List Mnt) : Prop :=
  W.heap[g5]? = some (.cells #[.int .i64 0, .int .i64 r.dev, .int .i64 r.id, .int .i64 r.fid, .string (T r.path), .string (T r.name), v5] 26 (0, 0)) ∧ W.heap[g6]? = some (.cells #[.int .i64 0, .int .i64 r.dev, .int .i64 r.id, .int .i64 r.fid, .string (T r.path), .string (T r.name), v6] 26 (0, 0)) ∧ MIn W (fun b => b ≠ g5 ∧ b ≠ g6) v5 ms ∧ MIn W (fun b => b ≠ g5 ∧ b ≠ g6) v6 ms ∧ (g5 ≠ g6 ∧ w.heap.size ≤ g5 ∧ w.heap.size ≤ g6) ∧ Below w.heap.size w W
theorem PlSt.next {w W W' : World} {g5 g6 : Nat} {r : Chn} {v5 v6 : Value} {ms : List Mnt} (h : PlSt w W g5 g6 r v5 v6 ms) (hb : Below W.heap.size W W') : PlSt w W' g5 g6 r v5 v6 ms :=
  ⟨(hb.block _ (row_lt h.1)).trans h.1, (hb.block _ (row_lt h.2.1)).trans h.2.1, h.2.2.1.below hb, h.2.2.2.1.below hb, h.2.2.2.2.1, bnext h.2.2.2.2.2 hb⟩
theorem pl_err {P : Nat → Prop} {W1 W w' : World} {g : Nat} {r : Chn} {v : Value} {b off : Nat} {x : OpR} {M : List Mnt} {E : Int} {e : Ending} (hr : W1.heap[g]? = some (.cells #[.int .i64 0, .int .i64 r.dev, .int .i64 r.id, .int .i64 r.fid, .string (T r.path), .string (T r.name), v] 26 (0, 0))) (hc : OCells W1 b off x) (h : PlS W1 W g r v b off x) (hn : NsErr P 0 r (M, E) W e w') :
    ∃ a8 n8 c8, e = .returned (.tuple #[.agg #[.int .i64 0, .int .i64 r.dev, .int .i64 r.id, .int .i64 r.fid, .string (T r.path), .string (T r.name), .slice a8 n8 c8], .int .i64 E]) ∧ MIn w' P (.slice a8 n8 c8) M ∧ Below W.heap.size W w' ∧ PlS W1 w' g r v b off x := by
  obtain ⟨a, n, c, h1, h2, h3⟩ := hn
  exact ⟨a, n, c, h1, h2, h3, pl_s hr hc (block_lt_of_cell hc.1) (bnext h.bel h3)⟩
/-- The two name spaces behind a round. -/
theorem pl_done {w W : World} {g5 g6 g8 g10 : Nat} {r : Chn} {v5 v6 v8 v10 : Value} {ms M : List Mnt} (h : PlSt w W g5 g6 r v5 v6 ms) (h8 : W.heap[g8]? = some (.cells #[.int .i64 0, .int .i64 r.dev, .int .i64 r.id, .int .i64 r.fid, .string (T r.path), .string (T r.name), v8] 26 (0, 0))) (m8 : MIn W (fun b => b ≠ g5 ∧ b ≠ g6) v8 M) (h10 : W.heap[g10]? = some (.cells #[.int .i64 0, .int .i64 r.dev, .int .i64 r.id, .int .i64 r.fid, .string (T r.path), .string (T r.name), v10] 26 (0, 0))) (m10 : MIn W (fun b => b ≠ g5 ∧ b ≠ g6) v10 M) (hn : g8 ≠ g5 ∧ g8 ≠ g6 ∧ g10 ≠ g5 ∧ g10 ≠ g6) :
    PlSt w ((((((((((((((W.setCell ⟨g5, 0, none⟩ (.int .i64 0)).setCell ⟨g5, 1, none⟩ (.int .i64 r.dev)).setCell ⟨g5, 2, none⟩ (.int .i64 r.id)).setCell ⟨g5, 3, none⟩ (.int .i64 r.fid)).setCell ⟨g5, 4, none⟩ (.string (T r.path))).setCell ⟨g5, 5, none⟩ (.string (T r.name))).setCell ⟨g5, 6, none⟩ v8).setCell ⟨g6, 0, none⟩ (.int .i64 0)).setCell ⟨g6, 1, none⟩ (.int .i64 r.dev)).setCell ⟨g6, 2, none⟩ (.int .i64 r.id)).setCell ⟨g6, 3, none⟩ (.int .i64 r.fid)).setCell ⟨g6, 4, none⟩ (.string (T r.path))).setCell ⟨g6, 5, none⟩ (.string (T r.name))).setCell ⟨g6, 6, none⟩ v10) g5 g6 r v8 v10 M := by
  obtain ⟨r5, r6, _, _, ⟨hne, l5, l6⟩, hb⟩ := h
  have k5 := ns_stored (.int .i64 0) (.int .i64 r.dev) (.int .i64 r.id) (.int .i64 r.fid) (.string (T r.path)) (.string (T r.name)) v8 r5
  have r6' := (k5.2.block _ (row_lt r6) (fun e => hne (Option.some.inj e).symm)).trans r6
  have k6 := ns_stored (.int .i64 0) (.int .i64 r.dev) (.int .i64 r.id) (.int .i64 r.fid) (.string (T r.path)) (.string (T r.name)) v10 r6'
  exact ⟨(k6.2.block _ (row_lt k5.1) (fun e => hne (Option.some.inj e))).trans k5.1, k6.1, (m8.grown k5.2 (fun h => h.1 rfl)).grown k6.2 (fun h => h.2 rfl), (m10.grown k5.2 (fun h => h.1 rfl)).grown k6.2 (fun h => h.2 rfl), ⟨hne, l5, l6⟩, grown_below (grown_below hb k5.2 l5) k6.2 l6⟩
/-- The cells of the root's box, in a world behind W0. -/
abbrev RtS (W0 W : World) (g : Nat) (c : Chn) : Prop :=
  W.cell? ⟨g, 0, none⟩ = some (.int .i64 c.dev) ∧ W.cell? ⟨g, 1, none⟩ = some (.int .i64 c.id) ∧ W.cell? ⟨g, 2, none⟩ = some (.int .i64 c.fid) ∧ W.cell? ⟨g, 3, none⟩ = some (.string (T c.path)) ∧ W.cell? ⟨g, 4, none⟩ = some (.string (T c.name)) ∧ g < W0.heap.size ∧ Below W0.heap.size W0 W
theorem rt_s {W0 W : World} {g : Nat} {c : Chn} (h : W0.heap[g]? = some (.cells #[.int .i64 c.dev, .int .i64 c.id, .int .i64 c.fid, .string (T c.path), .string (T c.name)] 23 (0, 0))) (hb : Below W0.heap.size W0 W) : RtS W0 W g c := by
  obtain ⟨h0, h1, h2, h3, h4⟩ := cb_s h hb
  exact ⟨h0, h1, h2, h3, h4, row_lt h, hb⟩
theorem RtS.bel {W0 W : World} {g : Nat} {c : Chn} (h : RtS W0 W g c) : Below W0.heap.size W0 W := h.2.2.2.2.2.2
/-- Two boxes, each stored: what stands in them. -/
theorem two_stored {W0 W : World} {g5 g6 : Nat} {r : Chn} (hb : Below W0.heap.size W0 W) (h5 : W.heap[g5]? = some (.cells #[.int .i64 0, .int .i64 0, .int .i64 0, .int .i64 0, .string ⟨#[]⟩, .string ⟨#[]⟩, .slice none 0 0] 26 (0, 0))) (h6 : W.heap[g6]? = some (.cells #[.int .i64 0, .int .i64 0, .int .i64 0, .int .i64 0, .string ⟨#[]⟩, .string ⟨#[]⟩, .slice none 0 0] 26 (0, 0))) (hne : g5 ≠ g6) (l5 : W0.heap.size ≤ g5) (l6 : W0.heap.size ≤ g6) :
    ∀ W', W' = ((((((((((((((W.setCell ⟨g5, 0, none⟩ (.int .i64 0)).setCell ⟨g5, 1, none⟩ (.int .i64 r.dev)).setCell ⟨g5, 2, none⟩ (.int .i64 r.id)).setCell ⟨g5, 3, none⟩ (.int .i64 r.fid)).setCell ⟨g5, 4, none⟩ (.string (T r.path))).setCell ⟨g5, 5, none⟩ (.string (T r.name))).setCell ⟨g5, 6, none⟩ (.slice none 0 0)).setCell ⟨g6, 0, none⟩ (.int .i64 0)).setCell ⟨g6, 1, none⟩ (.int .i64 r.dev)).setCell ⟨g6, 2, none⟩ (.int .i64 r.id)).setCell ⟨g6, 3, none⟩ (.int .i64 r.fid)).setCell ⟨g6, 4, none⟩ (.string (T r.path))).setCell ⟨g6, 5, none⟩ (.string (T r.name))).setCell ⟨g6, 6, none⟩ (.slice none 0 0)) →
      W'.heap[g5]? = some (.cells #[.int .i64 0, .int .i64 r.dev, .int .i64 r.id, .int .i64 r.fid, .string (T r.path), .string (T r.name), .slice none 0 0] 26 (0, 0)) ∧ W'.heap[g6]? = some (.cells #[.int .i64 0, .int .i64 r.dev, .int .i64 r.id, .int .i64 r.fid, .string (T r.path), .string (T r.name), .slice none 0 0] 26 (0, 0)) ∧ Below W0.heap.size W0 W' := by
  intro W' hW
  subst hW
  have k5 := ns_stored (.int .i64 0) (.int .i64 r.dev) (.int .i64 r.id) (.int .i64 r.fid) (.string (T r.path)) (.string (T r.name)) (.slice none 0 0) h5
  have h6' := (k5.2.block _ (row_lt h6) (fun e => hne (Option.some.inj e).symm)).trans h6
  have k6 := ns_stored (.int .i64 0) (.int .i64 r.dev) (.int .i64 r.id) (.int .i64 r.fid) (.string (T r.path)) (.string (T r.name)) (.slice none 0 0) h6'
  exact ⟨(k6.2.block _ (row_lt k5.1) (fun e => hne (Option.some.inj e))).trans k5.1, k6.1, grown_below (grown_below hb k5.2 l5) k6.2 l6⟩
/-- Two boxes laid with their contents. -/
theorem two_new {W0 W : World} {o o' : Obj} (hb : Below W0.heap.size W0 W) :
    ((W.alloc o).alloc o').heap[W.heap.size]? = some o ∧ ((W.alloc o).alloc o').heap[W.heap.size + 1]? = some o' ∧ Below W0.heap.size W0 ((W.alloc o).alloc o') :=
  ⟨alloc_keep (heap_alloc_new _ _), alloc_next, (hb.alloc hb.size o).alloc (Nat.le_trans hb.size (by simp)) o'⟩
/-- One box stored, one laid with its content. -/
theorem one_new {W0 W : World} {g : Nat} {r : Chn} (hb : Below W0.heap.size W0 W) (h : W.heap[g]? = some (.cells #[.int .i64 0, .int .i64 0, .int .i64 0, .int .i64 0, .string ⟨#[]⟩, .string ⟨#[]⟩, .slice none 0 0] 26 (0, 0))) (l : W0.heap.size ≤ g) :
    ((((((((W.setCell ⟨g, 0, none⟩ (.int .i64 0)).setCell ⟨g, 1, none⟩ (.int .i64 r.dev)).setCell ⟨g, 2, none⟩ (.int .i64 r.id)).setCell ⟨g, 3, none⟩ (.int .i64 r.fid)).setCell ⟨g, 4, none⟩ (.string (T r.path))).setCell ⟨g, 5, none⟩ (.string (T r.name))).setCell ⟨g, 6, none⟩ (.slice none 0 0)).alloc (.cells #[.int .i64 0, .int .i64 r.dev, .int .i64 r.id, .int .i64 r.fid, .string (T r.path), .string (T r.name), .slice none 0 0] 26 (0, 0))).heap[g]? = some (.cells #[.int .i64 0, .int .i64 r.dev, .int .i64 r.id, .int .i64 r.fid, .string (T r.path), .string (T r.name), .slice none 0 0] 26 (0, 0)) ∧
    ((((((((W.setCell ⟨g, 0, none⟩ (.int .i64 0)).setCell ⟨g, 1, none⟩ (.int .i64 r.dev)).setCell ⟨g, 2, none⟩ (.int .i64 r.id)).setCell ⟨g, 3, none⟩ (.int .i64 r.fid)).setCell ⟨g, 4, none⟩ (.string (T r.path))).setCell ⟨g, 5, none⟩ (.string (T r.name))).setCell ⟨g, 6, none⟩ (.slice none 0 0)).alloc (.cells #[.int .i64 0, .int .i64 r.dev, .int .i64 r.id, .int .i64 r.fid, .string (T r.path), .string (T r.name), .slice none 0 0] 26 (0, 0))).heap[W.heap.size]? = some (.cells #[.int .i64 0, .int .i64 r.dev, .int .i64 r.id, .int .i64 r.fid, .string (T r.path), .string (T r.name), .slice none 0 0] 26 (0, 0)) ∧
    Below W0.heap.size W0 ((((((((W.setCell ⟨g, 0, none⟩ (.int .i64 0)).setCell ⟨g, 1, none⟩ (.int .i64 r.dev)).setCell ⟨g, 2, none⟩ (.int .i64 r.id)).setCell ⟨g, 3, none⟩ (.int .i64 r.fid)).setCell ⟨g, 4, none⟩ (.string (T r.path))).setCell ⟨g, 5, none⟩ (.string (T r.name))).setCell ⟨g, 6, none⟩ (.slice none 0 0)).alloc (.cells #[.int .i64 0, .int .i64 r.dev, .int .i64 r.id, .int .i64 r.fid, .string (T r.path), .string (T r.name), .slice none 0 0] 26 (0, 0))) := by
  have k := ns_stored (.int .i64 0) (.int .i64 r.dev) (.int .i64 r.id) (.int .i64 r.fid) (.string (T r.path)) (.string (T r.name)) (.slice none 0 0) h
  have hs : ((((((((W.setCell ⟨g, 0, none⟩ (.int .i64 0)).setCell ⟨g, 1, none⟩ (.int .i64 r.dev)).setCell ⟨g, 2, none⟩ (.int .i64 r.id)).setCell ⟨g, 3, none⟩ (.int .i64 r.fid)).setCell ⟨g, 4, none⟩ (.string (T r.path))).setCell ⟨g, 5, none⟩ (.string (T r.name))).setCell ⟨g, 6, none⟩ (.slice none 0 0)).heap.size) = W.heap.size := by simp
  have hb' := grown_below hb k.2 l
  exact ⟨alloc_keep k.1, by rw [← hs]; exact heap_alloc_new _ _, hb'.alloc hb'.size _⟩
/-- The same, in the other order. -/
theorem one_new2 {W0 W : World} {g : Nat} {r : Chn} (hb : Below W0.heap.size W0 W) (h : W.heap[g]? = some (.cells #[.int .i64 0, .int .i64 0, .int .i64 0, .int .i64 0, .string ⟨#[]⟩, .string ⟨#[]⟩, .slice none 0 0] 26 (0, 0))) (l : W0.heap.size ≤ g) :
    ((((((((W.setCell ⟨g, 0, none⟩ (.int .i64 0)).setCell ⟨g, 1, none⟩ (.int .i64 r.dev)).setCell ⟨g, 2, none⟩ (.int .i64 r.id)).setCell ⟨g, 3, none⟩ (.int .i64 r.fid)).setCell ⟨g, 4, none⟩ (.string (T r.path))).setCell ⟨g, 5, none⟩ (.string (T r.name))).setCell ⟨g, 6, none⟩ (.slice none 0 0)).alloc (.cells #[.int .i64 0, .int .i64 r.dev, .int .i64 r.id, .int .i64 r.fid, .string (T r.path), .string (T r.name), .slice none 0 0] 26 (0, 0))).heap[W.heap.size]? = some (.cells #[.int .i64 0, .int .i64 r.dev, .int .i64 r.id, .int .i64 r.fid, .string (T r.path), .string (T r.name), .slice none 0 0] 26 (0, 0)) ∧
    ((((((((W.setCell ⟨g, 0, none⟩ (.int .i64 0)).setCell ⟨g, 1, none⟩ (.int .i64 r.dev)).setCell ⟨g, 2, none⟩ (.int .i64 r.id)).setCell ⟨g, 3, none⟩ (.int .i64 r.fid)).setCell ⟨g, 4, none⟩ (.string (T r.path))).setCell ⟨g, 5, none⟩ (.string (T r.name))).setCell ⟨g, 6, none⟩ (.slice none 0 0)).alloc (.cells #[.int .i64 0, .int .i64 r.dev, .int .i64 r.id, .int .i64 r.fid, .string (T r.path), .string (T r.name), .slice none 0 0] 26 (0, 0))).heap[g]? = some (.cells #[.int .i64 0, .int .i64 r.dev, .int .i64 r.id, .int .i64 r.fid, .string (T r.path), .string (T r.name), .slice none 0 0] 26 (0, 0)) ∧
    Below W0.heap.size W0 ((((((((W.setCell ⟨g, 0, none⟩ (.int .i64 0)).setCell ⟨g, 1, none⟩ (.int .i64 r.dev)).setCell ⟨g, 2, none⟩ (.int .i64 r.id)).setCell ⟨g, 3, none⟩ (.int .i64 r.fid)).setCell ⟨g, 4, none⟩ (.string (T r.path))).setCell ⟨g, 5, none⟩ (.string (T r.name))).setCell ⟨g, 6, none⟩ (.slice none 0 0)).alloc (.cells #[.int .i64 0, .int .i64 r.dev, .int .i64 r.id, .int .i64 r.fid, .string (T r.path), .string (T r.name), .slice none 0 0] 26 (0, 0))) :=
  have k := one_new (r := r) hb h l
  ⟨k.2.1, k.1, k.2.2⟩
set_option maxRecDepth 100000 in
set_option maxHeartbeats 16000000 in
theorem lplays_any (r : Chn) (v : Value) (l : List OpR) (w : World) (hv : Ops w v l) :
    Calls Try.prog 7 #[chv r, v] w fun e w' => e = .returned (.bool true) ∧ Below w.heap.size w w' := by
  obtain ⟨ao, cp, rfl, hat⟩ := hv
  have HO := Lib.hid hat
  clear hat
  unfold chv
  go_enter Try.func7, Try.ntmps7
  go_upto_region 1 with fail
  have HCR := Lib.hid (heap_alloc_new w (.cells #[.int .i64 r.dev, .int .i64 r.id, .int .i64 r.fid, .string (T r.path), .string (T r.name)] 23 (0, 0)))
  have HB0 := Lib.hid ((Below.refl w.heap.size w).alloc (Nat.le_refl _) (.cells #[.int .i64 r.dev, .int .i64 r.id, .int .i64 r.fid, .string (T r.path), .string (T r.name)] 23 (0, 0)))
  generalize w.alloc _ = W0 at *
  generalize w.heap.size = gr at HCR ⊢
  have HBR := Lib.hid (fun (W : World) => show Calls Try.prog 22 #[.agg #[.int .i64 r.dev, .int .i64 r.id, .int .i64 r.fid, .string (T r.path), .string (T r.name)]] W fun e w' => e = .returned (.bool (Ns.brief r)) ∧ Below W.heap.size W w' from brief_any r W)
  generalize Ns.brief r = BR at *
  have HNR0 := Lib.hid (fun (W : World) => show Calls Try.prog 16 #[.int .i64 0, .agg #[.int .i64 r.dev, .int .i64 r.id, .int .i64 r.fid, .string (T r.path), .string (T r.name)]] W fun e w' => e = .returned (.agg #[.int .i64 0, .int .i64 r.dev, .int .i64 r.id, .int .i64 r.fid, .string (T r.path), .string (T r.name), .slice none 0 0]) ∧ Below W.heap.size W w' from rmnew_any 0 r W)
  obtain ⟨R, hR⟩ : ∃ R, Ns.right 0 r [] = R := ⟨_, rfl⟩
  have HRT0 := Lib.hid (fun (hr : R = true) => Ns.right_true (hR.trans hr))
  have HRR := Lib.hid (fun (W : World) => show Calls Try.prog 13 #[.agg #[.int .i64 0, .int .i64 r.dev, .int .i64 r.id, .int .i64 r.fid, .string (T r.path), .string (T r.name), .slice none 0 0]] W fun e w' => e = .returned (.bool R) ∧ Below W.heap.size W w' from (rmright_any 0 r _ [] W (mnts_nil W) (by decide) (by decide)).mono fun e w' h' => ⟨by rw [← hR]; exact h'.1, h'.2⟩)
  clear hR
  rcases Nat.lt_or_ge 60 l.length with h60 | h60
  · have k1 : (60 : Int) < l.length := by omega
    go_wp2_with fail
    have HA := Lib.hid (show Calls Try.prog 11 #[] W0 _ from awake_any W0)
    (with_reducible refine HA.out.mono ?_); rintro e w9 ⟨rfl, b9⟩
    have HB9 := Lib.hid (bnext HB0.out b9)
    clear b9
    go_wp2_with fail
    go_ret
    exact ⟨rfl, HB9.out⟩
  have k1 : ¬ (60 : Int) < l.length := by omega
  have k1d : decide ((60 : Int) < l.length) = false := decide_eq_false k1
  obtain ⟨c0, c1, c2, c3, c4⟩ := cb_s HCR.out (Below.refl _ _)
  go_wp2_with fail
  (with_reducible refine (HBR.out _).mono ?_); rintro e w1 ⟨rfl, b1⟩
  have HB1 := Lib.hid (bnext HB0.out b1)
  replace HCR := Lib.hid ((b1.block _ (row_lt HCR.out)).trans HCR.out)
  clear c0 c1 c2 c3 c4 b1
  cases BR
  ·
    go_wp2_with fail
    have HA := Lib.hid (show Calls Try.prog 11 #[] w1 _ from awake_any w1)
    (with_reducible refine HA.out.mono ?_); rintro e w9 ⟨rfl, b9⟩
    have HB9 := Lib.hid (bnext HB1.out b9)
    clear b9
    go_wp2_with fail
    go_ret
    exact ⟨rfl, HB9.out⟩
  obtain ⟨c0, c1, c2, c3, c4⟩ := cb_s HCR.out (Below.refl _ _)
  go_wp2_with fail
  (with_reducible refine (HNR0.out _).mono ?_); rintro e w2 ⟨rfl, b2⟩
  have HB2 := Lib.hid (bnext HB1.out b2)
  replace HCR := Lib.hid ((b2.block _ (row_lt HCR.out)).trans HCR.out)
  clear c0 c1 c2 c3 c4 b2
  go_wp2_with fail
  (with_reducible refine (HRR.out _).mono ?_); rintro e w3 ⟨rfl, b3⟩
  have HB3 := Lib.hid (bnext HB2.out b3)
  replace HCR := Lib.hid ((b3.block _ (row_lt HCR.out)).trans HCR.out)
  clear b3
  cases R
  ·
    go_wp2_with fail
    have HA := Lib.hid (show Calls Try.prog 11 #[] w3 _ from awake_any w3)
    (with_reducible refine HA.out.mono ?_); rintro e w9 ⟨rfl, b9⟩
    have HB9 := Lib.hid (bnext HB3.out b9)
    clear b9
    go_wp2_with fail
    go_ret
    exact ⟨rfl, HB9.out⟩
  replace HRT0 := Lib.hid (HRT0.out rfl)
  clear HRR HNR0 HBR HB1 HB2 HB0
  go_upto_region 3 with fail
  go_cut [5, 6] (fun p q w' => ∃ g5 g6, p = .pointer (some ⟨g5, 0, none⟩) ∧ q = .pointer (some ⟨g6, 0, none⟩) ∧ Hid ((g5 ≠ g6 ∧ w3.heap.size ≤ g5 ∧ w3.heap.size ≤ g6) ∧ w'.heap[g5]? = some (.cells #[.int .i64 0, .int .i64 r.dev, .int .i64 r.id, .int .i64 r.fid, .string (T r.path), .string (T r.name), .slice none 0 0] 26 (0, 0)) ∧ w'.heap[g6]? = some (.cells #[.int .i64 0, .int .i64 r.dev, .int .i64 r.id, .int .i64 r.fid, .string (T r.path), .string (T r.name), .slice none 0 0] 26 (0, 0)) ∧ Below w3.heap.size w3 w'))
  case first =>
    repeat (rename (∀ (a : Act) (w : World), Code.wp _ _ _ a w → _) => ax; clear ax)
    have HSD : Hid (RtS w3 w3.drew gr r) := rt_s HCR.out (below_drew1 (Below.refl _ _))
    have HSE : Hid (RtS w3 (w3.alloc (.cells #[.int .i64 0, .int .i64 0, .int .i64 0, .int .i64 0, .string ⟨#[]⟩, .string ⟨#[]⟩, .slice none 0 0] 26)).drew gr r) := rt_s HCR.out (below_drew1 ((Below.refl _ _).alloc (Nat.le_refl _) _))
    have HSF : Hid (RtS w3 ((w3.alloc (.cells #[.int .i64 0, .int .i64 0, .int .i64 0, .int .i64 0, .string ⟨#[]⟩, .string ⟨#[]⟩, .slice none 0 0] 26)).alloc (.cells #[.int .i64 0, .int .i64 0, .int .i64 0, .int .i64 0, .string ⟨#[]⟩, .string ⟨#[]⟩, .slice none 0 0] 26)).drew gr r) := rt_s HCR.out (below_drew1 (((Below.refl _ _).alloc (Nat.le_refl _) _).alloc (by simp) _))
    have KA : Hid (∀ {W : World} (o : Obj), RtS w3 W gr r → RtS w3 (W.alloc o) gr r) := fun o h => rt_s HCR.out (bnext h.bel ((Below.refl _ _).alloc (Nat.le_refl _) o))
    have KS : Hid (∀ {W : World} {p : Nat} (b0 b1 b2 b3 b4 b5 b6 : Value), w3.heap.size ≤ p → RtS w3 W gr r → RtS w3 (((((((W.setCell ⟨p, 0, none⟩ b0).setCell ⟨p, 1, none⟩ b1).setCell ⟨p, 2, none⟩ b2).setCell ⟨p, 3, none⟩ b3).setCell ⟨p, 4, none⟩ b4).setCell ⟨p, 5, none⟩ b5).setCell ⟨p, 6, none⟩ b6) gr r) := fun b0 b1 b2 b3 b4 b5 b6 hp h => rt_s HCR.out (grown_below h.bel (grown_set (grown_set (grown_set (grown_set (grown_set (grown_set (grown_set (grown_refl _ _) 0 b0) 1 b1) 2 b2) 3 b3) 4 b4) 5 b5) 6 b6) hp)
    have HNW : Hid (∀ (W : World), RtS w3 W gr r → Calls Try.prog 15 #[.int .i64 0, .agg #[.int .i64 r.dev, .int .i64 r.id, .int .i64 r.fid, .string (T r.path), .string (T r.name)]] W fun e w' => e = .returned (.agg #[.int .i64 0, .int .i64 r.dev, .int .i64 r.id, .int .i64 r.fid, .string (T r.path), .string (T r.name), .slice none 0 0]) ∧ Below W.heap.size W w' ∧ RtS w3 w' gr r) := fun W h => (mnew_any 0 r W).mono fun e w' h' => ⟨h'.1, h'.2, rt_s HCR.out (bnext h.bel h'.2)⟩
    have HRN : Hid (∀ (W : World), RtS w3 W gr r → Calls Try.prog 16 #[.int .i64 0, .agg #[.int .i64 r.dev, .int .i64 r.id, .int .i64 r.fid, .string (T r.path), .string (T r.name)]] W fun e w' => e = .returned (.agg #[.int .i64 0, .int .i64 r.dev, .int .i64 r.id, .int .i64 r.fid, .string (T r.path), .string (T r.name), .slice none 0 0]) ∧ Below W.heap.size W w' ∧ RtS w3 w' gr r) := fun W h => (rmnew_any 0 r W).mono fun e w' h' => ⟨h'.1, h'.2, rt_s HCR.out (bnext h.bel h'.2)⟩
    have hgx := row_lt HCR.out
    go_region_held_law (fun W' => RtS w3 W' gr r) (first | (with_reducible assumption) | (with_reducible exact HSD.out) | (with_reducible exact HSE.out) | (with_reducible exact HSF.out) | (with_reducible exact KA.out _ (by assumption)) | (with_reducible exact KA.out _ (KA.out _ (by assumption))) | (with_reducible exact KS.out _ _ _ _ _ _ _ (by first | exact Nat.le_refl _ | assumption | omega | (simp; omega)) (by assumption)) | (with_reducible exact KA.out _ (KS.out _ _ _ _ _ _ _ (by first | exact Nat.le_refl _ | assumption | omega | (simp; omega)) (by assumption))) | (with_reducible exact KA.out _ (KS.out _ _ _ _ _ _ _ (by first | exact Nat.le_refl _ | assumption | omega | (simp; omega)) (KS.out _ _ _ _ _ _ _ (by first | exact Nat.le_refl _ | assumption | omega | (simp; omega)) (by assumption)))) | (with_reducible exact KS.out _ _ _ _ _ _ _ (by first | exact Nat.le_refl _ | assumption | omega | (simp; omega)) (KS.out _ _ _ _ _ _ _ (by first | exact Nat.le_refl _ | assumption | omega | (simp; omega)) (by assumption)))) (first | (go_at_call 15; (with_reducible refine (HNW.out _ (by assumption)).mono ?_); rintro e wx ⟨rfl, b, hkeep⟩; (first | (with_reducible (replace hz1 := Lib.hid ((b.block _ (row_lt hz1.out)).trans hz1.out); try (replace hz2 := Lib.hid ((b.block _ (row_lt hz2.out)).trans hz2.out)))) | (with_reducible (have hz2 := Lib.hid (carry_new b); replace hz1 := Lib.hid ((b.block _ (row_lt (alloc_keep hz1.out))).trans (alloc_keep hz1.out)))) | (with_reducible (have hz12 := carry_two b; have hz1 := Lib.hid hz12.1; have hz2 := Lib.hid hz12.2; clear hz12)) | (with_reducible (have hz12 := carry_twod b; have hz1 := Lib.hid hz12.1; have hz2 := Lib.hid hz12.2; clear hz12)) | (with_reducible have hz1 := Lib.hid (carry_new b)) | (with_reducible have hz1 := Lib.hid (carry_drew b)) | skip); clear b; have hsz := (RtS.bel hkeep).size; (try (have hq := hz1; obtain ⟨⟨z0, z1, z2, z3, z4, z5, z6⟩, ⟨y0, y1, y2, y3, y4, y5, y6⟩⟩ := ns_reads hq.out; clear hq)); (try (have hq := hz2; obtain ⟨⟨zz0, zz1, zz2, zz3, zz4, zz5, zz6⟩, ⟨yy0, yy1, yy2, yy3, yy4, yy5, yy6⟩⟩ := ns_reads hq.out; clear hq)); (try (have hq := Lib.hid (alloc_keep (o := .cells #[.int .i64 0, .int .i64 0, .int .i64 0, .int .i64 0, .string ⟨#[]⟩, .string ⟨#[]⟩, .slice none 0 0] 26 (0, 0)) hz1.out); obtain ⟨⟨za0, za1, za2, za3, za4, za5, za6⟩, ⟨ya0, ya1, ya2, ya3, ya4, ya5, ya6⟩⟩ := ns_reads hq.out; clear hq)); (try (have hl1 := row_lt hz1.out; have hl2 := Nat.ne_of_lt hl1; have hl3 := Nat.ne_of_gt hl1))) | (go_at_call 16; (with_reducible refine (HRN.out _ (by assumption)).mono ?_); rintro e wx ⟨rfl, b, hkeep⟩; (first | (with_reducible (replace hz1 := Lib.hid ((b.block _ (row_lt hz1.out)).trans hz1.out); try (replace hz2 := Lib.hid ((b.block _ (row_lt hz2.out)).trans hz2.out)))) | (with_reducible (have hz2 := Lib.hid (carry_new b); replace hz1 := Lib.hid ((b.block _ (row_lt (alloc_keep hz1.out))).trans (alloc_keep hz1.out)))) | (with_reducible (have hz12 := carry_two b; have hz1 := Lib.hid hz12.1; have hz2 := Lib.hid hz12.2; clear hz12)) | (with_reducible (have hz12 := carry_twod b; have hz1 := Lib.hid hz12.1; have hz2 := Lib.hid hz12.2; clear hz12)) | (with_reducible have hz1 := Lib.hid (carry_new b)) | (with_reducible have hz1 := Lib.hid (carry_drew b)) | skip); clear b; have hsz := (RtS.bel hkeep).size; (try (have hq := hz1; obtain ⟨⟨z0, z1, z2, z3, z4, z5, z6⟩, ⟨y0, y1, y2, y3, y4, y5, y6⟩⟩ := ns_reads hq.out; clear hq)); (try (have hq := hz2; obtain ⟨⟨zz0, zz1, zz2, zz3, zz4, zz5, zz6⟩, ⟨yy0, yy1, yy2, yy3, yy4, yy5, yy6⟩⟩ := ns_reads hq.out; clear hq)); (try (have hq := Lib.hid (alloc_keep (o := .cells #[.int .i64 0, .int .i64 0, .int .i64 0, .int .i64 0, .string ⟨#[]⟩, .string ⟨#[]⟩, .slice none 0 0] 26 (0, 0)) hz1.out); obtain ⟨⟨za0, za1, za2, za3, za4, za5, za6⟩, ⟨ya0, ya1, ya2, ya3, ya4, ya5, ya6⟩⟩ := ns_reads hq.out; clear hq)); (try (have hl1 := row_lt hz1.out; have hl2 := Nat.ne_of_lt hl1; have hl3 := Nat.ne_of_gt hl1))))
    all_goals
      go_wp2_with fail
      go_meet
      (try have hl1 := row_lt hz1.out)
      (try have hl2 := row_lt hz2.out)
      have hbl := RtS.bel hkeep
      first
        | (have hh1 := hz1; have hh2 := hz2; first | (with_reducible refine ⟨_, _, rfl, rfl, Lib.hid ⟨⟨?_, ?_, ?_⟩, two_stored (r := r) hbl hh1.out hh2.out ?_ ?_ ?_ _ rfl⟩⟩) | (with_reducible refine ⟨_, _, rfl, rfl, Lib.hid ⟨⟨?_, ?_, ?_⟩, two_stored (r := r) hbl hh2.out hh1.out ?_ ?_ ?_ _ rfl⟩⟩))
        | (have hh1 := hz1; first | (with_reducible refine ⟨_, _, rfl, rfl, Lib.hid ⟨⟨?_, ?_, ?_⟩, one_new (r := r) hbl hh1.out ?_⟩⟩) | (with_reducible refine ⟨_, _, rfl, rfl, Lib.hid ⟨⟨?_, ?_, ?_⟩, one_new2 (r := r) hbl hh1.out ?_⟩⟩))
        | (with_reducible refine ⟨_, _, rfl, rfl, Lib.hid ⟨⟨?_, ?_, ?_⟩, two_new hbl⟩⟩)
        | (with_reducible refine ⟨_, _, rfl, rfl, Lib.hid ⟨⟨?_, ?_, ?_⟩, (two_new hbl).2.1, (two_new hbl).1, (two_new hbl).2.2⟩⟩)
      all_goals clear hkeep
      all_goals first | exact Nat.le_refl _ | (with_reducible assumption) | (clear HO; omega)
  case rest =>
    obtain ⟨g5, g6, rfl, rfl, HP⟩ := hcut
    generalize wc = V3 at *
    have HST0 : Hid (PlSt w V3 g5 g6 r (.slice none 0 0) (.slice none 0 0) []) := ⟨HP.out.2.1, HP.out.2.2.1, min_nil _ _, min_nil _ _, ⟨HP.out.1.1, Nat.le_trans HB3.out.size HP.out.1.2.1, Nat.le_trans HB3.out.size HP.out.1.2.2⟩, bnext HB3.out HP.out.2.2.2⟩
    have HLI := Lib.hid (fun (x : OpR) (W : World) => show Calls Try.prog 19 #[.agg #[.int .i64 x.kd, .int .i64 x.old.dev, .int .i64 x.old.id, .int .i64 x.old.fid, .string (T x.old.path), .string (T x.old.name), .int .i64 x.ch.dev, .int .i64 x.ch.id, .int .i64 x.ch.fid, .string (T x.ch.path), .string (T x.ch.name), .int .i64 x.flag]] W fun e w' => e = .returned (.bool (Ns.brief x.old && Ns.brief x.ch)) ∧ Below W.heap.size W w' from light_any x.kd x.old x.ch x.flag W)
    clear HP HCR HB3
    go_wp2_with fail
    go_loopw [33] (fun i wr => ∃ (k : Nat) (v5 v6 : Value) (ms : List Mnt), k ≤ l.length ∧ i = .int .i64 (k : Int) ∧ Hid (Ns.Right 0 r ms) ∧ Hid (PlSt w wr g5 g6 r v5 v6 ms)) (fun i _ => l.length - (intOf i).toNat)
    case atStart => exact ⟨0, _, _, [], by omega, rfl, HRT0, HST0⟩
    case round =>
      obtain ⟨k, v5, v6, ms, hk, rfl, HRT, HST⟩ := hrel
      clear HST0 HRT0
      obtain ⟨a5, n5, c5, rfl⟩ := HST.out.2.2.1.mnts.form
      obtain ⟨a6, n6, c6, rfl⟩ := HST.out.2.2.2.1.mnts.form
      have HLM := Lib.hid (show ms.length ≤ 100000 from by have := (Ns.right_iff.1 HRT.out).2.2.2.1; omega)
      have HLU := Lib.hid (show ∀ m ∈ ms, m.to.length ≤ 100000 from fun m hm => by have := ((Ns.right_iff.1 HRT.out).2.2.2.2.1 m hm).2.2.1; omega)
      by_cases hlt : k < l.length
      · obtain ⟨b, off, rfl, hbl, hoc, hfl⟩ := HO.out k hlt
        have hki : (k : Int) < l.length := by omega
        obtain ⟨x, hx⟩ : ∃ x, l[k] = x := ⟨_, rfl⟩
        rw [hx] at hoc hfl
        clear hx
        have HFL := Lib.hid hfl
        have hbw := HST.out.2.2.2.2.2
        have HOC := Lib.hid (hoc.below (w' := wr) hbw hbl)
        have HBL := Lib.hid (Nat.lt_of_lt_of_le hbl hbw.size)
        clear hoc hfl hbw
        obtain ⟨q0, q1, q2, q3, q4, q5, q6, q7, q8, q9, q10, q11⟩ := HOC.out
        go_wp2_with fail
        (with_reducible refine (HLI.out _ _).mono ?_); rintro e W1 ⟨rfl, b1⟩
        replace HST := Lib.hid (HST.out.next b1)
        replace HOC := Lib.hid (HOC.out.below b1 HBL.out)
        replace HBL := Lib.hid (Nat.lt_of_lt_of_le HBL.out b1.size)
        clear b1 q0 q1 q2 q3 q4 q5 q6 q7 q8 q9 q10 q11
        cases (Ns.brief x.old && Ns.brief x.ch)
        · have HBW := Lib.hid HST.out.2.2.2.2.2
          go_wp2_with fail
          have HA := Lib.hid (show Calls Try.prog 11 #[] W1 _ from awake_any W1)
          (with_reducible refine HA.out.mono ?_); rintro e w9 ⟨rfl, b9⟩
          have HB9 := Lib.hid (bnext HBW.out b9)
          clear b9
          go_wp2_with fail
          go_ret
          exact ⟨rfl, HB9.out⟩
        obtain ⟨⟨M, E⟩, hME⟩ : ∃ p, Ns.call x.kd ms x.old x.ch x.flag = p := ⟨_, rfl⟩
        have HME := Lib.hid hME
        have HRM := Lib.hid (show Ns.Right 0 r M from by have := Ns.right_call HRT.out x.kd x.old x.ch x.flag; rw [hME] at this; exact this)
        clear hME
        have HR5 := Lib.hid HST.out.1
        have HR6 := Lib.hid HST.out.2.1
        have HM5 := Lib.hid HST.out.2.2.1
        have HM6 := Lib.hid HST.out.2.2.2.1
        have HNE := Lib.hid HST.out.2.2.2.2.1
        go_upto_region 9 with fail
        go_cut [8, 9] (fun q e w' => ∃ gz a n c, q = .pointer (some ⟨gz, 0, none⟩) ∧ e = .int .i64 E ∧ Hid (W1.heap.size ≤ gz) ∧ Hid (w'.heap[gz]? = some (.cells #[.int .i64 0, .int .i64 r.dev, .int .i64 r.id, .int .i64 r.fid, .string (T r.path), .string (T r.name), .slice a n c] 26 (0, 0))) ∧ Hid (MIn w' (fun b => b ≠ g5 ∧ b ≠ g6) (.slice a n c) M) ∧ Hid (Below W1.heap.size W1 w'))
        case first =>
          repeat (rename (∀ (a : Act) (w : World), Code.wp _ _ _ a w → _) => ax; clear ax)
          have HRW := HR5
          have HSD : Hid (PlS W1 W1.drew g5 r (.slice a5 n5 c5) b (off + k * 12) x) := pl_s HRW.out HOC.out HBL.out (below_drew1 (Below.refl _ _))
          have HSE : Hid (PlS W1 (W1.alloc (.cells #[.int .i64 0, .int .i64 0, .int .i64 0, .int .i64 0, .string ⟨#[]⟩, .string ⟨#[]⟩, .slice none 0 0] 26)).drew g5 r (.slice a5 n5 c5) b (off + k * 12) x) := pl_s HRW.out HOC.out HBL.out (below_drew1 ((Below.refl _ _).alloc (Nat.le_refl _) _))
          have KA : Hid (∀ {W : World} (o : Obj), PlS W1 W g5 r (.slice a5 n5 c5) b (off + k * 12) x → PlS W1 (W.alloc o) g5 r (.slice a5 n5 c5) b (off + k * 12) x) := fun o h => pl_s HRW.out HOC.out HBL.out (bnext h.bel ((Below.refl _ _).alloc (Nat.le_refl _) o))
          have KS : Hid (∀ {W : World} {p : Nat} (b0 b1 b2 b3 b4 b5 b6 : Value), W1.heap.size ≤ p → PlS W1 W g5 r (.slice a5 n5 c5) b (off + k * 12) x → PlS W1 (((((((W.setCell ⟨p, 0, none⟩ b0).setCell ⟨p, 1, none⟩ b1).setCell ⟨p, 2, none⟩ b2).setCell ⟨p, 3, none⟩ b3).setCell ⟨p, 4, none⟩ b4).setCell ⟨p, 5, none⟩ b5).setCell ⟨p, 6, none⟩ b6) g5 r (.slice a5 n5 c5) b (off + k * 12) x) := fun b0 b1 b2 b3 b4 b5 b6 hp h => pl_s HRW.out HOC.out HBL.out (grown_below h.bel (grown_set (grown_set (grown_set (grown_set (grown_set (grown_set (grown_set (grown_refl _ _) 0 b0) 1 b1) 2 b2) 3 b3) 4 b4) 5 b5) 6 b6) hp)
          have HPW : Hid (∀ (b s : Nat), W1.heap.size ≤ s → ((b < W1.heap.size ∧ b ≠ g5 ∧ b ≠ g6) ∨ s ≤ b) → b ≠ g5 ∧ b ≠ g6) := fun b s hs h => by
            have h5 := row_lt HR5.out
            have h6 := row_lt HR6.out
            rcases h with h | h
            · exact h.2
            · omega
          have HCL : Hid (∀ (W : World), PlS W1 W g5 r (.slice a5 n5 c5) b (off + k * 12) x → Calls Try.prog 20 #[.agg #[.int .i64 0, .int .i64 r.dev, .int .i64 r.id, .int .i64 r.fid, .string (T r.path), .string (T r.name), .slice a5 n5 c5], .agg #[.int .i64 x.kd, .int .i64 x.old.dev, .int .i64 x.old.id, .int .i64 x.old.fid, .string (T x.old.path), .string (T x.old.name), .int .i64 x.ch.dev, .int .i64 x.ch.id, .int .i64 x.ch.fid, .string (T x.ch.path), .string (T x.ch.name), .int .i64 x.flag]] W fun e w' => ∃ a8 n8 c8, e = .returned (.tuple #[.agg #[.int .i64 0, .int .i64 r.dev, .int .i64 r.id, .int .i64 r.fid, .string (T r.path), .string (T r.name), .slice a8 n8 c8], .int .i64 E]) ∧ MIn w' (fun b => (b < W1.heap.size ∧ b ≠ g5 ∧ b ≠ g6) ∨ W.heap.size ≤ b) (.slice a8 n8 c8) M ∧ Below W.heap.size W w' ∧ PlS W1 w' g5 r (.slice a5 n5 c5) b (off + k * 12) x) := fun W h => by
            have hc := did_any (fun b => (b < W1.heap.size ∧ b ≠ g5 ∧ b ≠ g6) ∨ W.heap.size ≤ b) 0 r (.slice a5 n5 c5) ms x.kd x.old x.ch x.flag W (HM5.out.mnts.below h.bel) (fun b hb => Or.inr hb) HLM.out HLU.out HFL.out
            rw [HME.out] at hc
            exact hc.mono fun e w' h' => pl_err HRW.out HOC.out h h'
          have hgx := row_lt HRW.out
          go_region_held_law (fun W' => PlS W1 W' g5 r (.slice a5 n5 c5) b (off + k * 12) x) (first | (with_reducible assumption) | (with_reducible exact HSD.out) | (with_reducible exact HSE.out) | (with_reducible exact KA.out _ (by assumption)) | (with_reducible exact KS.out _ _ _ _ _ _ _ (by first | exact Nat.le_refl _ | assumption) (by assumption))) (first | (go_at_call 20; (first | (have hgl := row_lt hz.out) | skip); (with_reducible refine (HCL.out _ (by assumption)).mono ?_); rintro e wx ⟨a8, n8, c8, rfl, hmn, b, hkeep⟩; (first | (have hlt0 := hgl; clear hlt0) | (with_reducible have hgl := carry_lt b) | (with_reducible have hgl := carry_ltd b) | skip); (first | (replace hz := Lib.hid ((b.block _ (row_lt hz.out)).trans hz.out)) | (with_reducible have hz := Lib.hid (carry_new b)) | (with_reducible have hz := Lib.hid (carry_drew b)) | skip); clear b; have hsz := (PlS.bel hkeep).size; replace hmn := Lib.hid hmn; (first | (have hq := hz; obtain ⟨⟨z0, z1, z2, z3, z4, z5, z6⟩, ⟨y0, y1, y2, y3, y4, y5, y6⟩⟩ := ns_reads hq.out; clear hq) | skip)))
          all_goals
            go_wp2_with fail
            go_meet
            first
              | ((with_reducible refine ⟨_, a8, n8, c8, rfl, rfl, Lib.hid (PlS.bel hkeep).size, Lib.hid (heap_alloc_new _ _), Lib.hid ?_, Lib.hid ?_⟩); exact (hmn.out.below ((Below.refl _ _).alloc (Nat.le_refl _) _)).weak (fun b h _ => HPW.out b _ (Nat.le_refl _) h); exact bnext (PlS.bel hkeep) ((Below.refl _ _).alloc (Nat.le_refl _) _))
              | ((with_reducible refine ⟨_, a8, n8, c8, rfl, rfl, Lib.hid (by first | exact Nat.le_refl _ | assumption), Lib.hid (ns_stored _ _ _ _ _ _ _ hz.out).1, Lib.hid ?_, Lib.hid ?_⟩); exact (hmn.out.grown (ns_stored _ _ _ _ _ _ _ hz.out).2 (fun h => by rcases h with h | h <;> first | omega | (simp at h; omega) | (simp at h))).weak (fun b h _ => HPW.out b _ (by first | exact Nat.le_of_lt hgl | exact Nat.le_refl _ | omega | (simp; omega) | simp) h); exact (KS.out _ _ _ _ _ _ _ (by first | exact Nat.le_refl _ | assumption) hkeep).bel)
        case rest =>
          obtain ⟨g8, a8, n8, c8, rfl, rfl, HG8, HR8, HM8, HBW⟩ := hcut
          generalize wc = W2 at *
          have HN8 := Lib.hid (show g8 ≠ g5 ∧ g8 ≠ g6 from by have := row_lt HR5.out; have := row_lt HR6.out; have := HG8.out; omega)
          replace HST := Lib.hid (HST.out.next HBW.out)
          replace HOC := Lib.hid (HOC.out.below HBW.out HBL.out)
          replace HBL := Lib.hid (Nat.lt_of_lt_of_le HBL.out HBW.out.size)
          replace HR5 := Lib.hid ((HBW.out.block _ (row_lt HR5.out)).trans HR5.out)
          replace HR6 := Lib.hid ((HBW.out.block _ (row_lt HR6.out)).trans HR6.out)
          replace HM6 := Lib.hid (HM6.out.below HBW.out)
          clear HBW HM5 HG8
          go_upto_region 10 with fail
          go_cut [10, 11] (fun q e w' => ∃ gz a n c, q = .pointer (some ⟨gz, 0, none⟩) ∧ e = .int .i64 E ∧ Hid (W2.heap.size ≤ gz) ∧ Hid (w'.heap[gz]? = some (.cells #[.int .i64 0, .int .i64 r.dev, .int .i64 r.id, .int .i64 r.fid, .string (T r.path), .string (T r.name), .slice a n c] 26 (0, 0))) ∧ Hid (MIn w' (fun b => b ≠ g5 ∧ b ≠ g6) (.slice a n c) M) ∧ Hid (Below W2.heap.size W2 w'))
          case first =>
            repeat (rename (∀ (a : Act) (w : World), Code.wp _ _ _ a w → _) => ax; clear ax)
            have HRW := HR6
            have HSD : Hid (PlS W2 W2.drew g6 r (.slice a6 n6 c6) b (off + k * 12) x) := pl_s HRW.out HOC.out HBL.out (below_drew1 (Below.refl _ _))
            have HSE : Hid (PlS W2 (W2.alloc (.cells #[.int .i64 0, .int .i64 0, .int .i64 0, .int .i64 0, .string ⟨#[]⟩, .string ⟨#[]⟩, .slice none 0 0] 26)).drew g6 r (.slice a6 n6 c6) b (off + k * 12) x) := pl_s HRW.out HOC.out HBL.out (below_drew1 ((Below.refl _ _).alloc (Nat.le_refl _) _))
            have KA : Hid (∀ {W : World} (o : Obj), PlS W2 W g6 r (.slice a6 n6 c6) b (off + k * 12) x → PlS W2 (W.alloc o) g6 r (.slice a6 n6 c6) b (off + k * 12) x) := fun o h => pl_s HRW.out HOC.out HBL.out (bnext h.bel ((Below.refl _ _).alloc (Nat.le_refl _) o))
            have KS : Hid (∀ {W : World} {p : Nat} (b0 b1 b2 b3 b4 b5 b6 : Value), W2.heap.size ≤ p → PlS W2 W g6 r (.slice a6 n6 c6) b (off + k * 12) x → PlS W2 (((((((W.setCell ⟨p, 0, none⟩ b0).setCell ⟨p, 1, none⟩ b1).setCell ⟨p, 2, none⟩ b2).setCell ⟨p, 3, none⟩ b3).setCell ⟨p, 4, none⟩ b4).setCell ⟨p, 5, none⟩ b5).setCell ⟨p, 6, none⟩ b6) g6 r (.slice a6 n6 c6) b (off + k * 12) x) := fun b0 b1 b2 b3 b4 b5 b6 hp h => pl_s HRW.out HOC.out HBL.out (grown_below h.bel (grown_set (grown_set (grown_set (grown_set (grown_set (grown_set (grown_set (grown_refl _ _) 0 b0) 1 b1) 2 b2) 3 b3) 4 b4) 5 b5) 6 b6) hp)
            have HPW : Hid (∀ (b s : Nat), W2.heap.size ≤ s → ((b < W2.heap.size ∧ b ≠ g5 ∧ b ≠ g6) ∨ s ≤ b) → b ≠ g5 ∧ b ≠ g6) := fun b s hs h => by
              have h5 := row_lt HR5.out
              have h6 := row_lt HR6.out
              rcases h with h | h
              · exact h.2
              · omega
            have HCL : Hid (∀ (W : World), PlS W2 W g6 r (.slice a6 n6 c6) b (off + k * 12) x → Calls Try.prog 21 #[.agg #[.int .i64 0, .int .i64 r.dev, .int .i64 r.id, .int .i64 r.fid, .string (T r.path), .string (T r.name), .slice a6 n6 c6], .agg #[.int .i64 x.kd, .int .i64 x.old.dev, .int .i64 x.old.id, .int .i64 x.old.fid, .string (T x.old.path), .string (T x.old.name), .int .i64 x.ch.dev, .int .i64 x.ch.id, .int .i64 x.ch.fid, .string (T x.ch.path), .string (T x.ch.name), .int .i64 x.flag]] W fun e w' => ∃ a8 n8 c8, e = .returned (.tuple #[.agg #[.int .i64 0, .int .i64 r.dev, .int .i64 r.id, .int .i64 r.fid, .string (T r.path), .string (T r.name), .slice a8 n8 c8], .int .i64 E]) ∧ MIn w' (fun b => (b < W2.heap.size ∧ b ≠ g5 ∧ b ≠ g6) ∨ W.heap.size ≤ b) (.slice a8 n8 c8) M ∧ Below W.heap.size W w' ∧ PlS W2 w' g6 r (.slice a6 n6 c6) b (off + k * 12) x) := fun W h => by
              have hc := want_any (fun b => (b < W2.heap.size ∧ b ≠ g5 ∧ b ≠ g6) ∨ W.heap.size ≤ b) 0 r (.slice a6 n6 c6) ms x.kd x.old x.ch x.flag W ((HM6.out.weak (P' := (fun b => (b < W2.heap.size ∧ b ≠ g5 ∧ b ≠ g6) ∨ W.heap.size ≤ b)) (fun b h1 h2 => Or.inl ⟨h2, h1⟩)).below h.bel) (fun b hb => Or.inr hb) HLM.out HLU.out HFL.out
              rw [HME.out] at hc
              exact hc.mono fun e w' h' => pl_err HRW.out HOC.out h h'
            have hgx := row_lt HRW.out
            go_region_held_law (fun W' => PlS W2 W' g6 r (.slice a6 n6 c6) b (off + k * 12) x) (first | (with_reducible assumption) | (with_reducible exact HSD.out) | (with_reducible exact HSE.out) | (with_reducible exact KA.out _ (by assumption)) | (with_reducible exact KS.out _ _ _ _ _ _ _ (by first | exact Nat.le_refl _ | assumption) (by assumption))) (first | (go_at_call 21; (first | (have hgl := row_lt hz.out) | skip); (with_reducible refine (HCL.out _ (by assumption)).mono ?_); rintro e wx ⟨a8, n8, c8, rfl, hmn, b, hkeep⟩; (first | (have hlt0 := hgl; clear hlt0) | (with_reducible have hgl := carry_lt b) | (with_reducible have hgl := carry_ltd b) | skip); (first | (replace hz := Lib.hid ((b.block _ (row_lt hz.out)).trans hz.out)) | (with_reducible have hz := Lib.hid (carry_new b)) | (with_reducible have hz := Lib.hid (carry_drew b)) | skip); clear b; have hsz := (PlS.bel hkeep).size; replace hmn := Lib.hid hmn; (first | (have hq := hz; obtain ⟨⟨z0, z1, z2, z3, z4, z5, z6⟩, ⟨y0, y1, y2, y3, y4, y5, y6⟩⟩ := ns_reads hq.out; clear hq) | skip)))
            all_goals
              go_wp2_with fail
              go_meet
              first
                | ((with_reducible refine ⟨_, a8, n8, c8, rfl, rfl, Lib.hid (PlS.bel hkeep).size, Lib.hid (heap_alloc_new _ _), Lib.hid ?_, Lib.hid ?_⟩); exact (hmn.out.below ((Below.refl _ _).alloc (Nat.le_refl _) _)).weak (fun b h _ => HPW.out b _ (Nat.le_refl _) h); exact bnext (PlS.bel hkeep) ((Below.refl _ _).alloc (Nat.le_refl _) _))
                | ((with_reducible refine ⟨_, a8, n8, c8, rfl, rfl, Lib.hid (by first | exact Nat.le_refl _ | assumption), Lib.hid (ns_stored _ _ _ _ _ _ _ hz.out).1, Lib.hid ?_, Lib.hid ?_⟩); exact (hmn.out.grown (ns_stored _ _ _ _ _ _ _ hz.out).2 (fun h => by rcases h with h | h <;> first | omega | (simp at h; omega) | (simp at h))).weak (fun b h _ => HPW.out b _ (by first | exact Nat.le_of_lt hgl | exact Nat.le_refl _ | omega | (simp; omega) | simp) h); exact (KS.out _ _ _ _ _ _ _ (by first | exact Nat.le_refl _ | assumption) hkeep).bel)
          case rest =>
            obtain ⟨g10, a10, n10, c10, rfl, rfl, HG10, HR10, HM10, HBW⟩ := hcut
            generalize wc = W3 at *
            replace HN8 := Lib.hid (show g8 ≠ g5 ∧ g8 ≠ g6 ∧ g10 ≠ g5 ∧ g10 ≠ g6 from ⟨HN8.out.1, HN8.out.2, by have := row_lt HR5.out; have := row_lt HR6.out; have := HG10.out; omega⟩)
            have HST3 := Lib.hid (HST.out.next HBW.out)
            replace HR5 := Lib.hid ((HBW.out.block _ (row_lt HR5.out)).trans HR5.out)
            replace HR6 := Lib.hid ((HBW.out.block _ (row_lt HR6.out)).trans HR6.out)
            replace HR8 := Lib.hid ((HBW.out.block _ (row_lt HR8.out)).trans HR8.out)
            replace HM8 := Lib.hid (HM8.out.below HBW.out)
            clear HBW HST HM6 HG10 HOC HBL HFL HLM HLU
            go_upto_region 13 with fail
            have HST4 := Lib.hid ((pl_done HST3.out HR8.out HM8.out HR10.out HM10.out HN8.out).next (below_drew1 (Below.refl _ _)))
            obtain ⟨⟨s0, s1, s2, s3, s4, s5, s6⟩, _⟩ := ns_reads HR8.out
            obtain ⟨⟨p0, p1, p2, p3, p4, p5, p6⟩, _⟩ := ns_reads HR10.out
            obtain ⟨⟨d0, d1, d2, d3, d4, d5, d6⟩, ⟨f0, f1, f2, f3, f4, f5, f6⟩⟩ := ns_reads HR5.out
            obtain ⟨⟨dd0, dd1, dd2, dd3, dd4, dd5, dd6⟩, ⟨ff0, ff1, ff2, ff3, ff4, ff5, ff6⟩⟩ := ns_reads HR6.out
            have hn56 := HNE.out.1
            have hn65 := fun e => HNE.out.1 (Eq.symm e)
            obtain ⟨hn1, hn2, hn3, hn4⟩ := HN8.out
            rename (∀ (a : Act) (w : World), Code.wp _ _ _ a w → _) => ax0
            revert ax0
            rename (∀ (a : Act) (w : World), Code.wp _ _ _ a w → _) => ax1
            intro ax0
            have HAX0 := Lib.hid ax0
            have HAX1 := Lib.hid ax1
            clear ax0 ax1
            go_region
            have ax1 := HAX1.out
            have ax0 := HAX0.out
            clear HAX0 HAX1 s0 s1 s2 s3 s4 s5 s6 p0 p1 p2 p3 p4 p5 p6 d0 d1 d2 d3 d4 d5 d6 f0 f1 f2 f3 f4 f5 f6 dd0 dd1 dd2 dd3 dd4 dd5 dd6 ff0 ff1 ff2 ff3 ff4 ff5 ff6 hn1 hn2 hn3 hn4 hn56 hn65 HST3 HM8 HM10 HR8 HR10 HR5 HR6
            generalize World.drew _ = W4 at HST4 ⊢
            go_wp2_with fail
            go_roundw
            case rel => exact ⟨k + 1, _, _, M, by omega, by go_num, HRM, HST4⟩
            case measure => simp [intOf]; omega
      · obtain rfl : k = l.length := by omega
        have HB4 := Lib.hid HST.out.2.2.2.2.2
        have HM5 := Lib.hid HST.out.2.2.1.mnts
        have HM6 := Lib.hid HST.out.2.2.2.1.mnts
        have HR5 := Lib.hid HST.out.1
        have HEQ := Lib.hid (show Calls Try.prog 14 #[.agg #[.int .i64 0, .int .i64 r.dev, .int .i64 r.id, .int .i64 r.fid, .string (T r.path), .string (T r.name), .slice a5 n5 c5], .agg #[.int .i64 0, .int .i64 r.dev, .int .i64 r.id, .int .i64 r.fid, .string (T r.path), .string (T r.name), .slice a6 n6 c6]] wr fun e w' => e = .returned (.bool true) ∧ Below wr.heap.size wr w' from
          eqns_any 0 r _ _ ms wr HM5.out HM6.out (by have := HLM.out; omega) (fun m hm => by have := HLU.out m hm; omega))
        have HRG := Lib.hid (fun (W : World) (h : Below wr.heap.size wr W) => show Calls Try.prog 12 #[.agg #[.int .i64 0, .int .i64 r.dev, .int .i64 r.id, .int .i64 r.fid, .string (T r.path), .string (T r.name), .slice a5 n5 c5]] W fun e w' => e = .returned (.bool true) ∧ Below W.heap.size W w' from
          (mright_any 0 r _ ms W (HM5.out.below h) (by have := HLM.out; omega) (fun m hm => by have := HLU.out m hm; omega)).mono fun e w' h' => ⟨by rw [← Ns.right_yes HRT.out]; exact h'.1, h'.2⟩)
        obtain ⟨⟨d0, d1, d2, d3, d4, d5, d6⟩, _⟩ := ns_reads HST.out.1
        obtain ⟨⟨dd0, dd1, dd2, dd3, dd4, dd5, dd6⟩, _⟩ := ns_reads HST.out.2.1
        go_wp2_with fail
        (with_reducible refine HEQ.out.mono ?_); rintro e w5 ⟨rfl, b5⟩
        have HBq := Lib.hid b5
        have HB5 := Lib.hid (bnext HB4.out b5)
        replace HR5 := Lib.hid ((b5.block _ (row_lt HR5.out)).trans HR5.out)
        clear d0 d1 d2 d3 d4 d5 d6 dd0 dd1 dd2 dd3 dd4 dd5 dd6 b5
        obtain ⟨⟨d0, d1, d2, d3, d4, d5, d6⟩, _⟩ := ns_reads HR5.out
        go_wp2_with fail
        (with_reducible refine (HRG.out _ HBq.out).mono ?_); rintro e w6 ⟨rfl, b6⟩
        have HB6 := Lib.hid (bnext HB5.out b6)
        clear d0 d1 d2 d3 d4 d5 d6 b6
        go_wp2_with fail
        have HA := Lib.hid (show Calls Try.prog 11 #[] w6 _ from awake_any w6)
        (with_reducible refine HA.out.mono ?_); rintro e w9 ⟨rfl, b9⟩
        have HB9 := Lib.hid (bnext HB6.out b9)
        clear b9
        go_wp2_with fail
        go_ret
        exact ⟨rfl, HB9.out⟩
end Go.Proofs.Ytganenaaglfdnaa
