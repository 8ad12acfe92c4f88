/- The cells of the laws' boxes, in worlds behind a given one. Conditions: the boxes' rows. -/
import Derived.Test.YtganenaaglfdnaaMntSmall
import Derived.Test.YtganenaaglfdnaaMntAwake
import Derived.Test.YtganenaaglfdnaaSkips
import Derived.Deep.CutBlock
set_option linter.unusedVariables false
set_option linter.unusedSimpArgs false
namespace Go.Proofs.Ytganenaaglfdnaa
open Go.RowKit
/-- The cells of a name space's box, in a world behind W0. -/
abbrev NbS (W0 W : World) (g : Nat) (id : Int) (r : Chn) (v : Value) : Prop :=
  W.cell? ⟨g, 0, none⟩ = some (.int .i64 id) ∧ W.cell? ⟨g, 1, none⟩ = some (.int .i64 r.dev) ∧ W.cell? ⟨g, 2, none⟩ = some (.int .i64 r.id) ∧ W.cell? ⟨g, 3, none⟩ = some (.int .i64 r.fid) ∧ W.cell? ⟨g, 4, none⟩ = some (.string (T r.path)) ∧ W.cell? ⟨g, 5, none⟩ = some (.string (T r.name)) ∧ W.cell? ⟨g, 6, none⟩ = some v ∧ Below W0.heap.size W0 W
theorem nb_s {W0 W : World} {g : Nat} {id : Int} {r : Chn} {v : Value} (h : W0.heap[g]? = some (.cells #[.int .i64 id, .int .i64 r.dev, .int .i64 r.id, .int .i64 r.fid, .string (T r.path), .string (T r.name), v] 26 (0, 0))) (hb : Below W0.heap.size W0 W) : NbS W0 W g id r v := by
  obtain ⟨⟨h0, h1, h2, h3, h4, h5, h6⟩, _⟩ := ns_reads ((hb.block _ (row_lt h)).trans h)
  exact ⟨h0, h1, h2, h3, h4, h5, h6, hb⟩
/-- The cells of a channel's box. -/
abbrev CbS (W : World) (g : Nat) (c : Chn) : Prop :=
  W.cell? ⟨g, 0, none⟩ = some (.int .i64 c.dev) ∧ W.cell? ⟨g, 1, none⟩ = some (.int .i64 c.id) ∧ W.cell? ⟨g, 2, none⟩ = some (.int .i64 c.fid) ∧ W.cell? ⟨g, 3, none⟩ = some (.string (T c.path)) ∧ W.cell? ⟨g, 4, none⟩ = some (.string (T c.name))
theorem cb_s {W0 W : World} {g : Nat} {c : Chn} (h : W0.heap[g]? = some (.cells #[.int .i64 c.dev, .int .i64 c.id, .int .i64 c.fid, .string (T c.path), .string (T c.name)] 23 (0, 0))) (hb : Below W0.heap.size W0 W) : CbS W g c :=
  ch_reads ((hb.block _ (row_lt h)).trans h)
/-- The cells of a call's box. -/
abbrev ObS (W : World) (g : Nat) (k : Int) (o c : Chn) (flag : Int) : Prop :=
  W.cell? ⟨g, 0, none⟩ = some (.int .i64 k) ∧ W.cell? ⟨g, 1, none⟩ = some (.int .i64 o.dev) ∧ W.cell? ⟨g, 2, none⟩ = some (.int .i64 o.id) ∧ W.cell? ⟨g, 3, none⟩ = some (.int .i64 o.fid) ∧ W.cell? ⟨g, 4, none⟩ = some (.string (T o.path)) ∧ W.cell? ⟨g, 5, none⟩ = some (.string (T o.name)) ∧ W.cell? ⟨g, 6, none⟩ = some (.int .i64 c.dev) ∧ W.cell? ⟨g, 7, none⟩ = some (.int .i64 c.id) ∧ W.cell? ⟨g, 8, none⟩ = some (.int .i64 c.fid) ∧ W.cell? ⟨g, 9, none⟩ = some (.string (T c.path)) ∧ W.cell? ⟨g, 10, none⟩ = some (.string (T c.name)) ∧ W.cell? ⟨g, 11, none⟩ = some (.int .i64 flag)
theorem ob_s {W0 W : World} {g : Nat} {k : Int} {o c : Chn} {flag : Int} (h : W0.heap[g]? = some (.cells #[.int .i64 k, .int .i64 o.dev, .int .i64 o.id, .int .i64 o.fid, .string (T o.path), .string (T o.name), .int .i64 c.dev, .int .i64 c.id, .int .i64 c.fid, .string (T c.path), .string (T c.name), .int .i64 flag] 34 (0, 0))) (hb : Below W0.heap.size W0 W) : ObS W g k o c flag := by
  have h' := (hb.block _ (row_lt h)).trans h
  refine ⟨?_, ?_, ?_, ?_, ?_, ?_, ?_, ?_, ?_, ?_, ?_, ?_⟩ <;> (rw [cell_of_row _ _ _ _ _ _ h']; rfl)
end Go.Proofs.Ytganenaaglfdnaa
