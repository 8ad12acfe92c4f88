/- A list of calls in memory. Conditions: none beyond those that each fact names. -/
import Derived.Test.YtganenaaglfdnaaMntSmall
set_option linter.unusedVariables false
namespace Go.Proofs.Ytganenaaglfdnaa
open Go.RowKit
/-- A call. -/
structure OpR where
  kd : Int
  old : Chn
  ch : Chn
  flag : Int
instance : Inhabited OpR := ⟨⟨0, default, default, 0⟩⟩
/-- A call in memory. -/
def OCells (w : World) (b o : Nat) (x : OpR) : Prop :=
  w.cell? ⟨b, o, none⟩ = some (.int .i64 x.kd) ∧ w.cell? ⟨b, o + 1, none⟩ = some (.int .i64 x.old.dev) ∧ w.cell? ⟨b, o + 2, none⟩ = some (.int .i64 x.old.id) ∧ w.cell? ⟨b, o + 3, none⟩ = some (.int .i64 x.old.fid) ∧ w.cell? ⟨b, o + 4, none⟩ = some (.string (T x.old.path)) ∧ w.cell? ⟨b, o + 5, none⟩ = some (.string (T x.old.name)) ∧
  w.cell? ⟨b, o + 6, none⟩ = some (.int .i64 x.ch.dev) ∧ w.cell? ⟨b, o + 7, none⟩ = some (.int .i64 x.ch.id) ∧ w.cell? ⟨b, o + 8, none⟩ = some (.int .i64 x.ch.fid) ∧ w.cell? ⟨b, o + 9, none⟩ = some (.string (T x.ch.path)) ∧ w.cell? ⟨b, o + 10, none⟩ = some (.string (T x.ch.name)) ∧ w.cell? ⟨b, o + 11, none⟩ = some (.int .i64 x.flag)
theorem OCells.below {w w' : World} {b o : Nat} {x : OpR} (h : OCells w b o x) (hb : Below w.heap.size w w') (hlt : b < w.heap.size) : OCells w' b o x := by
  obtain ⟨h0, h1, h2, h3, h4, h5, h6, h7, h8, h9, h10, h11⟩ := h
  have hc := (bcell hb).1
  exact ⟨(hc _ _ hlt).trans h0, (hc _ _ hlt).trans h1, (hc _ _ hlt).trans h2, (hc _ _ hlt).trans h3, (hc _ _ hlt).trans h4, (hc _ _ hlt).trans h5, (hc _ _ hlt).trans h6, (hc _ _ hlt).trans h7, (hc _ _ hlt).trans h8, (hc _ _ hlt).trans h9, (hc _ _ hlt).trans h10, (hc _ _ hlt).trans h11⟩
/-- A list of calls in memory. -/
def Ops (w : World) (v : Value) (l : List OpR) : Prop :=
  ∃ ao cap, v = .slice ao l.length cap ∧ ∀ j (h : j < l.length), ∃ b off, ao = some ⟨b, off, none⟩ ∧ b < w.heap.size ∧ OCells w b (off + j * 12) l[j] ∧ l[j].flag ≤ 9223372036854775807
end Go.Proofs.Ytganenaaglfdnaa
