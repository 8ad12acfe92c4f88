/- A list of calls that came in, as the walk wants it. Conditions: none beyond the reading itself. -/
import Derived.Test.YtganenaaglfdnaaOpenNs
import Derived.Test.YtganenaaglfdnaaMntOps
set_option linter.unusedVariables false
set_option linter.unusedSimpArgs false
namespace Go.Proofs.Ytganenaaglfdnaa
open Go.RowKit Go.ChangeShapes Go.WideShapes Go.ChangeAt
section
variable {H : Type} {enc : TypeId × Value → H} {W : World} {base : Nat} {spare : Nat → Bool} {held : Bool}
theorem open_ops {r : Reach} {b0 : Nat} {v : Value} {d : DataW H} {p : List MemPlace} (hv : Value.okWide Try.prog W r b0 46 v) (h : DataW.Trod enc Try.prog W base spare held 46 v d p) :
    ∃ l, Ops W v l := by
  obtain ⟨a0, l0, c0, rfl⟩ := okWide_slice Try.underlying46 hv
  obtain ⟨fuel, hf⟩ := h
  rcases Go.Deep.open_slice Try.underlying46 hf with ⟨hcs, _⟩ | ⟨a, len, cap, m, n, D, Pl, hcs, _, hl, hm, hz, _, hcell⟩
  · have : Value.slice a0 l0 c0 = .slice none 0 0 := by simpa [Value.cells] using hcs
    rw [this]
    exact ⟨[], none, 0, rfl, fun j hj => by simp at hj⟩
  · have hvv : Value.slice a0 l0 c0 = .slice (some a) len cap := by simpa [Value.cells] using hcs
    rw [hvv]
    have hlm : len ≤ m := by rw [hz]; split <;> omega
    by_cases h0 : len = 0
    · subst h0
      exact ⟨[], some a, cap, rfl, fun j hj => by simp at hj⟩
    · have key : ∀ i, i < len → ∃ x : OpR, x.flag ≤ 9223372036854775807 ∧ W.cell? (a.add (i * 12)) = some (.int .i64 x.kd) ∧ W.cell? (a.add (i * 12 + 1)) = some (.int .i64 x.old.dev) ∧ W.cell? (a.add (i * 12 + 2)) = some (.int .i64 x.old.id) ∧ W.cell? (a.add (i * 12 + 3)) = some (.int .i64 x.old.fid) ∧ W.cell? (a.add (i * 12 + 4)) = some (.string (T x.old.path)) ∧ W.cell? (a.add (i * 12 + 5)) = some (.string (T x.old.name)) ∧
          W.cell? (a.add (i * 12 + 6)) = some (.int .i64 x.ch.dev) ∧ W.cell? (a.add (i * 12 + 7)) = some (.int .i64 x.ch.id) ∧ W.cell? (a.add (i * 12 + 8)) = some (.int .i64 x.ch.fid) ∧ W.cell? (a.add (i * 12 + 9)) = some (.string (T x.ch.path)) ∧ W.cell? (a.add (i * 12 + 10)) = some (.string (T x.ch.name)) ∧ W.cell? (a.add (i * 12 + 11)) = some (.int .i64 x.flag) := fun i hi => by
        obtain ⟨cs, hcs', ht⟩ := hcell i (by omega)
        rw [ce_op] at hcs'
        obtain ⟨_, hlen, hget⟩ := World.cells?_some hcs'
        match cs, hlen with
        | [k0, k1, k2, k3, k4, k5, k6, k7, k8, k9, k10, k11], _ =>
          obtain ⟨k, o, c, f, hfl, rfl, rfl, rfl, rfl, rfl, rfl, rfl, rfl, rfl, rfl, rfl, rfl⟩ := cells_op ht
          have q0 := hget 0 (by simp)
          have q1 := hget 1 (by simp)
          have q2 := hget 2 (by simp)
          have q3 := hget 3 (by simp)
          have q4 := hget 4 (by simp)
          have q5 := hget 5 (by simp)
          have q6 := hget 6 (by simp)
          have q7 := hget 7 (by simp)
          have q8 := hget 8 (by simp)
          have q9 := hget 9 (by simp)
          have q10 := hget 10 (by simp)
          have q11 := hget 11 (by simp)
          rw [Go.Deep.add_add] at q0 q1 q2 q3 q4 q5 q6 q7 q8 q9 q10 q11
          rw [Nat.add_zero] at q0
          exact ⟨⟨k, o, c, f⟩, hfl, by simpa using q0, by simpa using q1, by simpa using q2, by simpa using q3, by simpa using q4, by simpa using q5, by simpa using q6, by simpa using q7, by simpa using q8, by simpa using q9, by simpa using q10, by simpa using q11⟩
      obtain ⟨f, hf'⟩ := Go.Deep.choose_lt key
      obtain ⟨_, hc0, _⟩ := hf' 0 (by omega)
      obtain ⟨b, off, sp⟩ := a
      obtain rfl : sp = none := by simpa [Addr.add] using World.cell?_spot hc0
      have hlen : ((List.range len).map f).length = len := by simp
      refine ⟨(List.range len).map f, some ⟨b, off, none⟩, cap, by rw [hlen], fun j hj => ⟨b, off, rfl, block_lt_of_cell hc0, ?_⟩⟩
      rw [hlen] at hj
      obtain ⟨h12, h0, h1, h2, h3, h4, h5, h6, h7, h8, h9, h10, h11⟩ := hf' j hj
      simp only [Addr.add_lit] at h0 h1 h2 h3 h4 h5 h6 h7 h8 h9 h10 h11
      simp only [← Nat.add_assoc] at h1 h2 h3 h4 h5 h6 h7 h8 h9 h10 h11
      simp only [List.getElem_map, List.getElem_range]
      exact ⟨⟨h0, h1, h2, h3, h4, h5, h6, h7, h8, h9, h10, h11⟩, h12⟩
end
end Go.Proofs.Ytganenaaglfdnaa
