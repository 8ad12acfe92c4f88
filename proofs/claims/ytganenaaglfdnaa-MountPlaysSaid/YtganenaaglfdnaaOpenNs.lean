/- A name space, a channel, a call and a list of calls that came in, as the walks want them. Conditions: none beyond the reading itself. -/
import Derived.Test.YtganenaaglfdnaaMntSmall
import Derived.Test.YtganenaaglfdnaaMntPlain
import Derived.ProofKit
import Derived.Deep.Slices
import Derived.Deep.Strs
import Derived.OpenShut
set_option linter.unusedVariables false
set_option linter.unusedSimpArgs false
namespace Go.Proofs.Ytganenaaglfdnaa
open Go.RowKit Go.ChangeShapes Go.WideShapes Go.ChangeAt
section
variable {H : Type} {enc : TypeId × Value → H} {W : World} {base : Nat} {spare : Nat → Bool} {held : Bool}
theorem naddr_of {w : World} {a : Addr} {v : Value} (h : w.cell? a = some v) : a = ⟨a.block, a.off, none⟩ := by
  obtain ⟨b, o, s⟩ := a
  have : s = none := World.cell?_spot h
  subst this; rfl
theorem ce_int : Try.prog.cellsOf 3 = 1 := by kernel_rfl
theorem ce_str : Try.prog.cellsOf 9 = 1 := by kernel_rfl
theorem ce_bool : Try.prog.cellsOf 4 = 1 := by kernel_rfl
theorem ce_chan : Try.prog.cellsOf 23 = 5 := by kernel_rfl
theorem ce_tgts : Try.prog.cellsOf 41 = 1 := by kernel_rfl
theorem ce_mnts : Try.prog.cellsOf 24 = 1 := by kernel_rfl
theorem ce_tgt : Try.prog.cellsOf 51 = 6 := by kernel_rfl
theorem ce_mnt : Try.prog.cellsOf 55 = 6 := by kernel_rfl
theorem ce_op : Try.prog.cellsOf 34 = 12 := by kernel_rfl
theorem cells_chn {n : Nat} {k0 k1 k2 k3 k4 : Value} {x : DataW H × List MemPlace} (h : DataW.trod enc Try.prog W base spare held n 23 [k0, k1, k2, k3, k4] = some x) :
    ∃ c : Chn, k0 = .int .i64 c.dev ∧ k1 = .int .i64 c.id ∧ k2 = .int .i64 c.fid ∧ k3 = .string (T c.path) ∧ k4 = .string (T c.name) := by
  obtain ⟨xs, n', _, _, _, hlen, hfs⟩ := DataW.trod_struct Try.underlying23 h
  match xs, hlen with
  | [y0, y1, y2, y3, y4], _ =>
    have t0 := hfs 0 _ rfl
    have t1 := hfs 1 _ rfl
    have t2 := hfs 2 _ rfl
    have t3 := hfs 3 _ rfl
    have t4 := hfs 4 _ rfl
    simp [ce_int, ce_str] at t0 t1 t2 t3 t4
    obtain ⟨i0, z0, _, _⟩ := DataW.trod_int Try.underlying3 t0
    obtain ⟨i1, z1, _, _⟩ := DataW.trod_int Try.underlying3 t1
    obtain ⟨i2, z2, _, _⟩ := DataW.trod_int Try.underlying3 t2
    obtain ⟨s3, z3, _⟩ := DataW.trod_string Try.underlying9 t3
    obtain ⟨s4, z4, _⟩ := DataW.trod_string Try.underlying9 t4
    simp only [List.cons.injEq, and_true] at z0 z1 z2 z3 z4
    subst z0 z1 z2 z3 z4
    exact ⟨⟨i0, i1, i2, s3.data.toList, s4.data.toList⟩, rfl, rfl, rfl, by rw [T_of], by rw [T_of]⟩
theorem cells_6 {w : World} {base : Nat} {a : Addr} {cs : List Value} (h : w.cells? base a 6 = some cs) :
    ∃ k0 k1 k2 k3 k4 k5, cs = [k0, k1, k2, k3, k4, k5] ∧ w.cell? (a.add 0) = some k0 ∧ w.cell? (a.add 1) = some k1 ∧ w.cell? (a.add 2) = some k2 ∧ w.cell? (a.add 3) = some k3 ∧ w.cell? (a.add 4) = some k4 ∧ w.cell? (a.add 5) = some k5 := by
  obtain ⟨_, hlen, hget⟩ := World.cells?_some h
  match cs, hlen with
  | [k0, k1, k2, k3, k4, k5], _ =>
    exact ⟨k0, k1, k2, k3, k4, k5, rfl, by simpa using hget 0 (by omega), by simpa using hget 1 (by omega), by simpa using hget 2 (by omega), by simpa using hget 3 (by omega), by simpa using hget 4 (by omega), by simpa using hget 5 (by omega)⟩
theorem cell_tgts {n : Nat} {V : Value} {x : DataW H × List MemPlace} (h : DataW.trod enc Try.prog W base spare held n 41 [V] = some x) : ∃ l, Tgts W V l := by
  rcases Go.Deep.open_slice Try.underlying41 h with ⟨hcs, _⟩ | ⟨a, len, cap, m, n, D, Pl, hcs, _, hl, hm, hz, _, hcell⟩
  · obtain rfl : V = .slice none 0 0 := by simpa using hcs
    exact ⟨[], none, 0, rfl, Nat.le_refl _, fun _ => rfl, fun j hj => by simp at hj⟩
  · obtain rfl : V = .slice (some a) len cap := by simpa using hcs
    have hlm : len ≤ m := by rw [hz]; split <;> omega
    by_cases h0 : len = 0
    · subst h0
      exact ⟨[], some a, cap, rfl, hl, (fun h => nomatch h), fun j hj => by simp at hj⟩
    · have key : ∀ i, i < len → ∃ t : Tgt, W.cell? (a.add (i * 6)) = some (.int .i64 t.ch.dev) ∧ W.cell? (a.add (i * 6 + 1)) = some (.int .i64 t.ch.id) ∧ W.cell? (a.add (i * 6 + 2)) = some (.int .i64 t.ch.fid) ∧ W.cell? (a.add (i * 6 + 3)) = some (.string (T t.ch.path)) ∧ W.cell? (a.add (i * 6 + 4)) = some (.string (T t.ch.name)) ∧ W.cell? (a.add (i * 6 + 5)) = some (.bool t.cr) := fun i hi => by
        obtain ⟨cs, hcs', ht⟩ := hcell i (by omega)
        rw [ce_tgt] at hcs'
        obtain ⟨k0, k1, k2, k3, k4, k5, rfl, q0, q1, q2, q3, q4, q5⟩ := cells_6 hcs'
        obtain ⟨y0, y1, n', _, _, t0, t1⟩ := trod_struct2 Try.underlying51 ht
        rw [ce_chan] at t0
        rw [ce_bool] at t1
        simp only [List.drop_zero, List.take_succ_cons, List.take_zero, List.drop_succ_cons] at t0 t1
        obtain ⟨c, rfl, rfl, rfl, rfl, rfl⟩ := cells_chn t0
        obtain ⟨b, z5, _⟩ := DataW.trod_bool Try.underlying4 t1
        simp only [List.cons.injEq, and_true] at z5
        subst z5
        rw [Go.Deep.add_add] at q0 q1 q2 q3 q4 q5
        rw [Nat.add_zero] at q0
        exact ⟨⟨c, b⟩, q0, q1, q2, q3, q4, q5⟩
      obtain ⟨f, hf'⟩ := Go.Deep.choose_lt key
      obtain ⟨hc0, _⟩ := hf' 0 (by omega)
      obtain ⟨b, off, sp⟩ := a
      obtain rfl : sp = none := by simpa [Addr.add] using World.cell?_spot hc0
      have hlen : ((List.range len).map f).length = len := by simp
      refine ⟨(List.range len).map f, some ⟨b, off, none⟩, cap, by rw [hlen], by rw [hlen]; exact hl, (fun h => nomatch h), fun j hj => ⟨b, off, rfl, block_lt_of_cell hc0, ?_⟩⟩
      rw [hlen] at hj
      obtain ⟨h1, h2, h3, h4, h5, h6⟩ := hf' j hj
      simp only [Addr.add_lit] at h1 h2 h3 h4 h5 h6
      simp only [List.getElem_map, List.getElem_range]
      exact ⟨⟨h1, by rw [Nat.add_assoc]; exact h2, by rw [Nat.add_assoc]; exact h3, by rw [Nat.add_assoc]; exact h4, by rw [Nat.add_assoc]; exact h5⟩, by rw [Nat.add_assoc]; exact h6⟩
theorem cell_mnts {n : Nat} {V : Value} {x : DataW H × List MemPlace} (h : DataW.trod enc Try.prog W base spare held n 24 [V] = some x) : ∃ l, Mnts W V l := by
  rcases Go.Deep.open_slice Try.underlying24 h with ⟨hcs, _⟩ | ⟨a, len, cap, m, n, D, Pl, hcs, _, hl, hm, hz, _, hcell⟩
  · obtain rfl : V = .slice none 0 0 := by simpa using hcs
    exact ⟨[], none, 0, rfl, Nat.le_refl _, fun _ => rfl, fun j hj => by simp at hj⟩
  · obtain rfl : V = .slice (some a) len cap := by simpa using hcs
    have hlm : len ≤ m := by rw [hz]; split <;> omega
    by_cases h0 : len = 0
    · subst h0
      exact ⟨[], some a, cap, rfl, hl, (fun h => nomatch h), fun j hj => by simp at hj⟩
    · have key : ∀ i, i < len → ∃ t : Mnt, W.cell? (a.add (i * 6)) = some (.int .i64 t.fr.dev) ∧ W.cell? (a.add (i * 6 + 1)) = some (.int .i64 t.fr.id) ∧ W.cell? (a.add (i * 6 + 2)) = some (.int .i64 t.fr.fid) ∧ W.cell? (a.add (i * 6 + 3)) = some (.string (T t.fr.path)) ∧ W.cell? (a.add (i * 6 + 4)) = some (.string (T t.fr.name)) ∧ ∃ tv, W.cell? (a.add (i * 6 + 5)) = some tv ∧ Tgts W tv t.to := fun i hi => by
        obtain ⟨cs, hcs', ht⟩ := hcell i (by omega)
        rw [ce_mnt] at hcs'
        obtain ⟨k0, k1, k2, k3, k4, k5, rfl, q0, q1, q2, q3, q4, q5⟩ := cells_6 hcs'
        obtain ⟨y0, y1, n', _, _, t0, t1⟩ := trod_struct2 Try.underlying55 ht
        rw [ce_chan] at t0
        rw [ce_tgts] at t1
        simp only [List.drop_zero, List.take_succ_cons, List.take_zero, List.drop_succ_cons] at t0 t1
        obtain ⟨c, rfl, rfl, rfl, rfl, rfl⟩ := cells_chn t0
        obtain ⟨l, hl⟩ := cell_tgts t1
        rw [Go.Deep.add_add] at q0 q1 q2 q3 q4 q5
        rw [Nat.add_zero] at q0
        exact ⟨⟨c, l⟩, q0, q1, q2, q3, q4, k5, q5, hl⟩
      obtain ⟨f, hf'⟩ := Go.Deep.choose_lt key
      obtain ⟨hc0, _⟩ := hf' 0 (by omega)
      obtain ⟨b, off, sp⟩ := a
      obtain rfl : sp = none := by simpa [Addr.add] using World.cell?_spot hc0
      have hlen : ((List.range len).map f).length = len := by simp
      refine ⟨(List.range len).map f, some ⟨b, off, none⟩, cap, by rw [hlen], by rw [hlen]; exact hl, (fun h => nomatch h), fun j hj => ⟨b, off, rfl, block_lt_of_cell hc0, ?_⟩⟩
      rw [hlen] at hj
      obtain ⟨h1, h2, h3, h4, h5, tv, h6, h7⟩ := hf' j hj
      simp only [Addr.add_lit] at h1 h2 h3 h4 h5 h6
      simp only [List.getElem_map, List.getElem_range]
      exact ⟨⟨h1, by rw [Nat.add_assoc]; exact h2, by rw [Nat.add_assoc]; exact h3, by rw [Nat.add_assoc]; exact h4, by rw [Nat.add_assoc]; exact h5⟩, tv, by rw [Nat.add_assoc]; exact h6, h7⟩
theorem open_chn {r : Reach} {b0 : Nat} {v : Value} {d : DataW H} {p : List MemPlace} (hv : Value.okWide Try.prog W r b0 23 v) (h : DataW.Trod enc Try.prog W base spare held 23 v d p) :
    ∃ c : Chn, v = chv c := by
  obtain ⟨cs, rfl, hsz⟩ := okWide_struct Try.underlying23 hv
  rw [ce_chan] at hsz
  obtain ⟨c0, c1, c2, c3, c4, rfl⟩ : ∃ c0 c1 c2 c3 c4, cs = #[c0, c1, c2, c3, c4] := by
    obtain ⟨l⟩ := cs
    match l, hsz with
    | [c0, c1, c2, c3, c4], _ => exact ⟨c0, c1, c2, c3, c4, rfl⟩
  obtain ⟨fuel, hf⟩ := h
  obtain ⟨c, rfl, rfl, rfl, rfl, rfl⟩ := cells_chn hf
  exact ⟨c, rfl⟩
theorem open_ns {r : Reach} {b0 : Nat} {v : Value} {d : DataW H} {p : List MemPlace} (hv : Value.okWide Try.prog W r b0 26 v) (h : DataW.Trod enc Try.prog W base spare held 26 v d p) :
    ∃ (id : Int) (c : Chn) (mv : Value) (ms : List Mnt), v = nsv id c mv ∧ Mnts W mv ms := by
  obtain ⟨cs, rfl, hsz⟩ := okWide_struct Try.underlying26 hv
  rw [show Try.prog.cellsOf 26 = 7 from by kernel_rfl] at hsz
  obtain ⟨c0, c1, c2, c3, c4, c5, c6, rfl⟩ : ∃ c0 c1 c2 c3 c4 c5 c6, cs = #[c0, c1, c2, c3, c4, c5, c6] := by
    obtain ⟨l⟩ := cs
    match l, hsz with
    | [c0, c1, c2, c3, c4, c5, c6], _ => exact ⟨c0, c1, c2, c3, c4, c5, c6, rfl⟩
  obtain ⟨fuel, hf⟩ := h
  obtain ⟨xs, n, _, _, _, hlen, hfs⟩ := DataW.trod_struct Try.underlying26 hf
  match xs, hlen with
  | [y0, y1, y2], _ =>
    have t0 := hfs 0 _ rfl
    have t1 := hfs 1 _ rfl
    have t2 := hfs 2 _ rfl
    simp [Value.cells, ce_int, ce_chan, ce_mnts] at t0 t1 t2
    obtain ⟨i0, z0, _, _⟩ := DataW.trod_int Try.underlying3 t0
    simp only [List.cons.injEq, and_true] at z0
    subst z0
    obtain ⟨c, rfl, rfl, rfl, rfl, rfl⟩ := cells_chn t1
    obtain ⟨ms, hb⟩ := cell_mnts t2
    exact ⟨i0, c, c6, ms, rfl, hb⟩
theorem cells_op {n : Nat} {k0 k1 k2 k3 k4 k5 k6 k7 k8 k9 k10 k11 : Value} {x : DataW H × List MemPlace} (h : DataW.trod enc Try.prog W base spare held n 34 [k0, k1, k2, k3, k4, k5, k6, k7, k8, k9, k10, k11] = some x) :
    ∃ (k : Int) (o c : Chn) (f : Int), f ≤ 9223372036854775807 ∧ k0 = .int .i64 k ∧ k1 = .int .i64 o.dev ∧ k2 = .int .i64 o.id ∧ k3 = .int .i64 o.fid ∧ k4 = .string (T o.path) ∧ k5 = .string (T o.name) ∧ k6 = .int .i64 c.dev ∧ k7 = .int .i64 c.id ∧ k8 = .int .i64 c.fid ∧ k9 = .string (T c.path) ∧ k10 = .string (T c.name) ∧ k11 = .int .i64 f := by
  obtain ⟨xs, n', _, _, _, hlen, hfs⟩ := DataW.trod_struct Try.underlying34 h
  match xs, hlen with
  | [y0, y1, y2, y3], _ =>
    have t0 := hfs 0 _ rfl
    have t1 := hfs 1 _ rfl
    have t2 := hfs 2 _ rfl
    have t3 := hfs 3 _ rfl
    simp [ce_int, ce_chan] at t0 t1 t2 t3
    obtain ⟨i0, z0, _, _⟩ := DataW.trod_int Try.underlying3 t0
    obtain ⟨i3, z3, _, w3⟩ := DataW.trod_int Try.underlying3 t3
    simp only [List.cons.injEq, and_true] at z0 z3
    subst z0 z3
    obtain ⟨o, rfl, rfl, rfl, rfl, rfl⟩ := cells_chn t1
    obtain ⟨c, rfl, rfl, rfl, rfl, rfl⟩ := cells_chn t2
    exact ⟨i0, o, c, i3, (i64s _ w3).2, rfl, rfl, rfl, rfl, rfl, rfl, rfl, rfl, rfl, rfl, rfl, rfl⟩
theorem open_op {r : Reach} {b0 : Nat} {v : Value} {d : DataW H} {p : List MemPlace} (hv : Value.okWide Try.prog W r b0 34 v) (h : DataW.Trod enc Try.prog W base spare held 34 v d p) :
    ∃ (k : Int) (o c : Chn) (f : Int), v = opv k o c f ∧ f ≤ 9223372036854775807 := by
  obtain ⟨cs, rfl, hsz⟩ := okWide_struct Try.underlying34 hv
  rw [ce_op] at hsz
  obtain ⟨c0, c1, c2, c3, c4, c5, c6, c7, c8, c9, c10, c11, rfl⟩ : ∃ c0 c1 c2 c3 c4 c5 c6 c7 c8 c9 c10 c11, cs = #[c0, c1, c2, c3, c4, c5, c6, c7, c8, c9, c10, c11] := by
    obtain ⟨l⟩ := cs
    match l, hsz with
    | [c0, c1, c2, c3, c4, c5, c6, c7, c8, c9, c10, c11], _ => exact ⟨c0, c1, c2, c3, c4, c5, c6, c7, c8, c9, c10, c11, rfl⟩
  obtain ⟨fuel, hf⟩ := h
  obtain ⟨k, o, c, f, hl, rfl, rfl, rfl, rfl, rfl, rfl, rfl, rfl, rfl, rfl, rfl, rfl⟩ := cells_op hf
  exact ⟨k, o, c, f, rfl, hl⟩
end
end Go.Proofs.Ytganenaaglfdnaa
