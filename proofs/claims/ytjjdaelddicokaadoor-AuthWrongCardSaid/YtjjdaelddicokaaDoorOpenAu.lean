/- A list of attributes, a conversation and a pair of texts that came in, as the walks want them. Conditions: none beyond the reading itself. -/
import Derived.Test.YtjjdaelddicokaaDoorAuRows
import Derived.ProofKit
import Derived.Deep.Slices
import Derived.Deep.Strs
import Derived.OpenShut
import Derived.SliceStrings
set_option linter.unusedVariables false
set_option linter.unusedSimpArgs false
namespace Go.Proofs.YtjjdaelddicokaaDoor
open Go.RowKit Go.ChangeShapes Go.WideShapes Go.ChangeAt
open Go.ChangeMaps (open_string shut_string)
open Au (Att Cnv)
section
variable {H : Type} {enc : TypeId × Value → H} {W : World} {base : Nat} {spare : Nat → Bool} {held : Bool}
instance : Inhabited Att := ⟨⟨[], [], false⟩⟩
theorem cell_attrs {n : Nat} {V : Value} {x : DataW H × List MemPlace} (h : DataW.trod enc Tryd.prog W base spare held n 25 [V] = some x) : ∃ l, Atts W V l ∧ l.length ≤ maxLen := by
  rcases Go.Deep.open_slice Tryd.underlying25 h with ⟨hcs, _⟩ | ⟨a, len, cap, m, n, D, Pl, hcs, _, hl, hm, hz, _, hcell⟩
  · obtain rfl : V = .slice none 0 0 := by simpa using hcs
    exact ⟨[], atts_nil _, Nat.zero_le _⟩
  · obtain rfl : V = .slice (some a) len cap := by simpa using hcs
    have hlm : len ≤ m := by rw [hz]; split <;> omega
    by_cases h0 : len = 0
    · subst h0
      exact ⟨[], ⟨some a, cap, rfl, hl, (fun h => nomatch h), fun j hj => by simp at hj⟩, Nat.zero_le _⟩
    · have key : ∀ i, i < len → ∃ b : Att, W.cell? (a.add (i * 3)) = some (.string (T b.name)) ∧ W.cell? (a.add (i * 3 + 1)) = some (.string (T b.value)) ∧ W.cell? (a.add (i * 3 + 2)) = some (.bool b.query) := fun i hi => by
        obtain ⟨cs, hcs', ht⟩ := hcell i (by omega)
        rw [show Tryd.prog.cellsOf 53 = 3 from by kernel_rfl] at hcs'
        obtain ⟨_, hlen, hget⟩ := World.cells?_some hcs'
        obtain ⟨k0, k1, k2, rfl⟩ : ∃ k0 k1 k2, cs = [k0, k1, k2] := by
          match cs, hlen with
          | [k0, k1, k2], _ => exact ⟨k0, k1, k2, rfl⟩
        obtain ⟨y0, y1, y2, n', _, _, t0, t1, t2⟩ := Go.Deep.trod_struct3 Tryd.underlying53 ht
        have e1 : Tryd.prog.cellsOf 9 = 1 := by kernel_rfl
        have e2 : Tryd.prog.cellsOf 4 = 1 := by kernel_rfl
        obtain ⟨s0, z0, _⟩ := DataW.trod_string Tryd.underlying9 t0
        obtain ⟨s1, z1, _⟩ := DataW.trod_string Tryd.underlying9 t1
        obtain ⟨i2, z2, _⟩ := DataW.trod_bool Tryd.underlying4 t2
        have q0 := hget 0 (by omega)
        have q1 := hget 1 (by omega)
        have q2 := hget 2 (by omega)
        rw [Go.Deep.add_add] at q0 q1 q2
        have u0 : k0 = .string s0 := by simpa [e1, e2] using z0
        have u1 : k1 = .string s1 := by simpa [e1, e2] using z1
        have u2 : k2 = .bool i2 := by simpa [e1, e2] using z2
        subst u0 u1 u2
        exact ⟨⟨s0.data.toList, s1.data.toList, i2⟩, by rw [T_of]; simpa using q0, by rw [T_of]; simpa using q1, by simpa using q2⟩
      obtain ⟨f, hf'⟩ := Go.Deep.choose_lt key
      obtain ⟨hc0, _⟩ := hf' 0 (by omega)
      obtain ⟨b, off, sp⟩ := a
      obtain rfl : sp = none := by simpa [Addr.add] using World.cell?_spot hc0
      have hlen : ((List.range len).map f).length = len := by simp
      refine ⟨(List.range len).map f, ⟨some ⟨b, off, none⟩, cap, by rw [hlen], by rw [hlen]; exact hl, (fun h => nomatch h), fun j hj => ⟨b, off, rfl, block_lt_of_cell hc0, ?_⟩⟩, by rw [hlen]; omega⟩
      rw [hlen] at hj
      obtain ⟨h1, h2, h3⟩ := hf' j hj
      simp only [Addr.add_lit] at h1 h2 h3
      simp only [List.getElem_map, List.getElem_range]
      exact ⟨h1, by rw [Nat.add_assoc]; exact h2, by rw [Nat.add_assoc]; exact h3⟩
set_option maxRecDepth 20000 in
theorem open_attrs {r : Reach} {b0 : Nat} {v : Value} {d : DataW H} {p : List MemPlace} (hv : Value.okWide Tryd.prog W r b0 25 v) (h : DataW.Trod enc Tryd.prog W base spare held 25 v d p) :
    ∃ l, Atts W v l ∧ l.length ≤ 9223372036854775807 := by
  obtain ⟨a0, l0, c0, rfl⟩ := okWide_slice Tryd.underlying25 hv
  obtain ⟨fuel, hf⟩ := h
  obtain ⟨l, h1, h2⟩ := cell_attrs (V := .slice a0 l0 c0) (by simpa [Value.cells] using hf)
  exact ⟨l, h1, by unfold maxLen at h2; omega⟩
set_option maxRecDepth 20000 in
theorem open_conv {r : Reach} {b0 : Nat} {v : Value} {d : DataW H} {p : List MemPlace} (hv : Value.okWide Tryd.prog W r b0 28 v) (h : DataW.Trod enc Tryd.prog W base spare held 28 v d p) :
    ∃ (c : Cnv) (kv : Value), v = .agg #[.int .i64 c.id, .string (T c.proto), .int .i64 c.role, .int .i64 c.phase, .int .i64 c.step, kv, .string (T c.own), .string (T c.peer), .string (T c.user), .int .i64 c.err] ∧ Atts W kv c.key := by
  obtain ⟨cs, rfl, hsz⟩ := okWide_struct Tryd.underlying28 hv
  rw [show Tryd.prog.cellsOf 28 = 10 from by kernel_rfl] at hsz
  obtain ⟨c0, c1, c2, c3, c4, c5, c6, c7, c8, c9, rfl⟩ : ∃ c0 c1 c2 c3 c4 c5 c6 c7 c8 c9, cs = #[c0, c1, c2, c3, c4, c5, c6, c7, c8, c9] := by
    obtain ⟨l⟩ := cs
    match l, hsz with
    | [c0, c1, c2, c3, c4, c5, c6, c7, c8, c9], _ => exact ⟨c0, c1, c2, c3, c4, c5, c6, c7, c8, c9, rfl⟩
  obtain ⟨fuel, hf⟩ := h
  obtain ⟨xs, n, _, _, _, hlen, hfs⟩ := DataW.trod_struct Tryd.underlying28 hf
  have e1 : Tryd.prog.cellsOf 3 = 1 := by kernel_rfl
  have e2 : Tryd.prog.cellsOf 25 = 1 := by kernel_rfl
  have e3 : Tryd.prog.cellsOf 9 = 1 := by kernel_rfl
  have e4 : Tryd.prog.cellsOf 26 = 1 := by kernel_rfl
  match xs, hlen with
  | [y0, y1, y2, y3, y4, y5, y6, y7, y8, y9], _ =>
    have t0 := hfs 0 _ rfl
    have t1 := hfs 1 _ rfl
    have t2 := hfs 2 _ rfl
    have t3 := hfs 3 _ rfl
    have t4 := hfs 4 _ rfl
    have t5 := hfs 5 _ rfl
    have t6 := hfs 6 _ rfl
    have t7 := hfs 7 _ rfl
    have t8 := hfs 8 _ rfl
    have t9 := hfs 9 _ rfl
    simp [Value.cells, e1, e2, e3, e4] at t0 t1 t2 t3 t4 t5 t6 t7 t8 t9
    obtain ⟨i0, z0, _, _⟩ := DataW.trod_int Tryd.underlying3 t0
    simp only [List.cons.injEq, and_true] at z0
    subst z0
    obtain ⟨i1, z1, _⟩ := DataW.trod_string Tryd.underlying9 t1
    simp only [List.cons.injEq, and_true] at z1
    subst z1
    obtain ⟨i2, z2, _, _⟩ := DataW.trod_int Tryd.underlying3 t2
    simp only [List.cons.injEq, and_true] at z2
    subst z2
    obtain ⟨i3, z3, _, _⟩ := DataW.trod_int Tryd.underlying3 t3
    simp only [List.cons.injEq, and_true] at z3
    subst z3
    obtain ⟨i4, z4, _, _⟩ := DataW.trod_int Tryd.underlying3 t4
    simp only [List.cons.injEq, and_true] at z4
    subst z4
    obtain ⟨l, hb, hl⟩ := cell_attrs t5
    obtain ⟨i6, z6, _⟩ := DataW.trod_string Tryd.underlying9 t6
    simp only [List.cons.injEq, and_true] at z6
    subst z6
    obtain ⟨i7, z7, _⟩ := DataW.trod_string Tryd.underlying9 t7
    simp only [List.cons.injEq, and_true] at z7
    subst z7
    obtain ⟨i8, z8, _⟩ := DataW.trod_string Tryd.underlying9 t8
    simp only [List.cons.injEq, and_true] at z8
    subst z8
    obtain ⟨i9, z9, _, _⟩ := DataW.trod_int Tryd.underlying26 t9
    simp only [List.cons.injEq, and_true] at z9
    subst z9
    exact ⟨⟨i0, i1.data.toList, i2, i3, i4, l, i6.data.toList, i7.data.toList, i8.data.toList, i9⟩, c5, by simp only [T_of], hb⟩
set_option maxRecDepth 20000 in
theorem open_texts2 {r : Reach} {b0 : Nat} {v : Value} {d : DataW H} {p : List MemPlace} (hv : Value.okWide Tryd.prog W r b0 38 v) (h : DataW.Trod enc Tryd.prog W base spare held 38 v d p) :
    ∃ m n : List UInt8, v = .agg #[.string (T m), .string (T n)] := by
  simp only [Value.okWide, Tryd.underlying38] at hv
  obtain ⟨cs, rfl, hsz, _⟩ := hv
  obtain ⟨fuel, hf⟩ := h
  rw [show Tryd.prog.cellsOf 38 = 2 from by kernel_rfl] at hsz
  obtain ⟨c0, c1, rfl⟩ : ∃ c0 c1, cs = #[c0, c1] := by
    obtain ⟨l⟩ := cs
    match l, hsz with
    | [a, b], _ => exact ⟨a, b, rfl⟩
  obtain ⟨xs, m, _, _, _, hn, hel⟩ := DataW.trod_array Tryd.underlying38 hf
  rw [show Tryd.prog.cellsOf 9 = 1 from by kernel_rfl] at hel
  have g0 := hel 0 (by omega)
  have g1 := hel 1 (by omega)
  simp only [Value.cells, List.drop_zero, Nat.mul_one, List.drop_succ_cons, List.take_succ_cons, List.take_zero] at g0 g1
  rw [List.getElem?_eq_getElem (by omega)] at g0 g1
  obtain ⟨a, ha, _⟩ := DataW.trod_string Tryd.underlying9 g0
  obtain ⟨b, hb, _⟩ := DataW.trod_string Tryd.underlying9 g1
  simp only [List.cons.injEq, and_true] at ha hb
  subst ha hb
  exact ⟨a.data.toList, b.data.toList, by rw [T_of, T_of]⟩
end
end Go.Proofs.YtjjdaelddicokaaDoor
