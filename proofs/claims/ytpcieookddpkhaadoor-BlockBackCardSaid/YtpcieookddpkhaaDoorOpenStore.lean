/- A store of blocks and a list of items that came in, as the walks want them. Conditions: none beyond the reading itself. -/
import Derived.Test.YtpcieookddpkhaaDoorBlks
import Derived.ProofKit
import Derived.Deep.Slices
import Derived.Deep.Strs
import Derived.OpenShut
import Derived.SliceStrings
set_option linter.unusedVariables false
set_option linter.unusedSimpArgs false
namespace Go.Proofs.YtpcieookddpkhaaDoor
open Go.RowKit Go.ChangeShapes Go.WideShapes Go.ChangeAt
open Go.ChangeMaps (open_string shut_string)
section
variable {H : Type} {enc : TypeId × Value → H} {W : World} {base : Nat} {spare : Nat → Bool} {held : Bool}
instance : Inhabited Blk := ⟨⟨[], 0, []⟩⟩
theorem saddr_of {w : World} {a : Addr} {v : Value} (h : w.cell? a = some v) : a = ⟨a.block, a.off, none⟩ := by
  obtain ⟨b, o, s⟩ := a
  have : s = none := World.cell?_spot h
  subst this; rfl
theorem cell_blks {n : Nat} {V : Value} {x : DataW H × List MemPlace} (h : DataW.trod enc Tryd.prog W base spare held n 22 [V] = some x) : ∃ bs, Blks W V bs ∧ bs.length ≤ maxLen := by
  rcases Go.Deep.open_slice Tryd.underlying22 h with ⟨hcs, _⟩ | ⟨a, len, cap, m, n, D, Pl, hcs, _, hl, hm, hz, _, hcell⟩
  · obtain rfl : V = .slice none 0 0 := by simpa using hcs
    exact ⟨[], ⟨none, 0, rfl, Nat.le_refl _, fun _ => rfl, fun j hj => by simp at hj⟩, Nat.zero_le _⟩
  · obtain rfl : V = .slice (some a) len cap := by simpa using hcs
    have hlm : len ≤ m := by rw [hz]; split <;> omega
    by_cases h0 : len = 0
    · subst h0
      exact ⟨[], ⟨some a, cap, rfl, hl, (fun h => nomatch h), fun j hj => by simp at hj⟩, Nat.zero_le _⟩
    · have key : ∀ i, i < len → ∃ b : Blk, W.cell? (a.add (i * 3)) = some (.string (T b.sc)) ∧ W.cell? (a.add (i * 3 + 1)) = some (.int .i64 b.kd) ∧ W.cell? (a.add (i * 3 + 2)) = some (.string (T b.dt)) := fun i hi => by
        obtain ⟨cs, hcs', ht⟩ := hcell i (by omega)
        rw [show Tryd.prog.cellsOf 49 = 3 from by kernel_rfl] at hcs'
        obtain ⟨_, hlen, hget⟩ := World.cells?_some hcs'
        obtain ⟨k0, k1, k2, rfl⟩ : ∃ k0 k1 k2, cs = [k0, k1, k2] := by
          match cs, hlen with
          | [k0, k1, k2], _ => exact ⟨k0, k1, k2, rfl⟩
        obtain ⟨y0, y1, y2, n', _, _, t0, t1, t2⟩ := Go.Deep.trod_struct3 Tryd.underlying49 ht
        have e1 : Tryd.prog.cellsOf 9 = 1 := by kernel_rfl
        have e2 : Tryd.prog.cellsOf 3 = 1 := by kernel_rfl
        obtain ⟨s0, z0, _⟩ := DataW.trod_string Tryd.underlying9 t0
        obtain ⟨i1, z1, _, _⟩ := DataW.trod_int Tryd.underlying3 t1
        obtain ⟨s2, z2, _⟩ := DataW.trod_string Tryd.underlying9 t2
        have q0 := hget 0 (by omega)
        have q1 := hget 1 (by omega)
        have q2 := hget 2 (by omega)
        rw [Go.Deep.add_add] at q0 q1 q2
        have u0 : k0 = .string s0 := by simpa [e1, e2] using z0
        have u1 : k1 = .int .i64 i1 := by simpa [e1, e2] using z1
        have u2 : k2 = .string s2 := by simpa [e1, e2] using z2
        subst u0 u1 u2
        exact ⟨⟨s0.data.toList, i1, s2.data.toList⟩, by rw [T_of]; simpa using q0, by simpa using q1, by rw [T_of]; simpa using q2⟩
      obtain ⟨f, hf'⟩ := Go.Deep.choose_lt key
      obtain ⟨hc0, _⟩ := hf' 0 (by omega)
      obtain ⟨b, off, sp⟩ := a
      obtain rfl : sp = none := by simpa [Addr.add] using World.cell?_spot hc0
      have hlen : ((List.range len).map f).length = len := by simp
      refine ⟨(List.range len).map f, ⟨some ⟨b, off, none⟩, cap, by rw [hlen], by rw [hlen]; exact hl, (fun h => nomatch h), fun j hj => ⟨b, off, rfl, block_lt_of_cell hc0, ?_⟩⟩, by rw [hlen]; omega⟩
      rw [hlen] at hj
      obtain ⟨h1, h2, h3⟩ := hf' j hj
      simp only [Addr.add_lit] at h1 h2 h3
      simp only [List.getElem_map, List.getElem_range]
      exact ⟨h1, by rw [Nat.add_assoc]; exact h2, by rw [Nat.add_assoc]; exact h3⟩
theorem open_store {r : Reach} {b0 : Nat} {v : Value} {d : DataW H} {p : List MemPlace} (hv : Value.okWide Tryd.prog W r b0 24 v) (h : DataW.Trod enc Tryd.prog W base spare held 24 v d p) :
    ∃ (c : Int) (v' : Value) (bs : List Blk), v = .agg #[.int .i64 c, v'] ∧ Blks W v' bs ∧ bs.length ≤ 9223372036854775807 := by
  obtain ⟨cs, rfl, hsz⟩ := okWide_struct Tryd.underlying24 hv
  rw [show Tryd.prog.cellsOf 24 = 2 from by kernel_rfl] at hsz
  obtain ⟨c0, c1, rfl⟩ : ∃ c0 c1, cs = #[c0, c1] := by
    obtain ⟨l⟩ := cs
    match l, hsz with
    | [c0, c1], _ => exact ⟨c0, c1, rfl⟩
  obtain ⟨fuel, hf⟩ := h
  obtain ⟨xs, n, _, _, _, hlen, hfs⟩ := DataW.trod_struct Tryd.underlying24 hf
  have e1 : Tryd.prog.cellsOf 3 = 1 := by kernel_rfl
  have e2 : Tryd.prog.cellsOf 22 = 1 := by kernel_rfl
  match xs, hlen with
  | [y0, y1], _ =>
    have t0 := hfs 0 _ rfl
    have t1 := hfs 1 _ rfl
    simp [Value.cells, e1, e2] at t0 t1
    obtain ⟨i0, z0, _, _⟩ := DataW.trod_int Tryd.underlying3 t0
    simp only [List.cons.injEq, and_true] at z0
    subst z0
    obtain ⟨bs, hb, hl⟩ := cell_blks t1
    exact ⟨i0, c1, bs, rfl, hb, by unfold maxLen at hl; omega⟩
theorem open_pair {r : Reach} {b0 : Nat} {v : Value} {d : DataW H} {p : List MemPlace} (hv : Value.okWide Tryd.prog W r b0 25 v) (h : DataW.Trod enc Tryd.prog W base spare held 25 v d p) :
    ∃ m n : Int, v = .agg #[.int .i64 m, .int .i64 n] ∧ (Lit.int .i64 m).wf = true ∧ (Lit.int .i64 n).wf = true := by
  simp only [Value.okWide, Tryd.underlying25] at hv
  obtain ⟨cs, rfl, hsz, _⟩ := hv
  obtain ⟨fuel, hf⟩ := h
  rw [show Tryd.prog.cellsOf 25 = 2 from by kernel_rfl] at hsz
  obtain ⟨c0, c1, rfl⟩ : ∃ c0 c1, cs = #[c0, c1] := by
    obtain ⟨l⟩ := cs
    match l, hsz with
    | [a, b], _ => exact ⟨a, b, rfl⟩
  obtain ⟨xs, m, _, _, _, hn, hel⟩ := DataW.trod_array Tryd.underlying25 hf
  rw [show Tryd.prog.cellsOf 3 = 1 from by kernel_rfl] at hel
  have g0 := hel 0 (by omega)
  have g1 := hel 1 (by omega)
  simp only [Value.cells, List.drop_zero, Nat.mul_one, List.drop_succ_cons, List.take_succ_cons, List.take_zero] at g0 g1
  rw [List.getElem?_eq_getElem (by omega)] at g0 g1
  obtain ⟨a, ha, _, ha2⟩ := DataW.trod_int Tryd.underlying3 g0
  obtain ⟨b, hb, _, hb2⟩ := DataW.trod_int Tryd.underlying3 g1
  simp only [List.cons.injEq, and_true] at ha hb
  subst ha hb
  exact ⟨a, b, rfl, ha2, hb2⟩
/-! ### items -/
structure Itm where
  kd : Int
  dt : List UInt8
deriving DecidableEq
instance : Inhabited Itm := ⟨⟨0, []⟩⟩
/-- A list of items in memory. -/
def Itms (w : World) (v : Value) (l : List Itm) : Prop :=
  ∃ ao cap, v = .slice ao l.length cap ∧ l.length ≤ cap ∧ ∀ j (h : j < l.length), ∃ b off, ao = some ⟨b, off, none⟩ ∧ b < w.heap.size ∧ w.cell? ⟨b, off + j * 2, none⟩ = some (.int .i64 l[j].kd) ∧ w.cell? ⟨b, off + j * 2 + 1, none⟩ = some (.string (T l[j].dt))
theorem Itms.below {w w' : World} {v : Value} {l : List Itm} (h : Itms w v l) (hb : Below w.heap.size w w') : Itms w' v l := by
  obtain ⟨ao, cap, hv, hc, hcell⟩ := h
  refine ⟨ao, cap, hv, hc, fun j h => ?_⟩
  obtain ⟨b, off, ha, hlt, c0, c1⟩ := hcell j h
  refine ⟨b, off, ha, Nat.lt_of_lt_of_le hlt hb.size, ?_, ?_⟩
  · rw [hb.cell (p := ⟨b, off + j * 2, none⟩) hlt]; exact c0
  · rw [hb.cell (p := ⟨b, off + j * 2 + 1, none⟩) hlt]; exact c1
theorem open_items {r : Reach} {b0 : Nat} {v : Value} {d : DataW H} {p : List MemPlace} (hv : Value.okWide Tryd.prog W r b0 43 v) (h : DataW.Trod enc Tryd.prog W base spare held 43 v d p) :
    ∃ l, Itms W v l ∧ l.length ≤ 9223372036854775807 := by
  obtain ⟨a0, l0, c0, rfl⟩ := okWide_slice Tryd.underlying43 hv
  obtain ⟨fuel, hf⟩ := h
  rcases Go.Deep.open_slice Tryd.underlying43 hf with ⟨hcs, _⟩ | ⟨a, len, cap, m, n, D, Pl, hcs, _, hl, hm, hz, _, hcell⟩
  · have : Value.slice a0 l0 c0 = .slice none 0 0 := by simpa [Value.cells] using hcs
    rw [this]
    exact ⟨[], ⟨none, 0, rfl, Nat.le_refl _, fun j hj => by simp at hj⟩, Nat.zero_le _⟩
  · have hvv : Value.slice a0 l0 c0 = .slice (some a) len cap := by simpa [Value.cells] using hcs
    rw [hvv]
    have hlm : len ≤ m := by rw [hz]; split <;> omega
    by_cases h0 : len = 0
    · subst h0
      exact ⟨[], ⟨some a, cap, rfl, hl, fun j hj => by simp at hj⟩, Nat.zero_le _⟩
    · have key : ∀ i, i < len → ∃ b : Itm, W.cell? (a.add (i * 2)) = some (.int .i64 b.kd) ∧ W.cell? (a.add (i * 2 + 1)) = some (.string (T b.dt)) := fun i hi => by
        obtain ⟨cs, hcs', ht⟩ := hcell i (by omega)
        rw [show Tryd.prog.cellsOf 46 = 2 from by kernel_rfl] at hcs'
        obtain ⟨_, hlen, hget⟩ := World.cells?_some hcs'
        obtain ⟨k0, k1, rfl⟩ : ∃ k0 k1, cs = [k0, k1] := by
          match cs, hlen with
          | [k0, k1], _ => exact ⟨k0, k1, rfl⟩
        obtain ⟨xs, n', _, _, _, hlen', hfs⟩ := DataW.trod_struct Tryd.underlying46 ht
        have e1 : Tryd.prog.cellsOf 9 = 1 := by kernel_rfl
        have e2 : Tryd.prog.cellsOf 3 = 1 := by kernel_rfl
        match xs, hlen' with
        | [y0, y1], _ =>
          have t0 := hfs 0 _ rfl
          have t1 := hfs 1 _ rfl
          simp [e1, e2] at t0 t1
          obtain ⟨i0, z0, _, _⟩ := DataW.trod_int Tryd.underlying3 t0
          obtain ⟨s1, z1, _⟩ := DataW.trod_string Tryd.underlying9 t1
          have q0 := hget 0 (by omega)
          have q1 := hget 1 (by omega)
          rw [Go.Deep.add_add] at q0 q1
          simp only [List.cons.injEq, and_true] at z0 z1
          subst z0 z1
          exact ⟨⟨i0, s1.data.toList⟩, by simpa using q0, by rw [T_of]; simpa using q1⟩
      obtain ⟨f, hf'⟩ := Go.Deep.choose_lt key
      obtain ⟨hc0, _⟩ := hf' 0 (by omega)
      obtain ⟨b, off, sp⟩ := a
      obtain rfl : sp = none := by simpa [Addr.add] using World.cell?_spot hc0
      have hlen : ((List.range len).map f).length = len := by simp
      refine ⟨(List.range len).map f, ⟨some ⟨b, off, none⟩, cap, by rw [hlen], by rw [hlen]; exact hl, fun j hj => ⟨b, off, rfl, block_lt_of_cell hc0, ?_⟩⟩, by rw [hlen]; unfold maxLen at hm; omega⟩
      rw [hlen] at hj
      obtain ⟨h1, h2⟩ := hf' j hj
      simp only [Addr.add_lit] at h1 h2
      simp only [List.getElem_map, List.getElem_range]
      exact ⟨h1, by rw [Nat.add_assoc]; exact h2⟩
end
end Go.Proofs.YtpcieookddpkhaaDoor
