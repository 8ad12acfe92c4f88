/- A list of users, a Who and a pair of ints that came in, as the walks want them. Conditions: none beyond the reading itself. -/
import Derived.Test.YtjefmjaommpaaaaUsers
import Derived.ProofKit
import Derived.Deep.Slices
import Derived.Deep.Strs
import Derived.OpenShut
import Derived.SliceStrings
set_option linter.unusedVariables false
set_option linter.unusedSimpArgs false
namespace Go.Proofs.Ytjefmjaommpaaaa
open Go.RowKit Go.ChangeShapes Go.WideShapes Go.ChangeAt
open Go.ChangeMaps (open_string shut_string)
section
variable {H : Type} {enc : TypeId × Value → H} {W : World} {base : Nat} {spare : Nat → Bool} {held : Bool}
theorem addr_of {w : World} {a : Addr} {v : Value} (h : w.cell? a = some v) : a = ⟨a.block, a.off, none⟩ := by
  obtain ⟨b, o, s⟩ := a
  have : s = none := World.cell?_spot h
  subst this; rfl
theorem cell_strs {n : Nat} {V : Value} {x : DataW H × List MemPlace} (h : DataW.trod enc Try.prog W base spare held n 51 [V] = some x) : ∃ ss, Strs W V ss ∧ ss.length ≤ maxLen := by
  rcases open_strings Try.underlying51 Try.underlying9 (by kernel_rfl) h with ⟨hcs, _⟩ | ⟨a, len, cap, ss, hcs, _, hl, hm, hz, _, hcell, _⟩
  · obtain rfl : V = .slice none 0 0 := by simpa using hcs
    exact ⟨[], .inl ⟨rfl, rfl⟩, Nat.zero_le _⟩
  · obtain rfl : V = .slice (some a) len cap := by simpa using hcs
    have hls : len ≤ ss.length := by rw [hz]; split <;> omega
    by_cases h0 : len = 0
    · subst h0
      exact ⟨[], .inr (.inl ⟨a, cap, rfl, rfl⟩), Nat.zero_le _⟩
    · have hc0 := hcell 0 (by omega)
      have ha := addr_of hc0
      obtain ⟨b, off, sp⟩ := a
      obtain rfl : sp = none := by simpa [Addr.add] using World.cell?_spot hc0
      have hlen : (ss.take len).length = len := by rw [List.length_take]; omega
      refine ⟨ss.take len, .inr (.inr ⟨b, off, cap, by rw [hlen], block_lt_of_cell hc0, by rw [hlen]; exact hl, fun j hj => ?_⟩), by rw [hlen]; omega⟩
      rw [hlen] at hj
      have := hcell j (by omega)
      rw [Addr.add_lit] at this
      rw [this, List.getElem_take, List.getD_eq_getElem?_getD, List.getElem?_eq_getElem (by omega)]
      rfl
instance : Inhabited Usr := ⟨⟨ByteArray.empty, ByteArray.empty, []⟩⟩
theorem open_usrs {r : Reach} {b0 : Nat} {v : Value} {d : DataW H} {p : List MemPlace} (hv : Value.okWide Try.prog W r b0 32 v) (h : DataW.Trod enc Try.prog W base spare held 32 v d p) :
    ∃ us, Usrs W v us ∧ us.length ≤ 9223372036854775807 := by
  obtain ⟨a0, l0, c0, rfl⟩ := okWide_slice Try.underlying32 hv
  obtain ⟨fuel, hf⟩ := h
  rcases Go.Deep.open_slice Try.underlying32 hf with ⟨hcs, _⟩ | ⟨a, len, cap, m, n, D, Pl, hcs, _, hl, hm, hz, _, hcell⟩
  · have : Value.slice a0 l0 c0 = .slice none 0 0 := by simpa [Value.cells] using hcs
    rw [this]
    exact ⟨[], .inl ⟨rfl, rfl⟩, Nat.zero_le _⟩
  · have hvv : Value.slice a0 l0 c0 = .slice (some a) len cap := by simpa [Value.cells] using hcs
    rw [hvv]
    have hlm : len ≤ m := by rw [hz]; split <;> omega
    by_cases h0 : len = 0
    · subst h0
      exact ⟨[], .inr (.inl ⟨a, cap, rfl, rfl⟩), Nat.zero_le _⟩
    · have key : ∀ i, i < len → ∃ u : Usr, W.cell? (a.add (i * 3)) = some (.string u.name) ∧ W.cell? (a.add (i * 3 + 1)) = some (.string u.leader) ∧ ∃ mv, W.cell? (a.add (i * 3 + 2)) = some mv ∧ Strs W mv u.mems := fun i hi => by
        obtain ⟨cs, hcs', ht⟩ := hcell i (by omega)
        rw [show Try.prog.cellsOf 53 = 3 from by kernel_rfl] at hcs'
        obtain ⟨_, hlen, hget⟩ := World.cells?_some hcs'
        obtain ⟨k0, k1, k2, rfl⟩ : ∃ k0 k1 k2, cs = [k0, k1, k2] := by
          match cs, hlen with
          | [k0, k1, k2], _ => exact ⟨k0, k1, k2, rfl⟩
        obtain ⟨y0, y1, y2, n', _, _, t0, t1, t2⟩ := Go.Deep.trod_struct3 Try.underlying53 ht
        obtain ⟨s0, e0, _⟩ := DataW.trod_string Try.underlying9 t0
        obtain ⟨s1, e1, _⟩ := DataW.trod_string Try.underlying9 t1
        have q0 := hget 0 (by omega)
        have q1 := hget 1 (by omega)
        have q2 := hget 2 (by omega)
        rw [Go.Deep.add_add] at q0 q1 q2
        have z0 : k0 = .string s0 := by simpa [show Try.prog.cellsOf 9 = 1 from by kernel_rfl] using e0
        have z1 : k1 = .string s1 := by simpa [show Try.prog.cellsOf 9 = 1 from by kernel_rfl] using e1
        have t2' : DataW.trod enc Try.prog W base spare held n' 51 [k2] = some y2 := by simpa [show Try.prog.cellsOf 51 = 1 from by kernel_rfl] using t2
        obtain ⟨ss, hss, _⟩ := cell_strs t2'
        subst z0 z1
        exact ⟨⟨s0, s1, ss⟩, by simpa using q0, by simpa using q1, k2, by simpa using q2, hss⟩
      obtain ⟨f, hf'⟩ := Go.Deep.choose_lt key
      obtain ⟨hc0, _⟩ := hf' 0 (by omega)
      obtain ⟨b, off, sp⟩ := a
      obtain rfl : sp = none := by simpa [Addr.add] using World.cell?_spot hc0
      have hlen : ((List.range len).map f).length = len := by simp
      refine ⟨(List.range len).map f, .inr (.inr ⟨b, off, cap, by rw [hlen], block_lt_of_cell hc0, by rw [hlen]; exact hl, fun j hj => ?_⟩), by rw [hlen]; unfold maxLen at hm; omega⟩
      rw [hlen] at hj
      obtain ⟨h1, h2, mv, h3, h4⟩ := hf' j hj
      simp only [Addr.add_lit] at h1 h2 h3
      simp only [List.getElem_map, List.getElem_range]
      exact ⟨h1, by rw [Nat.add_assoc]; exact h2, mv, by rw [Nat.add_assoc]; exact h3, h4⟩
theorem open_who {r : Reach} {b0 : Nat} {v : Value} {d : DataW H} {p : List MemPlace} (hv : Value.okWide Try.prog W r b0 34 v) (h : DataW.Trod enc Try.prog W base spare held 34 v d p) :
    ∃ (a b c : ByteArray) (m n : Int), v = .agg #[.string a, .string b, .string c, .int .i64 m, .int .i64 n] ∧ m ≤ 9223372036854775807 := by
  obtain ⟨cs, rfl, hsz⟩ := okWide_struct Try.underlying34 hv
  rw [show Try.prog.cellsOf 34 = 5 from by kernel_rfl] at hsz
  obtain ⟨c0, c1, c2, c3, c4, rfl⟩ : ∃ c0 c1 c2 c3 c4, cs = #[c0, c1, c2, c3, c4] := by
    obtain ⟨l⟩ := cs
    match l, hsz with
    | [c0, c1, c2, c3, c4], _ => exact ⟨c0, c1, c2, c3, c4, rfl⟩
  obtain ⟨fuel, hf⟩ := h
  obtain ⟨xs, n, _, _, _, hlen, hfs⟩ := DataW.trod_struct Try.underlying34 hf
  have e1 : Try.prog.cellsOf 9 = 1 := by kernel_rfl
  have e2 : Try.prog.cellsOf 3 = 1 := by kernel_rfl
  match xs, hlen with
  | [y0, y1, y2, y3, y4], _ =>
    have t0 := hfs 0 _ rfl
    have t1 := hfs 1 _ rfl
    have t2 := hfs 2 _ rfl
    have t3 := hfs 3 _ rfl
    have t4 := hfs 4 _ rfl
    simp [Value.cells, e1, e2] at t0 t1 t2 t3 t4
    obtain ⟨s0, z0, _⟩ := DataW.trod_string Try.underlying9 t0
    obtain ⟨s1, z1, _⟩ := DataW.trod_string Try.underlying9 t1
    obtain ⟨s2, z2, _⟩ := DataW.trod_string Try.underlying9 t2
    obtain ⟨i3, z3, _, w3⟩ := DataW.trod_int Try.underlying3 t3
    obtain ⟨i4, z4, _, _⟩ := DataW.trod_int Try.underlying3 t4
    simp only [List.cons.injEq, and_true] at z0 z1 z2 z3 z4
    subst z0 z1 z2 z3 z4
    exact ⟨s0, s1, s2, i3, i4, rfl, (i64s _ w3).2⟩
theorem open_i2 {r : Reach} {b0 : Nat} {v : Value} {d : DataW H} {p : List MemPlace} (hv : Value.okWide Try.prog W r b0 38 v) (h : DataW.Trod enc Try.prog W base spare held 38 v d p) :
    ∃ m n : Int, v = .agg #[.int .i64 m, .int .i64 n] ∧ (Lit.int .i64 m).wf = true ∧ (Lit.int .i64 n).wf = true := by
  simp only [Value.okWide, Try.underlying38] at hv
  obtain ⟨cs, rfl, hsz, _⟩ := hv
  obtain ⟨fuel, hf⟩ := h
  rw [show Try.prog.cellsOf 38 = 2 from by kernel_rfl] at hsz
  obtain ⟨c0, c1, rfl⟩ : ∃ c0 c1, cs = #[c0, c1] := by
    obtain ⟨l⟩ := cs
    match l, hsz with
    | [a, b], _ => exact ⟨a, b, rfl⟩
  obtain ⟨xs, m, _, _, _, hn, hel⟩ := DataW.trod_array Try.underlying38 hf
  rw [show Try.prog.cellsOf 3 = 1 from by kernel_rfl] at hel
  have g0 := hel 0 (by omega)
  have g1 := hel 1 (by omega)
  simp only [Value.cells, List.drop_zero, Nat.mul_one, List.drop_succ_cons, List.take_succ_cons, List.take_zero] at g0 g1
  rw [List.getElem?_eq_getElem (by omega)] at g0 g1
  obtain ⟨a, ha, _, ha2⟩ := DataW.trod_int Try.underlying3 g0
  obtain ⟨b, hb, _, hb2⟩ := DataW.trod_int Try.underlying3 g1
  simp only [List.cons.injEq, and_true] at ha hb
  subst ha hb
  exact ⟨a, b, rfl, ha2, hb2⟩
end
end Go.Proofs.Ytjefmjaommpaaaa
