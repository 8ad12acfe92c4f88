/- The arguments as they came in. Conditions: those that each theorem names. -/
import Derived.Test.YtfibaopngpfmjaaGreatDoorRzH2
import Derived.Test.YtfibaopngpfmjaaGreatDoorRows
import Derived.ProofKit
import Derived.Deep.Slices
import Derived.Deep.Strs
import Derived.OpenShut
import Derived.SliceStrings
import Derived.SizedLaws
set_option linter.unusedVariables false
set_option linter.unusedSimpArgs false
set_option maxRecDepth 20000
set_option maxHeartbeats 4000000
namespace Go.Proofs.YtfibaopngpfmjaaGreatDoor
open Go.RowKit Go.ChangeShapes Go.WideShapes Go.ChangeAt
open Go.ChangeMaps (open_string shut_string)
section
variable {H : Type}
/-- No string and no slice of the datum is longer than the form's reach. -/
def Rch (t : TypeId) (d : DataW H) : Prop := ∀ n ∈ d.weights Tryz.prog t, n ≤ 140737488351232
theorem weightsAll_mem {P : Program} {e : TypeId} : ∀ {l : List (DataW H)} {d : DataW H}, d ∈ l → ∀ n ∈ d.weights P e, n ∈ DataW.weightsAll P e l
 | d' :: r, d, hd, n, hn => by
  simp only [DataW.weightsAll, List.mem_append]
  rcases List.mem_cons.1 hd with rfl | h
  ·exact Or.inl hn
  ·exact Or.inr (weightsAll_mem h n hn)
theorem rch_struct {t : TypeId} {fs : Array Field} {l : List (DataW H)} (hu : Tryz.prog.underlying t = some (.struct fs)) (h : Rch t (.agg l)) (i : Nat) {f : Field} {d : DataW H} (hf : fs[i]? = some f) (hd : l[i]? = some d) : Rch f.type d := fun n hn => by
 refine h n ?_
 simp only [DataW.weights, hu]
 exact DataW.weights_mem_each (by simp [hf]) hd n hn
theorem rch_slice {t e : TypeId} {a b : List (DataW H)} (hu : Tryz.prog.underlying t = some (.slice e)) (h : Rch t (.slice a b)) : (a.length + b.length) * Tryz.prog.bytesOf e ≤ 140737488351232 ∧ ∀ d ∈ a, Rch e d := by
 refine ⟨h _ (by simp [DataW.weights, hu]), fun d hd n hn => h n ?_⟩
 simp only [DataW.weights, hu, List.mem_cons, List.mem_append]
 exact Or.inr (Or.inl (weightsAll_mem hd n hn))
theorem rch_str {t : TypeId} {b : List UInt8} (h : Rch t (DataW.lit (H := H) (.string b))) : b.length ≤ 140737488351232 := h _ (by simp [DataW.weights])
theorem rch_each {ts : List TypeId} {ds : List (DataW H)} (h : (DataW.weightsEach Tryz.prog ts ds).all (· ≤ reachBytes) = true) {j : Nat} {t : TypeId} {d : DataW H} (ht : ts[j]? = some t) (hd : ds[j]? = some d) : Rch t d := fun n hn => of_decide_eq_true (List.all_eq_true.1 h _ (DataW.weights_mem_each ht hd n hn))
end
section
variable {H : Type} {enc : TypeId × Value → H} {W : World} {base : Nat} {spare : Nat → Bool} {held : Bool}
theorem addr_flat {w : World} {a : Addr} {v : Value} (h : w.cell? a = some v) : a = ⟨a.block, a.off, none⟩ := by
 obtain ⟨b, o, s⟩ := a
 have : s = none := World.cell?_spot h
 subst this; rfl
theorem uncons {n : Nat} {l : List Value} (h : l.length = n + 1) : ∃ a r, l = a :: r ∧ r.length = n := by
 cases l with
 | nil => cases h
 | cons a r => exact ⟨a, r, rfl, by simpa using h⟩
theorem cell_txs {n : Nat} {V : Value} {x : DataW H × List MemPlace} (h : DataW.trod enc Tryz.prog W base spare held n 32 [V] = some x) (hr : Rch 32 x.1) : ∃ ss, Txs W V ss ∧ ss.length ≤ 8796093021952 ∧ ∀ s ∈ ss, s.length ≤ 140737488351232 := by
 rcases open_strings Tryz.underlying32 Tryz.underlying9 (by kernel_rfl) h with ⟨hcs, _⟩ | ⟨a, len, cap, ss, hcs, _, hl, hm, hz, hx, hcell, hsm⟩
 ·obtain rfl : V = .slice none 0 0 := by simpa using hcs
  exact ⟨[], Txs.nil W, Nat.zero_le _, fun s hs => by cases hs⟩
 ·obtain rfl : V = .slice (some a) len cap := by simpa using hcs
  have hls : len ≤ ss.length := by rw [hz]; split <;> omega
  have hlen : ((ss.take len).map fun s => s.data.toList).length = len := by rw [List.length_map, List.length_take]; omega
  rw [hx] at hr
  obtain ⟨hb1, hb2⟩ := rch_slice Tryz.underlying32 hr
  rw [show Tryz.prog.bytesOf 9 = 16 from by kernel_rfl] at hb1
  have hbk : len ≤ 8796093021952 := by
   have h2 : (strs (H := H) (ss.take len)).length = len := by simp only [strs, List.length_map, List.length_take]; omega
   omega
  refine ⟨(ss.take len).map fun s => s.data.toList, ⟨some a, cap, by rw [hlen], by rw [hlen]; exact hl, (fun e => nomatch e), fun j hj => ?_⟩, by rw [hlen]; exact hbk, fun s hs => ?_⟩
  ·rw [hlen] at hj
   have hc0 := hcell 0 (by omega)
   have hcj := hcell j (by omega)
   obtain ⟨b, off, sp⟩ := a
   obtain rfl : sp = none := by simpa [Addr.add] using World.cell?_spot hc0
   refine ⟨b, off, rfl, block_lt_of_cell hc0, ?_⟩
   rw [Addr.add_lit] at hcj
   rw [hcj, List.getElem_map, List.getElem_take, List.getD_eq_getElem?_getD, List.getElem?_eq_getElem (by omega)]
   rw [Option.getD_some, T_of]
  ·obtain ⟨t, ht, rfl⟩ := List.mem_map.1 hs
   exact rch_str (hb2 (.lit (.string t.data.toList)) (List.mem_map.2 ⟨t, ht, rfl⟩))
theorem cell_qid {n : Nat} {k0 k1 k2 : Value} {x : DataW H × List MemPlace} (h : DataW.trod enc Tryz.prog W base spare held n 44 [k0, k1, k2] = some x) : ∃ a b c : Int, k0 = .int .i64 a ∧ k1 = .int .i64 b ∧ k2 = .int .i64 c := by
 obtain ⟨y0, y1, y2, n', _, _, t0, t1, t2⟩ := Go.Deep.trod_struct3 Tryz.underlying44 h
 have e1 : Tryz.prog.cellsOf 3 = 1 := by kernel_rfl
 obtain ⟨i0, z0, _⟩ := DataW.trod_int Tryz.underlying3 t0
 obtain ⟨i1, z1, _⟩ := DataW.trod_int Tryz.underlying3 t1
 obtain ⟨i2, z2, _⟩ := DataW.trod_int Tryz.underlying3 t2
 exact ⟨i0, i1, i2, by simpa [e1] using z0, by simpa [e1] using z1, by simpa [e1] using z2⟩
theorem cell_qds {n : Nat} {V : Value} {x : DataW H × List MemPlace} (h : DataW.trod enc Tryz.prog W base spare held n 42 [V] = some x) (hr : Rch 42 x.1) : ∃ qs, Qds W V qs ∧ qs.length ≤ 5864062014634 := by
 rcases Go.Deep.open_slice Tryz.underlying42 h with ⟨hcs, _⟩ | ⟨a, len, cap, m, n, D, Pl, hcs, _, hl, hm, hz, hx, hcell⟩
 ·obtain rfl : V = .slice none 0 0 := by simpa using hcs
  exact ⟨[], Qds.nil W, Nat.zero_le _⟩
 ·obtain rfl : V = .slice (some a) len cap := by simpa using hcs
  have hlm : len ≤ m := by rw [hz]; split <;> omega
  rw [hx] at hr
  obtain ⟨hb1, _⟩ := rch_slice Tryz.underlying42 hr
  rw [show Tryz.prog.bytesOf 44 = 24 from by kernel_rfl, List.length_map, List.length_range] at hb1
  have hbk : len ≤ 5864062014634 := by omega
  have key : ∀ i, i < len → ∃ q : Int × Int × Int, W.cell? (a.add (i * 3)) = some (.int .i64 q.1) ∧ W.cell? (a.add (i * 3 + 1)) = some (.int .i64 q.2.1) ∧ W.cell? (a.add (i * 3 + 2)) = some (.int .i64 q.2.2) := fun i hi => by
   obtain ⟨cs, hcs', ht⟩ := hcell i (by omega)
   rw [show Tryz.prog.cellsOf 44 = 3 from by kernel_rfl] at hcs'
   obtain ⟨_, hlen, hget⟩ := World.cells?_some hcs'
   obtain ⟨k0, k1, k2, rfl⟩ : ∃ k0 k1 k2, cs = [k0, k1, k2] := by
    match cs, hlen with
    | [k0, k1, k2], _ => exact ⟨k0, k1, k2, rfl⟩
   have q0 := hget 0 (by omega)
   have q1 := hget 1 (by omega)
   have q2 := hget 2 (by omega)
   rw [Go.Deep.add_add] at q0 q1 q2
   obtain ⟨a0, b0, c0, rfl, rfl, rfl⟩ := cell_qid ht
   exact ⟨(a0, b0, c0), by simpa using q0, by simpa using q1, by simpa using q2⟩
  obtain ⟨f, hf'⟩ : ∃ f : Nat → Int × Int × Int, ∀ i, i < len → W.cell? (a.add (i * 3)) = some (.int .i64 (f i).1) ∧ W.cell? (a.add (i * 3 + 1)) = some (.int .i64 (f i).2.1) ∧ W.cell? (a.add (i * 3 + 2)) = some (.int .i64 (f i).2.2) := by
   by_cases h0 : len = 0
   ·exact ⟨fun _ => (0, 0, 0), fun i hi => by omega⟩
   ·exact Go.Deep.choose_lt key
  have hlen : ((List.range len).map f).length = len := by simp
  refine ⟨(List.range len).map f, ⟨some a, cap, by rw [hlen], by rw [hlen]; exact hl, (fun e => nomatch e), fun j hj => ?_⟩, by rw [hlen]; exact hbk⟩
  rw [hlen] at hj
  obtain ⟨h1, h2, h3⟩ := hf' j hj
  obtain ⟨h0, _, _⟩ := hf' 0 (by omega)
  obtain ⟨b, off, sp⟩ := a
  obtain rfl : sp = none := by simpa [Addr.add] using World.cell?_spot h0
  refine ⟨b, off, rfl, block_lt_of_cell h0, ?_⟩
  simp only [Addr.add_lit] at h1 h2 h3
  simp only [List.getElem_map, List.getElem_range]
  exact ⟨h1, by rw [Nat.add_assoc]; exact h2, by rw [Nat.add_assoc]; exact h3⟩
theorem cell_its {n : Nat} {V : Value} {x : DataW H × List MemPlace} (h : DataW.trod enc Tryz.prog W base spare held n 38 [V] = some x) : ∃ l, Its W V l := by
 rcases Go.Deep.open_slice1 Tryz.underlying38 (by kernel_rfl) h with ⟨hcs, _⟩ | ⟨a, len, cap, m, n, Vf, D, Pl, hcs, _, hl, hm, hz, hx, hcell⟩
 ·obtain rfl : V = .slice none 0 0 := by simpa using hcs
  exact ⟨[], ⟨none, 0, rfl, Nat.le_refl _, fun _ => rfl, fun j hj => absurd hj (by simp)⟩⟩
 ·obtain rfl : V = .slice (some a) len cap := by simpa using hcs
  have hlm : len ≤ m := by rw [hz]; split <;> omega
  obtain ⟨f, hf'⟩ : ∃ f : Nat → Int, ∀ i, i < len → W.cell? (a.add i) = some (.int .i64 (f i)) := by
   by_cases h0 : len = 0
   ·exact ⟨fun _ => 0, fun i hi => by omega⟩
   ·refine Go.Deep.choose_lt (α := Int) (p := fun i v => W.cell? (a.add i) = some (.int .i64 v)) fun i hi => ?_
    obtain ⟨h1, h2⟩ := hcell i (by omega)
    obtain ⟨k, hk, _⟩ := DataW.trod_int Tryz.underlying3 h2
    exact ⟨k, by rw [h1]; simpa using hk⟩
  have hlen : ((List.range len).map f).length = len := by simp
  refine ⟨(List.range len).map f, ⟨some a, cap, by rw [hlen], by rw [hlen]; exact hl, (fun e => nomatch e), fun j hj => ?_⟩⟩
  rw [hlen] at hj
  have h1 := hf' j hj
  have h0 := hf' 0 (by omega)
  obtain ⟨b, off, sp⟩ := a
  obtain rfl : sp = none := by simpa [Addr.add] using World.cell?_spot h0
  refine ⟨b, off, rfl, block_lt_of_cell h0, ?_⟩
  simp only [Addr.add_lit] at h1
  simp only [List.getElem_map, List.getElem_range]
  exact h1
theorem cell_dir {n : Nat} {c0 c1 c2 c3 c4 c5 c6 c7 c8 c9 c10 c11 c12 : Value} {x : DataW H × List MemPlace} (h : DataW.trod enc Tryz.prog W base spare held n 46 [c0, c1, c2, c3, c4, c5, c6, c7, c8, c9, c10, c11, c12] = some x) (hr : Rch 46 x.1) :
  ∃ (a b c d f g h i j : Int) (p q r t : ByteArray), c0 = .int .i64 a ∧ c1 = .int .i64 b ∧ c2 = .int .i64 c ∧ c3 = .int .i64 d ∧ c4 = .int .i64 f ∧ c5 = .int .i64 g ∧ c6 = .int .i64 h ∧ c7 = .int .i64 i ∧ c8 = .int .i64 j ∧ c9 = .string p ∧ c10 = .string q ∧ c11 = .string r ∧ c12 = .string t ∧ p.size ≤ 140737488351232 ∧ q.size ≤ 140737488351232 ∧ r.size ≤ 140737488351232 ∧ t.size ≤ 140737488351232 := by
 obtain ⟨xs, n', _, hx, _, hlen, hfs⟩ := DataW.trod_struct Tryz.underlying46 h
 have e1 : Tryz.prog.cellsOf 3 = 1 := by kernel_rfl
 have e2 : Tryz.prog.cellsOf 9 = 1 := by kernel_rfl
 have e5 : Tryz.prog.cellsOf 44 = 3 := by kernel_rfl
 match xs, hlen with
 | [y0, y1, y2, y3, y4, y5, y6, y7, y8, y9, y10], _ =>
  have t0 := hfs 0 _ rfl
  simp [Value.cells, e1, e2, e5] at t0
  obtain ⟨i0, z0, _, _⟩ := DataW.trod_int Tryz.underlying3 t0
  obtain rfl : c0 = .int .i64 i0 := by simpa using z0
  clear z0 t0
  have t1 := hfs 1 _ rfl
  simp [Value.cells, e1, e2, e5] at t1
  obtain ⟨i1, z1, _, _⟩ := DataW.trod_int Tryz.underlying3 t1
  obtain rfl : c1 = .int .i64 i1 := by simpa using z1
  clear z1 t1
  have t2 := hfs 2 _ rfl
  simp [Value.cells, e1, e2, e5] at t2
  obtain ⟨qa, qb, qc, rfl, rfl, rfl⟩ := cell_qid t2
  have t3 := hfs 3 _ rfl
  simp [Value.cells, e1, e2, e5] at t3
  obtain ⟨i3, z3, _, _⟩ := DataW.trod_int Tryz.underlying3 t3
  obtain rfl : c5 = .int .i64 i3 := by simpa using z3
  clear z3 t3
  have t4 := hfs 4 _ rfl
  simp [Value.cells, e1, e2, e5] at t4
  obtain ⟨i4, z4, _, _⟩ := DataW.trod_int Tryz.underlying3 t4
  obtain rfl : c6 = .int .i64 i4 := by simpa using z4
  clear z4 t4
  have t5 := hfs 5 _ rfl
  simp [Value.cells, e1, e2, e5] at t5
  obtain ⟨i5, z5, _, _⟩ := DataW.trod_int Tryz.underlying3 t5
  obtain rfl : c7 = .int .i64 i5 := by simpa using z5
  clear z5 t5
  have t6 := hfs 6 _ rfl
  simp [Value.cells, e1, e2, e5] at t6
  obtain ⟨i6, z6, _, _⟩ := DataW.trod_int Tryz.underlying3 t6
  obtain rfl : c8 = .int .i64 i6 := by simpa using z6
  clear z6 t6
  have t7 := hfs 7 _ rfl
  simp [Value.cells, e1, e2, e5] at t7
  obtain ⟨s7, z7, x7, l7⟩ := DataW.trod_string Tryz.underlying9 t7
  obtain rfl : c9 = .string s7 := by simpa using z7
  clear z7 t7
  have t8 := hfs 8 _ rfl
  simp [Value.cells, e1, e2, e5] at t8
  obtain ⟨s8, z8, x8, l8⟩ := DataW.trod_string Tryz.underlying9 t8
  obtain rfl : c10 = .string s8 := by simpa using z8
  clear z8 t8
  have t9 := hfs 9 _ rfl
  simp [Value.cells, e1, e2, e5] at t9
  obtain ⟨s9, z9, x9, l9⟩ := DataW.trod_string Tryz.underlying9 t9
  obtain rfl : c11 = .string s9 := by simpa using z9
  clear z9 t9
  have t10 := hfs 10 _ rfl
  simp [Value.cells, e1, e2, e5] at t10
  obtain ⟨s10, z10, x10, l10⟩ := DataW.trod_string Tryz.underlying9 t10
  obtain rfl : c12 = .string s10 := by simpa using z10
  clear z10 t10
  rw [hx] at hr
  have b7 := rch_struct Tryz.underlying46 hr 7 rfl rfl
  rw [x7] at b7
  have b7 : s7.size ≤ 140737488351232 := rch_str b7
  have b8 := rch_struct Tryz.underlying46 hr 8 rfl rfl
  rw [x8] at b8
  have b8 : s8.size ≤ 140737488351232 := rch_str b8
  have b9 := rch_struct Tryz.underlying46 hr 9 rfl rfl
  rw [x9] at b9
  have b9 : s9.size ≤ 140737488351232 := rch_str b9
  have b10 := rch_struct Tryz.underlying46 hr 10 rfl rfl
  rw [x10] at b10
  have b10 : s10.size ≤ 140737488351232 := rch_str b10
  exact ⟨i0, i1, qa, qb, qc, i3, i4, i5, i6, s7, s8, s9, s10, rfl, rfl, rfl, rfl, rfl, rfl, rfl, rfl, rfl, rfl, rfl, rfl, rfl, by omega, by omega, by omega, by omega⟩
theorem cell_msg {n : Nat} {cs : List Value} {x : DataW H × List MemPlace} (h : DataW.trod enc Tryz.prog W base spare held n 48 cs = some x) (hr : Rch 48 x.1) :
  ∃ m ns qs, cs = m.cs ∧ MgIn W m ns qs ∧ (ns.length ≤ 8796093021952 ∧ qs.length ≤ 5864062014634) ∧ m.sumA ≤ 1000000000000000000 ∧ m.sumB ≤ 1000000000000000000 := by
 obtain ⟨xs, n', _, hx, hcl, hlen, hfs⟩ := DataW.trod_struct Tryz.underlying48 h
 rw [show Tryz.prog.cellsOf 48 = 39 from by kernel_rfl] at hcl
 have e1 : Tryz.prog.cellsOf 3 = 1 := by kernel_rfl
 have e2 : Tryz.prog.cellsOf 9 = 1 := by kernel_rfl
 have e3 : Tryz.prog.cellsOf 32 = 1 := by kernel_rfl
 have e4 : Tryz.prog.cellsOf 42 = 1 := by kernel_rfl
 have e5 : Tryz.prog.cellsOf 44 = 3 := by kernel_rfl
 have e6 : Tryz.prog.cellsOf 46 = 13 := by kernel_rfl
 have e7 : Tryz.prog.cellsOf 24 = 1 := by kernel_rfl
 obtain ⟨c0, r0, rfl, g0⟩ := uncons hcl
 obtain ⟨c1, r1, rfl, g1⟩ := uncons g0
 obtain ⟨c2, r2, rfl, g2⟩ := uncons g1
 obtain ⟨c3, r3, rfl, g3⟩ := uncons g2
 obtain ⟨c4, r4, rfl, g4⟩ := uncons g3
 obtain ⟨c5, r5, rfl, g5⟩ := uncons g4
 obtain ⟨c6, r6, rfl, g6⟩ := uncons g5
 obtain ⟨c7, r7, rfl, g7⟩ := uncons g6
 obtain ⟨c8, r8, rfl, g8⟩ := uncons g7
 obtain ⟨c9, r9, rfl, g9⟩ := uncons g8
 obtain ⟨c10, r10, rfl, g10⟩ := uncons g9
 obtain ⟨c11, r11, rfl, g11⟩ := uncons g10
 obtain ⟨c12, r12, rfl, g12⟩ := uncons g11
 obtain ⟨c13, r13, rfl, g13⟩ := uncons g12
 obtain ⟨c14, r14, rfl, g14⟩ := uncons g13
 obtain ⟨c15, r15, rfl, g15⟩ := uncons g14
 obtain ⟨c16, r16, rfl, g16⟩ := uncons g15
 obtain ⟨c17, r17, rfl, g17⟩ := uncons g16
 obtain ⟨c18, r18, rfl, g18⟩ := uncons g17
 obtain ⟨c19, r19, rfl, g19⟩ := uncons g18
 obtain ⟨c20, r20, rfl, g20⟩ := uncons g19
 obtain ⟨c21, r21, rfl, g21⟩ := uncons g20
 obtain ⟨c22, r22, rfl, g22⟩ := uncons g21
 obtain ⟨c23, r23, rfl, g23⟩ := uncons g22
 obtain ⟨c24, r24, rfl, g24⟩ := uncons g23
 obtain ⟨c25, r25, rfl, g25⟩ := uncons g24
 obtain ⟨c26, r26, rfl, g26⟩ := uncons g25
 obtain ⟨c27, r27, rfl, g27⟩ := uncons g26
 obtain ⟨c28, r28, rfl, g28⟩ := uncons g27
 obtain ⟨c29, r29, rfl, g29⟩ := uncons g28
 obtain ⟨c30, r30, rfl, g30⟩ := uncons g29
 obtain ⟨c31, r31, rfl, g31⟩ := uncons g30
 obtain ⟨c32, r32, rfl, g32⟩ := uncons g31
 obtain ⟨c33, r33, rfl, g33⟩ := uncons g32
 obtain ⟨c34, r34, rfl, g34⟩ := uncons g33
 obtain ⟨c35, r35, rfl, g35⟩ := uncons g34
 obtain ⟨c36, r36, rfl, g36⟩ := uncons g35
 obtain ⟨c37, r37, rfl, g37⟩ := uncons g36
 obtain ⟨c38, r38, rfl, g38⟩ := uncons g37
 obtain rfl := List.eq_nil_of_length_eq_zero g38
 match xs, hlen with
 | [y0, y1, y2, y3, y4, y5, y6, y7, y8, y9, y10, y11, y12, y13, y14, y15, y16, y17, y18, y19, y20, y21, y22, y23, y24], _ =>
  rw [hx] at hr
  have t0 := hfs 0 _ rfl
  simp [Value.cells, e1, e2, e3, e4, e5, e6, e7] at t0
  obtain ⟨i0, z0, _, _⟩ := DataW.trod_int Tryz.underlying3 t0
  obtain rfl : c0 = .int .i64 i0 := by simpa using z0
  clear z0 t0
  have t1 := hfs 1 _ rfl
  simp [Value.cells, e1, e2, e3, e4, e5, e6, e7] at t1
  obtain ⟨i1, z1, _, _⟩ := DataW.trod_int Tryz.underlying3 t1
  obtain rfl : c1 = .int .i64 i1 := by simpa using z1
  clear z1 t1
  have t2 := hfs 2 _ rfl
  simp [Value.cells, e1, e2, e3, e4, e5, e6, e7] at t2
  obtain ⟨i2, z2, _, _⟩ := DataW.trod_int Tryz.underlying3 t2
  obtain rfl : c2 = .int .i64 i2 := by simpa using z2
  clear z2 t2
  have t3 := hfs 3 _ rfl
  simp [Value.cells, e1, e2, e3, e4, e5, e6, e7] at t3
  obtain ⟨i3, z3, _, _⟩ := DataW.trod_int Tryz.underlying3 t3
  obtain rfl : c3 = .int .i64 i3 := by simpa using z3
  clear z3 t3
  have t4 := hfs 4 _ rfl
  simp [Value.cells, e1, e2, e3, e4, e5, e6, e7] at t4
  obtain ⟨i4, z4, _, _⟩ := DataW.trod_int Tryz.underlying3 t4
  obtain rfl : c4 = .int .i64 i4 := by simpa using z4
  clear z4 t4
  have t5 := hfs 5 _ rfl
  simp [Value.cells, e1, e2, e3, e4, e5, e6, e7] at t5
  obtain ⟨i5, z5, _, _⟩ := DataW.trod_int Tryz.underlying3 t5
  obtain rfl : c5 = .int .i64 i5 := by simpa using z5
  clear z5 t5
  have t6 := hfs 6 _ rfl
  simp [Value.cells, e1, e2, e3, e4, e5, e6, e7] at t6
  obtain ⟨i6, z6, _, _⟩ := DataW.trod_int Tryz.underlying3 t6
  obtain rfl : c6 = .int .i64 i6 := by simpa using z6
  clear z6 t6
  have t7 := hfs 7 _ rfl
  simp [Value.cells, e1, e2, e3, e4, e5, e6, e7] at t7
  obtain ⟨s7, z7, x7, l7⟩ := DataW.trod_string Tryz.underlying9 t7
  obtain rfl : c7 = .string s7 := by simpa using z7
  clear z7 t7
  have t8 := hfs 8 _ rfl
  simp [Value.cells, e1, e2, e3, e4, e5, e6, e7] at t8
  obtain ⟨s8, z8, x8, l8⟩ := DataW.trod_string Tryz.underlying9 t8
  obtain rfl : c8 = .string s8 := by simpa using z8
  clear z8 t8
  have t9 := hfs 9 _ rfl
  simp [Value.cells, e1, e2, e3, e4, e5, e6, e7] at t9
  obtain ⟨s9, z9, x9, l9⟩ := DataW.trod_string Tryz.underlying9 t9
  obtain rfl : c9 = .string s9 := by simpa using z9
  clear z9 t9
  have t10 := hfs 10 _ rfl
  simp [Value.cells, e1, e2, e3, e4, e5, e6, e7] at t10
  obtain ⟨ns, hns, hnb, hnt⟩ := cell_txs t10 (rch_struct Tryz.underlying48 hr 10 rfl rfl)
  have t11 := hfs 11 _ rfl
  simp [Value.cells, e1, e2, e3, e4, e5, e6, e7] at t11
  obtain ⟨qs, hqs, hqb⟩ := cell_qds t11 (rch_struct Tryz.underlying48 hr 11 rfl rfl)
  have t12 := hfs 12 _ rfl
  simp [Value.cells, e1, e2, e3, e4, e5, e6, e7] at t12
  obtain ⟨qa, qb, qc, rfl, rfl, rfl⟩ := cell_qid t12
  have t13 := hfs 13 _ rfl
  simp [Value.cells, e1, e2, e3, e4, e5, e6, e7] at t13
  obtain ⟨i13, z13, _, _⟩ := DataW.trod_int Tryz.underlying3 t13
  obtain rfl : c15 = .int .i64 i13 := by simpa using z13
  clear z13 t13
  have t14 := hfs 14 _ rfl
  simp [Value.cells, e1, e2, e3, e4, e5, e6, e7] at t14
  obtain ⟨i14, z14, _, _⟩ := DataW.trod_int Tryz.underlying3 t14
  obtain rfl : c16 = .int .i64 i14 := by simpa using z14
  clear z14 t14
  have t15 := hfs 15 _ rfl
  simp [Value.cells, e1, e2, e3, e4, e5, e6, e7] at t15
  obtain ⟨i15, z15, _, _⟩ := DataW.trod_int Tryz.underlying3 t15
  obtain rfl : c17 = .int .i64 i15 := by simpa using z15
  clear z15 t15
  have t16 := hfs 16 _ rfl
  simp [Value.cells, e1, e2, e3, e4, e5, e6, e7] at t16
  obtain ⟨s16, z16, x16, l16⟩ := DataW.trod_string Tryz.underlying9 t16
  obtain rfl : c18 = .string s16 := by simpa using z16
  clear z16 t16
  have t17 := hfs 17 _ rfl
  simp [Value.cells, e1, e2, e3, e4, e5, e6, e7] at t17
  obtain ⟨i17, z17, _, _⟩ := DataW.trod_int Tryz.underlying3 t17
  obtain rfl : c19 = .int .i64 i17 := by simpa using z17
  clear z17 t17
  have t18 := hfs 18 _ rfl
  simp [Value.cells, e1, e2, e3, e4, e5, e6, e7] at t18
  obtain ⟨i18, z18, _, _⟩ := DataW.trod_int Tryz.underlying3 t18
  obtain rfl : c20 = .int .i64 i18 := by simpa using z18
  clear z18 t18
  have t19 := hfs 19 _ rfl
  simp [Value.cells, e1, e2, e3, e4, e5, e6, e7] at t19
  obtain ⟨s19, z19, x19, l19⟩ := DataW.trod_string Tryz.underlying9 t19
  obtain rfl : c21 = .string s19 := by simpa using z19
  clear z19 t19
  have t20 := hfs 20 _ rfl
  simp [Value.cells, e1, e2, e3, e4, e5, e6, e7] at t20
  obtain ⟨da, db, dc, dd, de, df, dg, dh, dj, dp, dq, dr, dt, rfl, rfl, rfl, rfl, rfl, rfl, rfl, rfl, rfl, rfl, rfl, rfl, rfl, m1, m2, m3, m4⟩ := cell_dir t20 (rch_struct Tryz.underlying48 hr 20 rfl rfl)
  have t21 := hfs 21 _ rfl
  simp [Value.cells, e1, e2, e3, e4, e5, e6, e7] at t21
  obtain ⟨i21, z21, _, _⟩ := DataW.trod_int Tryz.underlying24 t21
  obtain rfl : c35 = .int .i64 i21 := by simpa using z21
  clear z21 t21
  have t22 := hfs 22 _ rfl
  simp [Value.cells, e1, e2, e3, e4, e5, e6, e7] at t22
  obtain ⟨i22, z22, _, _⟩ := DataW.trod_int Tryz.underlying3 t22
  obtain rfl : c36 = .int .i64 i22 := by simpa using z22
  clear z22 t22
  have t23 := hfs 23 _ rfl
  simp [Value.cells, e1, e2, e3, e4, e5, e6, e7] at t23
  obtain ⟨i23, z23, _, _⟩ := DataW.trod_int Tryz.underlying3 t23
  obtain rfl : c37 = .int .i64 i23 := by simpa using z23
  clear z23 t23
  have t24 := hfs 24 _ rfl
  simp [Value.cells, e1, e2, e3, e4, e5, e6, e7] at t24
  obtain ⟨s24, z24, x24, l24⟩ := DataW.trod_string Tryz.underlying9 t24
  obtain rfl : c38 = .string s24 := by simpa using z24
  clear z24 t24
  have b7 := rch_struct Tryz.underlying48 hr 7 rfl rfl
  rw [x7] at b7
  have b7 : s7.size ≤ 140737488351232 := rch_str b7
  have b8 := rch_struct Tryz.underlying48 hr 8 rfl rfl
  rw [x8] at b8
  have b8 : s8.size ≤ 140737488351232 := rch_str b8
  have b9 := rch_struct Tryz.underlying48 hr 9 rfl rfl
  rw [x9] at b9
  have b9 : s9.size ≤ 140737488351232 := rch_str b9
  have b16 := rch_struct Tryz.underlying48 hr 16 rfl rfl
  rw [x16] at b16
  have b16 : s16.size ≤ 140737488351232 := rch_str b16
  have b19 := rch_struct Tryz.underlying48 hr 19 rfl rfl
  rw [x19] at b19
  have b19 : s19.size ≤ 140737488351232 := rch_str b19
  have b24 := rch_struct Tryz.underlying48 hr 24 rfl rfl
  rw [x24] at b24
  have b24 : s24.size ≤ 140737488351232 := rch_str b24
  have hsz : ∀ s : ByteArray, s.data.toList.length = s.size := fun s => rfl
  refine ⟨⟨i0, i1, i2, i3, i4, i5, i6, s7.data.toList, s8.data.toList, s9.data.toList, c10, c11, qa, qb, qc, i13, i14, i15, s16.data.toList, i17, i18, s19.data.toList, da, db, dc, dd, de, df, dg, dh, dj, dp.data.toList, dq.data.toList, dr.data.toList, dt.data.toList, i21, i22, i23, s24.data.toList⟩, ns, qs, by simp only [Mg.cs, T_of], ⟨hns, hqs, by omega, by omega, fun s hs => by have := hnt s hs; omega, ?_, ?_⟩, ⟨by omega, by omega⟩, ?_, ?_⟩
  ·show s16.data.toList.length ≤ _; rw [hsz]; omega
  ·show dp.data.toList.length ≤ _; rw [hsz]; omega
  ·simp only [Mg.sumA, hsz]; omega
  ·simp only [Mg.sumB, hsz]; omega
theorem cell_calls {n : Nat} {V : Value} {x : DataW H × List MemPlace} (h : DataW.trod enc Tryz.prog W base spare held n 39 [V] = some x) (hr : Rch 39 x.1) : ∃ l, Clls W V l ∧ ∀ c ∈ l, c.ns.length ≤ 8796093021952 ∧ c.qs.length ≤ 5864062014634 := by
 rcases Go.Deep.open_slice Tryz.underlying39 h with ⟨hcs, _⟩ | ⟨a, len, cap, m, n, D, Pl, hcs, _, hl, hm, hz, hx, hcell⟩
 ·obtain rfl : V = .slice none 0 0 := by simpa using hcs
  exact ⟨[], ⟨none, 0, rfl, Nat.le_refl _, fun _ => rfl, fun j hj => absurd hj (by simp)⟩, fun c hc => by cases hc⟩
 ·obtain rfl : V = .slice (some a) len cap := by simpa using hcs
  have hlm : len ≤ m := by rw [hz]; split <;> omega
  rw [hx] at hr
  obtain ⟨_, hb2⟩ := rch_slice Tryz.underlying39 hr
  have key : ∀ i, i < len → ∃ c : Cll, (∀ j u, (c.m.cs ++ [Value.int .i64 c.fl])[j]? = some u → W.cell? (a.add (i * 40 + j)) = some u) ∧ MgIn W c.m c.ns c.qs ∧ c.ns.length ≤ 8796093021952 ∧ c.qs.length ≤ 5864062014634 := fun i hi => by
   obtain ⟨cs, hcs', ht⟩ := hcell i (by omega)
   rw [show Tryz.prog.cellsOf 82 = 40 from by kernel_rfl] at hcs'
   obtain ⟨_, hlen, hget⟩ := World.cells?_some hcs'
   obtain ⟨xs, n', _, hx2, _, hxl, hfs⟩ := DataW.trod_struct Tryz.underlying82 ht
   have e11 : Tryz.prog.cellsOf 48 = 39 := by kernel_rfl
   have e1 : Tryz.prog.cellsOf 3 = 1 := by kernel_rfl
   match xs, hxl with
   | [y0, y1], _ =>
    have t0 : DataW.trod enc Tryz.prog W base spare held n' 48 ((cs.drop 0).take (Tryz.prog.cellsOf 48)) = some y0 := hfs 0 _ rfl
    have t1 : DataW.trod enc Tryz.prog W base spare held n' 3 ((cs.drop 39).take (Tryz.prog.cellsOf 3)) = some y1 := hfs 1 _ rfl
    rw [e11, List.drop_zero] at t0
    rw [e1] at t1
    have hri := hb2 (D i) (List.mem_map.2 ⟨i, List.mem_range.2 hi, rfl⟩)
    rw [show D i = DataW.agg ([y0, y1].map (·.1)) from (show (D i, Pl i).1 = DataW.agg ([y0, y1].map (·.1)) from by rw [hx2])] at hri
    have hr0 : Rch 48 y0.1 := rch_struct Tryz.underlying82 hri 0 rfl rfl
    obtain ⟨m0, ns, qs, hm0, hin, ⟨hb1, hb2⟩, _⟩ := cell_msg t0 hr0
    obtain ⟨f0, hf0, _⟩ := DataW.trod_int Tryz.underlying3 t1
    have hcs2 : cs = m0.cs ++ [Value.int .i64 f0] := by
     have h1 : cs = cs.take 39 ++ cs.drop 39 := (List.take_append_drop 39 cs).symm
     have h2 : cs.drop 39 = (cs.drop 39).take 1 := by rw [List.take_of_length_le (by rw [List.length_drop]; omega)]
     rw [h1, hm0, h2, hf0]
    refine ⟨⟨m0, f0, ns, qs⟩, fun j u hu => ?_, hin, by show ns.length ≤ _; omega, by show qs.length ≤ _; omega⟩
    rw [← hcs2] at hu
    obtain ⟨hj, rfl⟩ := List.getElem?_eq_some_iff.1 hu
    have hg := hget j (by omega)
    rw [Go.Deep.add_add] at hg
    rw [hg, List.getElem?_eq_getElem hj]
  obtain ⟨f, hf'⟩ : ∃ f : Nat → Cll, ∀ i, i < len → (∀ j u, ((f i).m.cs ++ [Value.int .i64 (f i).fl])[j]? = some u → W.cell? (a.add (i * 40 + j)) = some u) ∧ MgIn W (f i).m (f i).ns (f i).qs ∧ (f i).ns.length ≤ 8796093021952 ∧ (f i).qs.length ≤ 5864062014634 := by
   by_cases h0 : len = 0
   ·exact ⟨fun _ => ⟨mg0, 0, [], []⟩, fun i hi => by omega⟩
   ·haveI : Inhabited Cll := ⟨⟨mg0, 0, [], []⟩⟩
    exact Go.Deep.choose_lt key
  have hlen : ((List.range len).map f).length = len := by simp
  refine ⟨(List.range len).map f, ⟨some a, cap, by rw [hlen], by rw [hlen]; exact hl, (fun e => nomatch e), fun j hj => ?_⟩, fun c hc => ?_⟩
  ·rw [hlen] at hj
   obtain ⟨h1, h2, _⟩ := hf' j hj
   obtain ⟨h0, _⟩ := hf' 0 (by omega)
   have hc0 := h0 0 _ rfl
   obtain ⟨b, off, sp⟩ := a
   obtain rfl : sp = none := by simpa [Addr.add] using World.cell?_spot hc0
   refine ⟨b, off, rfl, block_lt_of_cell hc0, fun k u hu => ?_, ?_⟩
   ·simp only [List.getElem_map, List.getElem_range] at hu
    have := h1 k u hu
    rw [Addr.add_lit] at this
    rw [Nat.add_assoc]
    exact this
   ·simp only [List.getElem_map, List.getElem_range]
    exact h2
  ·obtain ⟨i, hi, rfl⟩ := List.mem_map.1 hc
   exact (hf' i (List.mem_range.1 hi)).2.2
theorem open_client {r : Reach} {b0 : Nat} {v : Value} {d : DataW H} {p : List MemPlace} (hv : Value.okWide Tryz.prog W r b0 41 v) (h : DataW.Trod enc Tryz.prog W base spare held 41 v d p) (hr : Rch 41 d) :
  ∃ (c : Cln) (fv cv : Value) (fl : List Int) (l : List Cll), v = .agg (c.cs fv cv) ∧ Its W fv fl ∧ Clls W cv l ∧ (∀ x ∈ l, x.ns.length ≤ 8796093021952 ∧ x.qs.length ≤ 5864062014634) ∧ c.ss.length ≤ 1000000000000000000 := by
 obtain ⟨cs, rfl, hsz⟩ := okWide_struct Tryz.underlying41 hv
 rw [show Tryz.prog.cellsOf 41 = 6 from by kernel_rfl] at hsz
 obtain ⟨c0, c1, c2, c3, c4, c5, rfl⟩ : ∃ c0 c1 c2 c3 c4 c5, cs = #[c0, c1, c2, c3, c4, c5] := by
  obtain ⟨l⟩ := cs
  match l, hsz with
  | [c0, c1, c2, c3, c4, c5], _ => exact ⟨c0, c1, c2, c3, c4, c5, rfl⟩
 obtain ⟨fuel, hf⟩ := h
 obtain ⟨xs, n, _, hx, _, hlen, hfs⟩ := DataW.trod_struct Tryz.underlying41 hf
 have e1 : Tryz.prog.cellsOf 3 = 1 := by kernel_rfl
 have e2 : Tryz.prog.cellsOf 9 = 1 := by kernel_rfl
 have e8 : Tryz.prog.cellsOf 4 = 1 := by kernel_rfl
 have e9 : Tryz.prog.cellsOf 38 = 1 := by kernel_rfl
 have e10 : Tryz.prog.cellsOf 39 = 1 := by kernel_rfl
 match xs, hlen with
 | [y0, y1, y2, y3, y4, y5], _ =>
  have hd : d = .agg ([y0, y1, y2, y3, y4, y5].map (·.1)) := congrArg Prod.fst hx
  rw [hd] at hr
  have t0 := hfs 0 _ rfl
  simp [Value.cells, e1, e2, e8, e9, e10] at t0
  obtain ⟨i0, z0, _⟩ := DataW.trod_bool Tryz.underlying4 t0
  obtain rfl : c0 = .bool i0 := by simpa using z0
  clear z0 t0
  have t1 := hfs 1 _ rfl
  simp [Value.cells, e1, e2, e8, e9, e10] at t1
  obtain ⟨i1, z1, _, _⟩ := DataW.trod_int Tryz.underlying3 t1
  obtain rfl : c1 = .int .i64 i1 := by simpa using z1
  clear z1 t1
  have t2 := hfs 2 _ rfl
  simp [Value.cells, e1, e2, e8, e9, e10] at t2
  obtain ⟨s2, z2, x2, l2⟩ := DataW.trod_string Tryz.underlying9 t2
  obtain rfl : c2 = .string s2 := by simpa using z2
  clear z2 t2
  have t3 := hfs 3 _ rfl
  simp [Value.cells, e1, e2, e8, e9, e10] at t3
  obtain ⟨fl, hfl⟩ := cell_its t3
  have t4 := hfs 4 _ rfl
  simp [Value.cells, e1, e2, e8, e9, e10] at t4
  obtain ⟨l, hl, hlc⟩ := cell_calls t4 (rch_struct Tryz.underlying41 hr 4 rfl rfl)
  have t5 := hfs 5 _ rfl
  simp [Value.cells, e1, e2, e8, e9, e10] at t5
  obtain ⟨s5, z5, x5, l5⟩ := DataW.trod_string Tryz.underlying9 t5
  obtain rfl : c5 = .string s5 := by simpa using z5
  clear z5 t5
  have h2 := rch_struct Tryz.underlying41 hr 2 rfl rfl
  rw [x2] at h2
  have h2 : s2.size ≤ 140737488351232 := rch_str h2
  exact ⟨⟨i0, i1, s2.data.toList, s5.data.toList⟩, c3, c4, fl, l, by simp only [Cln.cs, T_of], hfl, hl, hlc, by show s2.size ≤ _; omega⟩
theorem open_msg {r : Reach} {b0 : Nat} {v : Value} {d : DataW H} {p : List MemPlace} (hv : Value.okWide Tryz.prog W r b0 48 v) (h : DataW.Trod enc Tryz.prog W base spare held 48 v d p) (hr : Rch 48 d) :
  ∃ m ns qs, v = .agg m.cs.toArray ∧ MgIn W m ns qs ∧ (ns.length ≤ 8796093021952 ∧ qs.length ≤ 5864062014634) ∧ m.sumA ≤ 1000000000000000000 ∧ m.sumB ≤ 1000000000000000000 := by
 obtain ⟨cs, rfl, _⟩ := okWide_struct Tryz.underlying48 hv
 obtain ⟨fuel, hf⟩ := h
 obtain ⟨m, ns, qs, hcs, h2⟩ := cell_msg (cs := cs.toList) (by simpa [Value.cells] using hf) hr
 exact ⟨m, ns, qs, by rw [← hcs], h2⟩
end
end Go.Proofs.YtfibaopngpfmjaaGreatDoor
