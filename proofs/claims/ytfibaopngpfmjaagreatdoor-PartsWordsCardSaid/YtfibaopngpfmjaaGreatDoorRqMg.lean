/- Messages as a structure, and their cells. Conditions: none. -/
import Derived.Test.YtfibaopngpfmjaaGreatDoorPxExp
import Derived.Deep.MidRow
set_option linter.unusedVariables false
set_option linter.unusedSimpArgs false
namespace Go.Proofs.YtfibaopngpfmjaaGreatDoor
open Go.RowKit Go.Proofs
/-- A message. -/
structure Mg where
  kind : Int
  tag : Int
  fid : Int
  newFid : Int
  authFid : Int
  oldTag : Int
  msize : Int
  version : List UInt8
  user : List UInt8
  attach : List UInt8
  names : Value
  qids : Value
  q0 : Int
  q1 : Int
  q2 : Int
  iounit : Int
  mode : Int
  perm : Int
  name : List UInt8
  offset : Int
  count : Int
  data : List UInt8
  st : Int
  sd : Int
  s0 : Int
  s1 : Int
  s2 : Int
  sm : Int
  sat : Int
  smt : Int
  sl : Int
  sn : List UInt8
  su : List UInt8
  sg : List UInt8
  smu : List UInt8
  err : Int
  lease : Int
  term : Int
  session : List UInt8
/-- Its cells. -/
def Mg.cs (m : Mg) : List Value := [.int .i64 m.kind, .int .i64 m.tag, .int .i64 m.fid, .int .i64 m.newFid, .int .i64 m.authFid, .int .i64 m.oldTag, .int .i64 m.msize, .string (T m.version), .string (T m.user), .string (T m.attach), m.names, m.qids, .int .i64 m.q0, .int .i64 m.q1, .int .i64 m.q2, .int .i64 m.iounit, .int .i64 m.mode, .int .i64 m.perm, .string (T m.name), .int .i64 m.offset, .int .i64 m.count, .string (T m.data), .int .i64 m.st, .int .i64 m.sd, .int .i64 m.s0, .int .i64 m.s1, .int .i64 m.s2, .int .i64 m.sm, .int .i64 m.sat, .int .i64 m.smt, .int .i64 m.sl, .string (T m.sn), .string (T m.su), .string (T m.sg), .string (T m.smu), .int .i64 m.err, .int .i64 m.lease, .int .i64 m.term, .string (T m.session)]
theorem Mg.len (m : Mg) : m.cs.length = 39 := rfl
/-- Its two slices are slices. -/
def Mg.ok (m : Mg) : Prop := (∃ a n c, m.names = .slice a n c) ∧ (∃ a n c, m.qids = .slice a n c)
theorem Mg.one (m : Mg) (h : m.ok) : ∀ u ∈ m.cs, u.oneCell' = true := by
  obtain ⟨⟨a, n, c, h1⟩, ⟨b, k, d, h2⟩⟩ := h
  intro u hu
  simp only [Mg.cs, h1, h2, List.mem_cons, List.not_mem_nil, or_false] at hu
  rcases hu with rfl | rfl | rfl | rfl | rfl | rfl | rfl | rfl | rfl | rfl | rfl | rfl | rfl | rfl | rfl | rfl | rfl | rfl | rfl | rfl | rfl | rfl | rfl | rfl | rfl | rfl | rfl | rfl | rfl | rfl | rfl | rfl | rfl | rfl | rfl | rfl | rfl | rfl | rfl <;> rfl
/-- The numbers and the texts that Same compares. -/
def Mg.ns (m : Mg) : List Value := [.int .i64 m.kind, .int .i64 m.tag, .int .i64 m.fid, .int .i64 m.newFid, .int .i64 m.authFid, .int .i64 m.oldTag, .int .i64 m.msize, .int .i64 m.iounit, .int .i64 m.mode, .int .i64 m.perm, .int .i64 m.offset, .int .i64 m.count, .int .i64 m.lease]
def Mg.ts (m : Mg) : List Value := [.string (T m.version), .string (T m.user), .string (T m.attach), .string (T m.name), .string (T m.data), .string (T m.session)]
/-- The description. -/
def Mg.ds (m : Mg) : List Value := [.int .i64 m.st, .int .i64 m.sd, .int .i64 m.s0, .int .i64 m.s1, .int .i64 m.s2, .int .i64 m.sm, .int .i64 m.sat, .int .i64 m.smt, .int .i64 m.sl, .string (T m.sn), .string (T m.su), .string (T m.sg), .string (T m.smu)]
abbrev mgobj (m : Mg) : Obj := .cells m.cs.toArray 48
theorem msg_under : ∃ d, Tryz.prog.underlying 48 = some d ∧ d.isRow = true := ⟨_, Tryz.underlying48, rfl⟩
theorem msg_size : (Tryz.prog.info? 48).map (·.size) = some 39 := by kernel_rfl
theorem rng_of {W : World} {g : Nat} {cs : List Value} {t : TypeId} {fr : Nat × Nat} (h : W.heap[g]? = some (.cells cs.toArray t fr)) : W.rangeAt g 0 cs := by
  intro j v hv
  rw [Lib.cell_of_heap h]
  simpa using hv
/-- The cells of a message in a place of its own. -/
theorem mg_cells {W : World} {g : Nat} {m : Mg} {fr : Nat × Nat} (h : W.heap[g]? = some (.cells m.cs.toArray 48 fr)) :
    W.cell? ⟨g, 0, none⟩ = some (.int .i64 m.kind) ∧ W.cell? ⟨g, 1, none⟩ = some (.int .i64 m.tag) ∧ W.cell? ⟨g, 2, none⟩ = some (.int .i64 m.fid) ∧ W.cell? ⟨g, 3, none⟩ = some (.int .i64 m.newFid) ∧ W.cell? ⟨g, 4, none⟩ = some (.int .i64 m.authFid) ∧ W.cell? ⟨g, 5, none⟩ = some (.int .i64 m.oldTag) ∧ W.cell? ⟨g, 6, none⟩ = some (.int .i64 m.msize) ∧ W.cell? ⟨g, 7, none⟩ = some (.string (T m.version)) ∧ W.cell? ⟨g, 8, none⟩ = some (.string (T m.user)) ∧ W.cell? ⟨g, 9, none⟩ = some (.string (T m.attach)) ∧ W.cell? ⟨g, 10, none⟩ = some (m.names) ∧ W.cell? ⟨g, 11, none⟩ = some (m.qids) ∧ W.cell? ⟨g, 12, none⟩ = some (.int .i64 m.q0) ∧ W.cell? ⟨g, 13, none⟩ = some (.int .i64 m.q1) ∧ W.cell? ⟨g, 14, none⟩ = some (.int .i64 m.q2) ∧ W.cell? ⟨g, 15, none⟩ = some (.int .i64 m.iounit) ∧ W.cell? ⟨g, 16, none⟩ = some (.int .i64 m.mode) ∧ W.cell? ⟨g, 17, none⟩ = some (.int .i64 m.perm) ∧ W.cell? ⟨g, 18, none⟩ = some (.string (T m.name)) ∧ W.cell? ⟨g, 19, none⟩ = some (.int .i64 m.offset) ∧ W.cell? ⟨g, 20, none⟩ = some (.int .i64 m.count) ∧ W.cell? ⟨g, 21, none⟩ = some (.string (T m.data)) ∧ W.cell? ⟨g, 22, none⟩ = some (.int .i64 m.st) ∧ W.cell? ⟨g, 23, none⟩ = some (.int .i64 m.sd) ∧ W.cell? ⟨g, 24, none⟩ = some (.int .i64 m.s0) ∧ W.cell? ⟨g, 25, none⟩ = some (.int .i64 m.s1) ∧ W.cell? ⟨g, 26, none⟩ = some (.int .i64 m.s2) ∧ W.cell? ⟨g, 27, none⟩ = some (.int .i64 m.sm) ∧ W.cell? ⟨g, 28, none⟩ = some (.int .i64 m.sat) ∧ W.cell? ⟨g, 29, none⟩ = some (.int .i64 m.smt) ∧ W.cell? ⟨g, 30, none⟩ = some (.int .i64 m.sl) ∧ W.cell? ⟨g, 31, none⟩ = some (.string (T m.sn)) ∧ W.cell? ⟨g, 32, none⟩ = some (.string (T m.su)) ∧ W.cell? ⟨g, 33, none⟩ = some (.string (T m.sg)) ∧ W.cell? ⟨g, 34, none⟩ = some (.string (T m.smu)) ∧ W.cell? ⟨g, 35, none⟩ = some (.int .i64 m.err) ∧ W.cell? ⟨g, 36, none⟩ = some (.int .i64 m.lease) ∧ W.cell? ⟨g, 37, none⟩ = some (.int .i64 m.term) ∧ W.cell? ⟨g, 38, none⟩ = some (.string (T m.session)) := by
  refine ⟨?_, ?_, ?_, ?_, ?_, ?_, ?_, ?_, ?_, ?_, ?_, ?_, ?_, ?_, ?_, ?_, ?_, ?_, ?_, ?_, ?_, ?_, ?_, ?_, ?_, ?_, ?_, ?_, ?_, ?_, ?_, ?_, ?_, ?_, ?_, ?_, ?_, ?_, ?_⟩ <;> (rw [Lib.cell_of_heap h]; rfl)
set_option maxRecDepth 100000 in
set_option maxHeartbeats 4000000 in
theorem nums_any (m : Mg) (h : m.ok) (w : World) : Calls Tryz.prog 132 #[.agg m.cs.toArray] w fun e w' => e = .returned (.agg m.ns.toArray) ∧ Below w.heap.size w w' := by
  have HB := Lib.hid (fun o o2 => bnext (alloc_below w o) (alloc_below _ o2))
  obtain ⟨⟨a, n, c, h1⟩, ⟨b, k, d, h2⟩⟩ := h
  unfold Mg.cs Mg.ns
  rw [h1, h2]
  clear h1 h2
  go_enter Tryz.func132, Tryz.ntmps132
  go_wp2_with fail
  exact bodyPost_ret (v := .agg [.int .i64 m.kind, .int .i64 m.tag, .int .i64 m.fid, .int .i64 m.newFid, .int .i64 m.authFid, .int .i64 m.oldTag, .int .i64 m.msize, .int .i64 m.iounit, .int .i64 m.mode, .int .i64 m.perm, .int .i64 m.offset, .int .i64 m.count, .int .i64 m.lease].toArray) (by simp [results, Tryz.results132, go_sem]) rfl ⟨rfl, HB.out _ _⟩
set_option maxRecDepth 100000 in
set_option maxHeartbeats 4000000 in
theorem texts_any (m : Mg) (h : m.ok) (w : World) : Calls Tryz.prog 133 #[.agg m.cs.toArray] w fun e w' => e = .returned (.agg m.ts.toArray) ∧ Below w.heap.size w w' := by
  have HB := Lib.hid (fun o o2 => bnext (alloc_below w o) (alloc_below _ o2))
  obtain ⟨⟨a, n, c, h1⟩, ⟨b, k, d, h2⟩⟩ := h
  unfold Mg.cs Mg.ts
  rw [h1, h2]
  clear h1 h2
  go_enter Tryz.func133, Tryz.ntmps133
  go_wp2_with fail
  exact bodyPost_ret (v := .agg [.string (T m.version), .string (T m.user), .string (T m.attach), .string (T m.name), .string (T m.data), .string (T m.session)].toArray) (by simp [results, Tryz.results133, go_sem]) rfl ⟨rfl, HB.out _ _⟩
/-- '==' of the numbers of a message and of themselves. -/
theorem eqns_self (m : Mg) (w : World) : (Op.equalIn 10000 191 (.agg m.ns.toArray) (.agg m.ns.toArray)).run Tryz.prog w = .ok true w := by
  have u3 := Tryz.underlying3
  have a3 := Tryz.isAgg3
  have z3 := Tryz.sizeOf3
  unfold Mg.ns
  rw [show (10000 : Nat) = 9999 + 1 from rfl, Op.equalIn]
  simp only [Sem.run_bind, run_underlying Tryz.underlying191, Result.andThen_ok]
  simp only [Std.Legacy.Range.forIn_eq_forIn_range', Std.Legacy.Range.size, Nat.sub_zero, Nat.add_sub_cancel, Nat.div_one, List.range'_succ, List.range'_zero, List.forIn_cons, List.forIn_nil]
  go_simp
  try simp
theorem eqts_self (m : Mg) (w : World) : (Op.equalIn 10000 193 (.agg m.ts.toArray) (.agg m.ts.toArray)).run Tryz.prog w = .ok true w := by
  have u3 := Tryz.underlying9
  have a3 := Tryz.isAgg9
  have z3 := Tryz.sizeOf9
  unfold Mg.ts
  rw [show (10000 : Nat) = 9999 + 1 from rfl, Op.equalIn]
  simp only [Sem.run_bind, run_underlying Tryz.underlying193, Result.andThen_ok]
  simp only [Std.Legacy.Range.forIn_eq_forIn_range', Std.Legacy.Range.size, Nat.sub_zero, Nat.add_sub_cancel, Nat.div_one, List.range'_succ, List.range'_zero, List.forIn_cons, List.forIn_nil]
  go_simp
  try simp
theorem eqds_self (m : Mg) (w : World) : (Op.equalIn 10000 46 (.agg m.ds.toArray) (.agg m.ds.toArray)).run Tryz.prog w = .ok true w := by
  unfold Mg.ds
  go_simp
  try simp
theorem eqq_nil (w : World) : Calls Tryz.prog 135 #[.slice none 0 0, .slice none 0 0] w fun e w' => e = .returned (.bool true) ∧ w' = w := by
  go_enter Tryz.func135, Tryz.ntmps135
  go_wp2_with fail
  refine wp_loop_rounds 1 ?_
  rw [rounds_succ]
  go_wp2_with fail
  go_ret
  exact ⟨rfl, rfl⟩
theorem eqs_nil (w : World) : Calls Tryz.prog 134 #[.slice none 0 0, .slice none 0 0] w fun e w' => e = .returned (.bool true) ∧ w' = w := slices_Equal_string_empty none none 0 0 0 w (by omega)
end Go.Proofs.YtfibaopngpfmjaaGreatDoor
