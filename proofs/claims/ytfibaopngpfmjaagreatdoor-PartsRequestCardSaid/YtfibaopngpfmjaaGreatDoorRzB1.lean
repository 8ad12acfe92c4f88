/- Messages as a structure; the law's test of their size. Conditions: those that each theorem names. -/
import Derived.Test.YtfibaopngpfmjaaGreatDoorRzA9
import Derived.Deep.MidRow
set_option linter.unusedVariables false
set_option linter.unusedSimpArgs false
set_option maxRecDepth 100000
set_option maxHeartbeats 8000000
namespace Go.Proofs.YtfibaopngpfmjaaGreatDoor
open Go.RowKit Go.Proofs
/-- A message. -/
structure Mg where
 kind : Int
 tag : Int
 fid : Int
 newFid : Int
 authFid : Int
 oldTag : Int
 msize : Int
 version : List UInt8
 user : List UInt8
 attach : List UInt8
 names : Value
 qids : Value
 q0 : Int
 q1 : Int
 q2 : Int
 iounit : Int
 mode : Int
 perm : Int
 name : List UInt8
 offset : Int
 count : Int
 data : List UInt8
 st : Int
 sd : Int
 s0 : Int
 s1 : Int
 s2 : Int
 sm : Int
 sat : Int
 smt : Int
 sl : Int
 sn : List UInt8
 su : List UInt8
 sg : List UInt8
 smu : List UInt8
 err : Int
 lease : Int
 term : Int
 session : List UInt8
/-- Its cells. -/
def Mg.cs (m : Mg) : List Value := [.int .i64 m.kind, .int .i64 m.tag, .int .i64 m.fid, .int .i64 m.newFid, .int .i64 m.authFid, .int .i64 m.oldTag, .int .i64 m.msize, .string (T m.version), .string (T m.user), .string (T m.attach), m.names, m.qids, .int .i64 m.q0, .int .i64 m.q1, .int .i64 m.q2, .int .i64 m.iounit, .int .i64 m.mode, .int .i64 m.perm, .string (T m.name), .int .i64 m.offset, .int .i64 m.count, .string (T m.data), .int .i64 m.st, .int .i64 m.sd, .int .i64 m.s0, .int .i64 m.s1, .int .i64 m.s2, .int .i64 m.sm, .int .i64 m.sat, .int .i64 m.smt, .int .i64 m.sl, .string (T m.sn), .string (T m.su), .string (T m.sg), .string (T m.smu), .int .i64 m.err, .int .i64 m.lease, .int .i64 m.term, .string (T m.session)]
theorem Mg.len (m : Mg) : m.cs.length = 39 := rfl
/-- Its two slices are slices. -/
def Mg.ok (m : Mg) : Prop := (∃ a n c, m.names = .slice a n c) ∧ (∃ a n c, m.qids = .slice a n c)
theorem Mg.one (m : Mg) (h : m.ok) : ∀ u ∈ m.cs, u.oneCell' = true := by
 obtain ⟨⟨a, n, c, h1⟩, ⟨b, k, d, h2⟩⟩ := h
 intro u hu
 simp only [Mg.cs, h1, h2, List.mem_cons, List.not_mem_nil, or_false] at hu
 rcases hu with rfl | rfl | rfl | rfl | rfl | rfl | rfl | rfl | rfl | rfl | rfl | rfl | rfl | rfl | rfl | rfl | rfl | rfl | rfl | rfl | rfl | rfl | rfl | rfl | rfl | rfl | rfl | rfl | rfl | rfl | rfl | rfl | rfl | rfl | rfl | rfl | rfl | rfl | rfl <;> rfl
/-- The numbers and the texts that Same compares. -/
def Mg.ns (m : Mg) : List Value := [.int .i64 m.kind, .int .i64 m.tag, .int .i64 m.fid, .int .i64 m.newFid, .int .i64 m.authFid, .int .i64 m.oldTag, .int .i64 m.msize, .int .i64 m.iounit, .int .i64 m.mode, .int .i64 m.perm, .int .i64 m.offset, .int .i64 m.count, .int .i64 m.lease]
def Mg.ts (m : Mg) : List Value := [.string (T m.version), .string (T m.user), .string (T m.attach), .string (T m.name), .string (T m.data), .string (T m.session)]
/-- The description. -/
def Mg.ds (m : Mg) : List Value := [.int .i64 m.st, .int .i64 m.sd, .int .i64 m.s0, .int .i64 m.s1, .int .i64 m.s2, .int .i64 m.sm, .int .i64 m.sat, .int .i64 m.smt, .int .i64 m.sl, .string (T m.sn), .string (T m.su), .string (T m.sg), .string (T m.smu)]
abbrev mgobj (m : Mg) : Obj := .cells m.cs.toArray 48
theorem msg_under : ∃ d, Tryz.prog.underlying 48 = some d ∧ d.isRow = true := ⟨_, Tryz.underlying48, rfl⟩
theorem msg_size : (Tryz.prog.info? 48).map (·.size) = some 39 := by kernel_rfl
theorem rng_of {W : World} {g : Nat} {cs : List Value} {t : TypeId} {fr : Nat × Nat} (h : W.heap[g]? = some (.cells cs.toArray t fr)) : W.rangeAt g 0 cs := by
 intro j v hv
 rw [Lib.cell_of_heap h]
 simpa using hv
/-- The cells of a message in a place of its own. -/
theorem mg_cells {W : World} {g : Nat} {m : Mg} {fr : Nat × Nat} (h : W.heap[g]? = some (.cells m.cs.toArray 48 fr)) :
  W.cell? ⟨g, 0, none⟩ = some (.int .i64 m.kind) ∧ W.cell? ⟨g, 1, none⟩ = some (.int .i64 m.tag) ∧ W.cell? ⟨g, 2, none⟩ = some (.int .i64 m.fid) ∧ W.cell? ⟨g, 3, none⟩ = some (.int .i64 m.newFid) ∧ W.cell? ⟨g, 4, none⟩ = some (.int .i64 m.authFid) ∧ W.cell? ⟨g, 5, none⟩ = some (.int .i64 m.oldTag) ∧ W.cell? ⟨g, 6, none⟩ = some (.int .i64 m.msize) ∧ W.cell? ⟨g, 7, none⟩ = some (.string (T m.version)) ∧ W.cell? ⟨g, 8, none⟩ = some (.string (T m.user)) ∧ W.cell? ⟨g, 9, none⟩ = some (.string (T m.attach)) ∧ W.cell? ⟨g, 10, none⟩ = some (m.names) ∧ W.cell? ⟨g, 11, none⟩ = some (m.qids) ∧ W.cell? ⟨g, 12, none⟩ = some (.int .i64 m.q0) ∧ W.cell? ⟨g, 13, none⟩ = some (.int .i64 m.q1) ∧ W.cell? ⟨g, 14, none⟩ = some (.int .i64 m.q2) ∧ W.cell? ⟨g, 15, none⟩ = some (.int .i64 m.iounit) ∧ W.cell? ⟨g, 16, none⟩ = some (.int .i64 m.mode) ∧ W.cell? ⟨g, 17, none⟩ = some (.int .i64 m.perm) ∧ W.cell? ⟨g, 18, none⟩ = some (.string (T m.name)) ∧ W.cell? ⟨g, 19, none⟩ = some (.int .i64 m.offset) ∧ W.cell? ⟨g, 20, none⟩ = some (.int .i64 m.count) ∧ W.cell? ⟨g, 21, none⟩ = some (.string (T m.data)) ∧ W.cell? ⟨g, 22, none⟩ = some (.int .i64 m.st) ∧ W.cell? ⟨g, 23, none⟩ = some (.int .i64 m.sd) ∧ W.cell? ⟨g, 24, none⟩ = some (.int .i64 m.s0) ∧ W.cell? ⟨g, 25, none⟩ = some (.int .i64 m.s1) ∧ W.cell? ⟨g, 26, none⟩ = some (.int .i64 m.s2) ∧ W.cell? ⟨g, 27, none⟩ = some (.int .i64 m.sm) ∧ W.cell? ⟨g, 28, none⟩ = some (.int .i64 m.sat) ∧ W.cell? ⟨g, 29, none⟩ = some (.int .i64 m.smt) ∧ W.cell? ⟨g, 30, none⟩ = some (.int .i64 m.sl) ∧ W.cell? ⟨g, 31, none⟩ = some (.string (T m.sn)) ∧ W.cell? ⟨g, 32, none⟩ = some (.string (T m.su)) ∧ W.cell? ⟨g, 33, none⟩ = some (.string (T m.sg)) ∧ W.cell? ⟨g, 34, none⟩ = some (.string (T m.smu)) ∧ W.cell? ⟨g, 35, none⟩ = some (.int .i64 m.err) ∧ W.cell? ⟨g, 36, none⟩ = some (.int .i64 m.lease) ∧ W.cell? ⟨g, 37, none⟩ = some (.int .i64 m.term) ∧ W.cell? ⟨g, 38, none⟩ = some (.string (T m.session)) := by
 refine ⟨?_, ?_, ?_, ?_, ?_, ?_, ?_, ?_, ?_, ?_, ?_, ?_, ?_, ?_, ?_, ?_, ?_, ?_, ?_, ?_, ?_, ?_, ?_, ?_, ?_, ?_, ?_, ?_, ?_, ?_, ?_, ?_, ?_, ?_, ?_, ?_, ?_, ?_, ?_⟩ <;> (rw [Lib.cell_of_heap h]; rfl)
theorem nums_any (m : Mg) (h : m.ok) (w : World) : Calls Tryz.prog 132 #[.agg m.cs.toArray] w fun e w' => e = .returned (.agg m.ns.toArray) ∧ Below w.heap.size w w' := by
 have HB := lh (fun o o2 => bnext (alloc_below w o) (alloc_below _ o2))
 obtain ⟨⟨a, n, c, h1⟩, ⟨b, k, d, h2⟩⟩ := h
 unfold Mg.cs Mg.ns
 rw [h1, h2]
 clear h1 h2
 go_enter Tryz.func132, Tryz.ntmps132
 go_wp2_with fail
 exact bodyPost_ret (v := .agg [.int .i64 m.kind, .int .i64 m.tag, .int .i64 m.fid, .int .i64 m.newFid, .int .i64 m.authFid, .int .i64 m.oldTag, .int .i64 m.msize, .int .i64 m.iounit, .int .i64 m.mode, .int .i64 m.perm, .int .i64 m.offset, .int .i64 m.count, .int .i64 m.lease].toArray) (by simp [results, Tryz.results132, go_sem]) rfl ⟨rfl, HB.out _ _⟩
theorem texts_any (m : Mg) (h : m.ok) (w : World) : Calls Tryz.prog 133 #[.agg m.cs.toArray] w fun e w' => e = .returned (.agg m.ts.toArray) ∧ Below w.heap.size w w' := by
 have HB := lh (fun o o2 => bnext (alloc_below w o) (alloc_below _ o2))
 obtain ⟨⟨a, n, c, h1⟩, ⟨b, k, d, h2⟩⟩ := h
 unfold Mg.cs Mg.ts
 rw [h1, h2]
 clear h1 h2
 go_enter Tryz.func133, Tryz.ntmps133
 go_wp2_with fail
 exact bodyPost_ret (v := .agg [.string (T m.version), .string (T m.user), .string (T m.attach), .string (T m.name), .string (T m.data), .string (T m.session)].toArray) (by simp [results, Tryz.results133, go_sem]) rfl ⟨rfl, HB.out _ _⟩
/-- '==' of the numbers of a message and of themselves. -/
theorem eqns_self (m : Mg) (w : World) : (Op.equalIn 10000 191 (.agg m.ns.toArray) (.agg m.ns.toArray)).run Tryz.prog w = .ok true w := by
 have u3 := Tryz.underlying3
 have a3 := Tryz.isAgg3
 have z3 := Tryz.sizeOf3
 unfold Mg.ns
 rw [show (10000 : Nat) = 9999 + 1 from rfl, Op.equalIn]
 simp only [Sem.run_bind, run_underlying Tryz.underlying191, Result.andThen_ok]
 simp only [Std.Legacy.Range.forIn_eq_forIn_range', Std.Legacy.Range.size, Nat.sub_zero, Nat.add_sub_cancel, Nat.div_one, List.range'_succ, List.range'_zero, List.forIn_cons, List.forIn_nil]
 go_simp
 try simp
theorem eqts_self (m : Mg) (w : World) : (Op.equalIn 10000 193 (.agg m.ts.toArray) (.agg m.ts.toArray)).run Tryz.prog w = .ok true w := by
 have u3 := Tryz.underlying9
 have a3 := Tryz.isAgg9
 have z3 := Tryz.sizeOf9
 unfold Mg.ts
 rw [show (10000 : Nat) = 9999 + 1 from rfl, Op.equalIn]
 simp only [Sem.run_bind, run_underlying Tryz.underlying193, Result.andThen_ok]
 simp only [Std.Legacy.Range.forIn_eq_forIn_range', Std.Legacy.Range.size, Nat.sub_zero, Nat.add_sub_cancel, Nat.div_one, List.range'_succ, List.range'_zero, List.forIn_cons, List.forIn_nil]
 go_simp
 try simp
theorem eqds_self (m : Mg) (w : World) : (Op.equalIn 10000 46 (.agg m.ds.toArray) (.agg m.ds.toArray)).run Tryz.prog w = .ok true w := by
 unfold Mg.ds
 go_simp
 try simp
theorem eqq_nil (w : World) : Calls Tryz.prog 135 #[.slice none 0 0, .slice none 0 0] w fun e w' => e = .returned (.bool true) ∧ w' = w := by
 go_enter Tryz.func135, Tryz.ntmps135
 go_wp2_with fail
 refine wp_loop_rounds 1 ?_
 rw [rounds_succ]
 go_wp2_with fail
 go_ret
 exact ⟨rfl, rfl⟩
theorem eqs_nil (w : World) : Calls Tryz.prog 134 #[.slice none 0 0, .slice none 0 0] w fun e w' => e = .returned (.bool true) ∧ w' = w := slices_Equal_string_empty none none 0 0 0 w (by omega)
/-- A truth value is returned, of which Q holds. -/
def RetB (Q : Bool → Prop) (w : World) (e : Ending) (w' : World) : Prop := ∃ b, e = .returned (.bool b) ∧ Q b ∧ Below w.heap.size w w'
theorem retB {Q : Bool → Prop} {w w' : World} (b : Bool) (q : Q b) (h : Below w.heap.size w w') : RetB Q w (.returned (.bool b)) w' := ⟨b, rfl, q, h⟩
/-- A slice of texts in memory. -/
def Txs (w : World) (v : Value) (l : List (List UInt8)) : Prop :=
 ∃ ao cap, v = .slice ao l.length cap ∧ l.length ≤ cap ∧ (ao = none → cap = 0) ∧ ∀ j (h : j < l.length), ∃ b off, ao = some ⟨b, off, none⟩ ∧ b < w.heap.size ∧ w.cell? ⟨b, off + j, none⟩ = some (.string (T l[j]))
theorem Txs.below {w w' : World} {v : Value} {l : List (List UInt8)} (h : Txs w v l) (hb : Below w.heap.size w w') : Txs w' v l := by
 obtain ⟨ao, cap, hv, hc, hn, hcell⟩ := h
 refine ⟨ao, cap, hv, hc, hn, fun j h => ?_⟩
 obtain ⟨b, off, ha, hlt, c0⟩ := hcell j h
 exact ⟨b, off, ha, Nat.lt_of_lt_of_le hlt hb.size, cell_below hb hlt c0⟩
theorem Txs.form {w : World} {v : Value} {l : List (List UInt8)} (h : Txs w v l) : ∃ ao n c, v = .slice ao n c := by obtain ⟨a, c, e, _⟩ := h; exact ⟨_, _, _, e⟩
theorem Txs.nil (w : World) : Txs w (.slice none 0 0) [] := ⟨none, 0, rfl, Nat.le_refl _, fun _ => rfl, fun j h => absurd h (by simp)⟩
/-- The bytes of the texts of a message, and of its description. -/
def Mg.sumA (m : Mg) : Nat := m.version.length + m.user.length + m.attach.length + m.name.length + m.session.length + m.data.length
def Mg.sumB (m : Mg) : Nat := m.sn.length + m.su.length + m.sg.length + m.smu.length
/-- partsBrief. -/
def Mg.brief (m : Mg) (ss : List (List UInt8)) (kq : Nat) : Prop := (∀ s ∈ ss, s.length ≤ 1000) ∧ ss.length ≤ 20 ∧ kq ≤ 20 ∧ m.sumA ≤ 20000 ∧ m.sumB ≤ 20000
theorem brief_at {ss : List (List UInt8)} (h : ∀ j (hj : j < ss.length), ss[j].length ≤ 1000) : ∀ s ∈ ss, s.length ≤ 1000 := by
 intro s hs
 obtain ⟨j, hj, rfl⟩ := List.getElem_of_mem hs
 exact h j hj
theorem brief_any (m : Mg) (ss : List (List UInt8)) (aq : Option Addr) (kq cq : Nat) (w : World) (hn : Txs w m.names ss) (hq : m.qids = .slice aq kq cq) (hsl : ss.length ≤ 1000000000000000000)
  (hA : m.sumA ≤ 1000000000000000000) (hB : m.sumB ≤ 1000000000000000000) :
  Calls Tryz.prog 9 #[.agg m.cs.toArray] w (RetB (fun b => b = true → m.brief ss kq) w) := by
 have HB := lh (alloc_below w (mgobj m))
 have HF := lh (show m.brief ss kq ↔ (∀ s ∈ ss, s.length ≤ 1000) ∧ ss.length ≤ 20 ∧ kq ≤ 20 ∧ m.sumA ≤ 20000 ∧ m.sumB ≤ 20000 from Iff.rfl)
 have hn1 := hn.below HB.out
 obtain ⟨ao, cap, hv, hc, hnn, hcell⟩ := hn1
 have HC := lh (show ∀ W : World, W.heap[w.heap.size]? = some (mgobj m) → (W.cell? ⟨w.heap.size, 10, none⟩ = some (.slice ao ss.length cap) ∧ W.cell? ⟨w.heap.size, 11, none⟩ = some (.slice aq kq cq) ∧ W.cell? ⟨w.heap.size, 7, none⟩ = some (.string (T m.version)) ∧ W.cell? ⟨w.heap.size, 8, none⟩ = some (.string (T m.user)) ∧ W.cell? ⟨w.heap.size, 9, none⟩ = some (.string (T m.attach)) ∧ W.cell? ⟨w.heap.size, 18, none⟩ = some (.string (T m.name)) ∧ W.cell? ⟨w.heap.size, 38, none⟩ = some (.string (T m.session)) ∧ W.cell? ⟨w.heap.size, 21, none⟩ = some (.string (T m.data))) ∧ W.cell? ⟨w.heap.size, 31, none⟩ = some (.string (T m.sn)) ∧ W.cell? ⟨w.heap.size, 32, none⟩ = some (.string (T m.su)) ∧ W.cell? ⟨w.heap.size, 33, none⟩ = some (.string (T m.sg)) ∧ W.cell? ⟨w.heap.size, 34, none⟩ = some (.string (T m.smu)) from fun W h => by
  refine ⟨⟨?_, ?_, ?_, ?_, ?_, ?_, ?_, ?_⟩, ?_, ?_, ?_, ?_⟩
  ·rw [Lib.cell_of_heap h, ← hv]; rfl
  ·rw [Lib.cell_of_heap h, ← hq]; rfl
  all_goals (rw [Lib.cell_of_heap h]; rfl))
 have H1 := lh (heap_alloc_new w (mgobj m))
 have HCE := lh hcell
 unfold Mg.sumA Mg.sumB at HF
 unfold Mg.sumA at hA
 unfold Mg.sumB at hB
 unfold mgobj at *
 clear hcell hv hnn hn hq hc
 generalize m.brief ss kq = Q at *
 generalize m.version = x0 at *
 generalize m.user = x1 at *
 generalize m.attach = x2 at *
 generalize m.name = x3 at *
 generalize m.session = x4 at *
 generalize m.data = x5 at *
 generalize m.sn = y0 at *
 generalize m.su = y1 at *
 generalize m.sg = y2 at *
 generalize m.smu = y3 at *
 generalize m.cs = cs at *
 go_enter Tryz.func9, Tryz.ntmps9
 go_upto_region 1 with fail
 generalize World.alloc _ _ = w1 at *
 obtain ⟨⟨c10, c11, c7, c8, c9, c18, c38, c21⟩, c31, c32, c33, c34⟩ := HC.out _ H1.out
 go_wp2_with fail
 go_loop [7] (fun i => ∃ k : Nat, k ≤ ss.length ∧ i = .int .i64 (k : Int) ∧ Hid (∀ j (hj : j < k) (hk : k ≤ ss.length), (ss[j]'(by omega)).length ≤ 1000)) (fun i => ss.length - (intOf i).toNat)
 case atStart => exact ⟨0, by omega, rfl, (fun j hj => by omega)⟩
 case round =>
  obtain ⟨k, hk, rfl, hn⟩ := hrel
  by_cases hlt : k < ss.length
  ·obtain ⟨b, off, rfl, hbl, cc⟩ := HCE.out k hlt
   have hki : (k : Int) < ss.length := by omega
   have HNX := lh (show ss[k].length ≤ 1000 → ∀ j (hj : j < k + 1) (hk : k + 1 ≤ ss.length), (ss[j]'(by omega)).length ≤ 1000 from fun he j hj hk' => by
    rcases Nat.lt_or_ge j k with h | h
    ·exact hn.out j h (by omega)
    ·obtain rfl : j = k := by omega
     exact he)
   generalize ss[k] = nm at *
   by_cases hn2 : nm.length ≤ 1000
   rotate_left
   ·have k2 : (1000 : Int) < nm.length := by omega
    clear HNX hn2
    go_wp2_with fail
    go_ret
    exact retB false (fun h => nomatch h) HB.out
   ·have HF := lh (HNX.out hn2)
    have k3 : decide ((1000 : Int) < nm.length) = false := decide_eq_false (by omega)
    clear HNX hn2
    go_wp2_with fail
    go_round
    case rel => exact ⟨k + 1, by omega, by go_num, HF⟩
    case measure => simp [intOf]; omega
  ·obtain rfl : k = ss.length := by omega
   have HY := lh (brief_at (fun j hj => hn.out j hj (Nat.le_refl _)))
   clear hn HCE
   clear hk hlt
   by_cases t0 : ss.length ≤ 20
   rotate_left
   ·have k0 : decide ((ss.length : Int) ≤ 20) = false := decide_eq_false (by omega)
    clear t0
    go_wp2_with fail
    go_ret
    exact retB false (fun h => nomatch h) HB.out
   have k0 : (ss.length : Int) ≤ 20 := by omega
   by_cases t1 : kq ≤ 20
   rotate_left
   ·have k1 : decide ((kq : Int) ≤ 20) = false := decide_eq_false (by omega)
    clear t1
    go_wp2_with fail
    go_ret
    exact retB false (fun h => nomatch h) HB.out
   have k1 : (kq : Int) ≤ 20 := by omega
   by_cases t2 : x0.length + x1.length + x2.length + x3.length + x4.length + x5.length ≤ 20000
   rotate_left
   ·have k2 : decide ((x0.length : Int) + x1.length + x2.length + x3.length + x4.length + x5.length ≤ 20000) = false := decide_eq_false (by omega)
    clear t2
    go_wp2_with fail
    go_ret
    exact retB false (fun h => nomatch h) HB.out
   have k2 : (x0.length : Int) + x1.length + x2.length + x3.length + x4.length + x5.length ≤ 20000 := by omega
   by_cases t3 : y0.length + y1.length + y2.length + y3.length ≤ 20000
   rotate_left
   ·have k3 : decide ((y0.length : Int) + y1.length + y2.length + y3.length ≤ 20000) = false := decide_eq_false (by omega)
    clear t3
    go_wp2_with fail
    go_ret
    exact retB false (fun h => nomatch h) HB.out
   have k3 : (y0.length : Int) + y1.length + y2.length + y3.length ≤ 20000 := by omega
   have HQ := lh (HF.out.2 ⟨HY.out, t0, t1, t2, t3⟩)
   clear t0 t1 t2 t3
   go_wp2_with fail
   go_ret
   exact retB true (fun _ => HQ.out) HB.out
end Go.Proofs.YtfibaopngpfmjaaGreatDoor
