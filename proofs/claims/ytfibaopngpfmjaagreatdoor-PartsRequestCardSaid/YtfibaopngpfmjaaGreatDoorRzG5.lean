/- msg.Same exactly; msg.Check exactly. Conditions: those that each theorem names. -/
import Derived.Test.YtfibaopngpfmjaaGreatDoorRzD1
import Derived.Test.YtfibaopngpfmjaaGreatDoorRzC1
import Derived.Test.YtfibaopngpfmjaaGreatDoorRzB2
import Derived.Test.YtfibaopngpfmjaaGreatDoorRzA1
import Derived.Test.YtfibaopngpfmjaaGreatDoorRzF4
import Derived.Test.YtfibaopngpfmjaaGreatDoorRzG4
set_option linter.unusedVariables false
set_option linter.unusedSimpArgs false
set_option maxRecDepth 100000
set_option maxHeartbeats 16000000
namespace Go.Proofs.YtfibaopngpfmjaaGreatDoor
open Go.RowKit Go.Proofs
theorem ifc {p : Prop} [Decidable p] {X : Result Bool} {q : Bool} {w : World} (h : X = Result.ok q w) : (if p then X else Result.ok false w) = Result.ok (decide p && q) w := by
 by_cases hp : p
 ·rw [if_pos hp, h, decide_eq_true hp, Bool.true_and]
 ·rw [if_neg hp, decide_eq_false hp, Bool.false_and]
def eqN (a b : Mg) : Bool := decide (a.kind = b.kind) && (decide (a.tag = b.tag) && (decide (a.fid = b.fid) && (decide (a.newFid = b.newFid) && (decide (a.authFid = b.authFid) && (decide (a.oldTag = b.oldTag) && (decide (a.msize = b.msize) && (decide (a.iounit = b.iounit) && (decide (a.mode = b.mode) && (decide (a.perm = b.perm) && (decide (a.offset = b.offset) && (decide (a.count = b.count) && (decide (a.lease = b.lease) && true))))))))))))
theorem eqN_iff (a b : Mg) : eqN a b = true ↔ a.kind = b.kind ∧ a.tag = b.tag ∧ a.fid = b.fid ∧ a.newFid = b.newFid ∧ a.authFid = b.authFid ∧ a.oldTag = b.oldTag ∧ a.msize = b.msize ∧ a.iounit = b.iounit ∧ a.mode = b.mode ∧ a.perm = b.perm ∧ a.offset = b.offset ∧ a.count = b.count ∧ a.lease = b.lease := by
 simp only [eqN, Bool.and_eq_true, decide_eq_true_eq, and_true]
theorem eqN_run (a b : Mg) (w : World) : (Op.equalIn 10000 191 (.agg a.ns.toArray) (.agg b.ns.toArray)).run Tryz.prog w = .ok (eqN a b) w := by
 have u3 := Tryz.underlying3
 have a3 := Tryz.isAgg3
 have z3 := Tryz.sizeOf3
 unfold Mg.ns
 rw [show (10000 : Nat) = 9999 + 1 from rfl, Op.equalIn]
 simp only [Sem.run_bind, run_underlying Tryz.underlying191, Result.andThen_ok]
 simp only [Std.Legacy.Range.forIn_eq_forIn_range', Std.Legacy.Range.size, Nat.sub_zero, Nat.add_sub_cancel, Nat.div_one, List.range'_succ, List.range'_zero, List.forIn_cons, List.forIn_nil]
 go_simp
 clear u3 a3 z3
 unfold eqN
 repeat (first | exact rfl | refine ifc ?_)
def eqT (a b : Mg) : Bool := decide (a.version = b.version) && (decide (a.user = b.user) && (decide (a.attach = b.attach) && (decide (a.name = b.name) && (decide (a.data = b.data) && (decide (a.session = b.session) && true)))))
theorem eqT_iff (a b : Mg) : eqT a b = true ↔ a.version = b.version ∧ a.user = b.user ∧ a.attach = b.attach ∧ a.name = b.name ∧ a.data = b.data ∧ a.session = b.session := by
 simp only [eqT, Bool.and_eq_true, decide_eq_true_eq, and_true]
theorem eqT_run (a b : Mg) (w : World) : (Op.equalIn 10000 193 (.agg a.ts.toArray) (.agg b.ts.toArray)).run Tryz.prog w = .ok (eqT a b) w := by
 have u3 := Tryz.underlying9
 have a3 := Tryz.isAgg9
 have z3 := Tryz.sizeOf9
 unfold Mg.ts
 rw [show (10000 : Nat) = 9999 + 1 from rfl, Op.equalIn]
 simp only [Sem.run_bind, run_underlying Tryz.underlying193, Result.andThen_ok]
 simp only [Std.Legacy.Range.forIn_eq_forIn_range', Std.Legacy.Range.size, Nat.sub_zero, Nat.add_sub_cancel, Nat.div_one, List.range'_succ, List.range'_zero, List.forIn_cons, List.forIn_nil]
 go_simp
 clear u3 a3 z3
 unfold eqT
 repeat (first | exact rfl | refine ifc ?_)
def eqD (a b : Mg) : Bool := decide (a.st = b.st) && (decide (a.sd = b.sd) && (decide (a.s0 = b.s0) && (decide (a.s1 = b.s1) && (decide (a.s2 = b.s2) && (decide (a.sm = b.sm) && (decide (a.sat = b.sat) && (decide (a.smt = b.smt) && (decide (a.sl = b.sl) && (decide (a.sn = b.sn) && (decide (a.su = b.su) && (decide (a.sg = b.sg) && (decide (a.smu = b.smu) && true))))))))))))
theorem eqD_iff (a b : Mg) : eqD a b = true ↔ a.st = b.st ∧ a.sd = b.sd ∧ a.s0 = b.s0 ∧ a.s1 = b.s1 ∧ a.s2 = b.s2 ∧ a.sm = b.sm ∧ a.sat = b.sat ∧ a.smt = b.smt ∧ a.sl = b.sl ∧ a.sn = b.sn ∧ a.su = b.su ∧ a.sg = b.sg ∧ a.smu = b.smu := by
 simp only [eqD, Bool.and_eq_true, decide_eq_true_eq, and_true]
theorem eqD_run (a b : Mg) (w : World) : (Op.equalIn 10000 46 (.agg a.ds.toArray) (.agg b.ds.toArray)).run Tryz.prog w = .ok (eqD a b) w := by
 unfold Mg.ds
 go_simp
 unfold eqD
 repeat (first | exact rfl | refine ifc ?_)
def eqQ (a b : Mg) : Bool := decide (a.q0 = b.q0) && (decide (a.q1 = b.q1) && (decide (a.q2 = b.q2) && true))
theorem eqQ_iff (a b : Mg) : eqQ a b = true ↔ a.q0 = b.q0 ∧ a.q1 = b.q1 ∧ a.q2 = b.q2 := by
 simp only [eqQ, Bool.and_eq_true, decide_eq_true_eq, and_true]
theorem eqQ_run (a b : Mg) (w : World) : (Op.equalIn 10000 44 (.agg #[.int .i64 a.q0, .int .i64 a.q1, .int .i64 a.q2]) (.agg #[.int .i64 b.q0, .int .i64 b.q1, .int .i64 b.q2])).run Tryz.prog w = .ok (eqQ a b) w := by
 go_simp
 unfold eqQ
 repeat (first | exact rfl | refine ifc ?_)
theorem bare_iff (a b : Mg) : a.bare = b.bare ↔ eqN a b = true ∧ eqT a b = true ∧ a.term = b.term ∧ a.err = b.err ∧ eqQ a b = true ∧ eqD a b = true := by
 rw [eqN_iff, eqT_iff, eqQ_iff, eqD_iff]
 cases a; cases b
 simp only [Mg.bare, Mg.mk.injEq]
 constructor
 ·rintro ⟨h0, h1, h2, h3, h4, h5, h6, h7, h8, h9, _, _, h12, h13, h14, h15, h16, h17, h18, h19, h20, h21, h22, h23, h24, h25, h26, h27, h28, h29, h30, h31, h32, h33, h34, h35, h36, h37, h38⟩
  simp [*]
 ·rintro ⟨⟨h0, h1, h2, h3, h4, h5, h6, h7, h8, h9, h10, h11, h12⟩, ⟨k0, k1, k2, k3, k4, k5⟩, ht, he, ⟨q0, q1, q2⟩, d0, d1, d2, d3, d4, d5, d6, d7, d8, d9, d10, d11, d12⟩
  simp [*]
/-- slices.Equal of two lists of texts. -/
theorem eqs_any (u v : Value) (a b : List (List UInt8)) (w : World) (ha : Txs w u a) (hb : Txs w v b) (hla : a.length ≤ 1000000000000000000) (hlb : b.length ≤ 1000000000000000000) :
  Calls Tryz.prog 134 #[u, v] w (RetB (fun r => r = true ↔ a = b) w) := by
 obtain ⟨ao, ca, rfl, _, _, hca⟩ := ha
 obtain ⟨bo, cb, rfl, _, _, hcb⟩ := hb
 by_cases hl : a.length = b.length
 rotate_left
 ·exact (slices_Equal_string_lens ao bo a.length ca b.length cb w hl).mono fun e w' h => ⟨false, h.1, by simp; intro h; exact hl (by rw [h]), by rw [h.2]; exact Below.refl _ _⟩
 by_cases h0 : a = []
 ·subst h0
  have hb0 : b = [] := List.eq_nil_of_length_eq_zero hl.symm
  subst hb0
  exact (slices_Equal_string_empty ao bo ca 0 cb w (by omega)).mono fun e w' h => ⟨true, h.1, by simp, by rw [h.2]; exact Below.refl _ _⟩
 have hp : 0 < a.length := List.length_pos_iff.2 h0
 obtain ⟨x, xo, rfl, hx, _⟩ := hca 0 hp
 obtain ⟨y, yo, rfl, hy, _⟩ := hcb 0 (by omega)
 have gd : ∀ (l : List (List UInt8)) j (h : j < l.length), (l.map T).getD j ByteArray.empty = T l[j] := fun l j h => by simp [List.getD, h]
 refine (slices_Equal_string x xo a.length ca y yo b.length cb (a.map T) (b.map T) w (by simp) (by simp) (by omega) (by omega) (fun j hj => ?_) (fun j hj => ?_)).mono fun e w' h => ⟨_, h.1, ?_, ?_⟩
 ·simp only [List.length_map] at hj
  obtain ⟨x2, xo2, e2, _, c⟩ := hca j hj
  cases e2
  rw [c, gd a j hj]
 ·simp only [List.length_map] at hj
  obtain ⟨x2, xo2, e2, _, c⟩ := hcb j hj
  cases e2
  rw [c, gd b j hj]
 ·show decide _ = true ↔ _
  rw [decide_eq_true_iff, List.take_of_length_le (by simp), List.take_of_length_le (by simp)]
  exact ⟨fun h => (List.map_inj_right (fun x y h => T_inj h)).1 h, fun h => by rw [h]⟩
 ·obtain ⟨q, hq⟩ := h.2
  rw [hq]
  exact below_drewN w q
/-- slices.Equal of no qids and a list of qids. -/
theorem eqq_any (u v : Value) (b : List (Int × Int × Int)) (w : World) (ha : Qds w u []) (hb : Qds w v b) (hlb : b.length ≤ 1000000000000000000) :
  Calls Tryz.prog 135 #[u, v] w (RetB (fun r => r = true ↔ [] = b) w) := by
 obtain ⟨ao, ca, rfl, _, _, hca⟩ := ha
 obtain ⟨bo, cb, rfl, _, _, hcb⟩ := hb
 clear hca hcb
 generalize hQ : (([] : List (Int × Int × Int)) = b) = Q
 have HQ := lh (show (([] : List (Int × Int × Int)) = b) = Q from hQ)
 clear hQ
 simp only [List.length_nil]
 go_enter Tryz.func135, Tryz.ntmps135
 by_cases hl : b.length = 0
 rotate_left
 ·have HF := lh (show ¬ Q from by rw [← HQ.out]; exact fun h => hl (by rw [← h]; rfl))
  have hl2 : ((0 : Int) != b.length) = true := by simp; omega
  clear hl
  go_wp2_with fail
  go_ret
  exact retB _ (by simp [HF.out]) (Below.refl _ _)
 have HF := lh (show Q from by rw [← HQ.out]; exact (List.eq_nil_of_length_eq_zero hl).symm)
 rw [hl]
 clear hl HQ
 go_wp2_with fail
 refine wp_loop_rounds 1 ?_
 rw [rounds_succ]
 go_wp2_with fail
 go_ret
 exact retB _ (by simp [HF.out]) (Below.refl _ _)
/-- The two messages in places of their own. -/
def SgSt (w W : World) (g : Nat) (a b : Mg) : Prop := W.heap[g]? = some (mgobj a) ∧ W.heap[g + 1]? = some (mgobj b) ∧ Below w.heap.size w W
theorem SgSt.next {w W W' : World} {g : Nat} {a b : Mg} (h : SgSt w W g a b) (hb : Below W.heap.size W W') : SgSt w W' g a b :=
 ⟨(hb.block _ (row_ltP h.1)).trans h.1, (hb.block _ (row_ltP h.2.1)).trans h.2.1, bnext h.2.2 hb⟩
theorem sg_reads {W : World} {g : Nat} {a : Mg} (h : W.heap[g]? = some (mgobj a)) : W.rangeAt g 0 a.cs ∧ W.rangeAt g 22 a.ds ∧ W.cell? ⟨g, 37, none⟩ = some (.int .i64 a.term) ∧ W.cell? ⟨g, 35, none⟩ = some (.int .i64 a.err) ∧ W.cell? ⟨g, 12, none⟩ = some (.int .i64 a.q0) ∧ W.cell? ⟨g, 13, none⟩ = some (.int .i64 a.q1) ∧ W.cell? ⟨g, 14, none⟩ = some (.int .i64 a.q2) ∧ W.cell? ⟨g, 10, none⟩ = some a.names ∧ W.cell? ⟨g, 11, none⟩ = some a.qids :=
 ⟨rng_of h, rng_ds h, by rw [Lib.cell_of_heap h]; rfl, by rw [Lib.cell_of_heap h]; rfl, by rw [Lib.cell_of_heap h]; rfl, by rw [Lib.cell_of_heap h]; rfl, by rw [Lib.cell_of_heap h]; rfl, by rw [Lib.cell_of_heap h]; rfl, by rw [Lib.cell_of_heap h]; rfl⟩
theorem beq_iff_int (x y : Int) : ((x == y) = true) ↔ x = y := by simp
theorem same_any (a b : Mg) (na nb : List (List UInt8)) (qb : List (Int × Int × Int)) (w : World) (ha : MgIn w a na []) (hb : MgIn w b nb qb) :
  Calls Tryz.prog 80 #[.agg a.cs.toArray, .agg b.cs.toArray] w (RetB (fun r => r = true ↔ Eqv a b na nb [] qb) w) := by
 have HS0 := lh (show SgSt w ((w.alloc (mgobj a)).alloc (mgobj b)) w.heap.size a b from ⟨(Lib.alloc_old _ _ _ (by simp)).trans (heap_alloc_new w _), by
  have := heap_alloc_new (w.alloc (mgobj a)) (mgobj b)
  rw [show (w.alloc (mgobj a)).heap.size = w.heap.size + 1 from by simp] at this
  exact this, bnext (alloc_below w _) (alloc_below _ _)⟩)
 have HNA := lh (fun (W : World) => nums_any a ha.ok W)
 have HNB := lh (fun (W : World) => nums_any b hb.ok W)
 have HXA := lh (fun (W : World) => texts_any a ha.ok W)
 have HXB := lh (fun (W : World) => texts_any b hb.ok W)
 have HE1 := eqN_run a b
 have HE2 := eqT_run a b
 have HE3 := eqD_run a b
 have HE4 := eqQ_run a b
 have HT := lh (fun (W : World) (h : Below w.heap.size w W) => eqs_any a.names b.names na nb W (ha.1.below h) (hb.1.below h) ha.2.2.1 hb.2.2.1)
 have HQQ := lh (fun (W : World) (h : Below w.heap.size w W) => eqq_any a.qids b.qids qb W (ha.2.1.below h) (hb.2.1.below h) hb.2.2.2.1)
 have HRA := lh (fun (W : World) (h : SgSt w W w.heap.size a b) => sg_reads h.1)
 have HRB := lh (fun (W : World) (h : SgSt w W w.heap.size a b) => sg_reads h.2.1)
 have HQ := lh (show Eqv a b na nb [] qb ↔ eqN a b = true ∧ eqT a b = true ∧ (a.term == b.term) = true ∧ (a.err == b.err) = true ∧ eqQ a b = true ∧ eqD a b = true ∧ na = nb ∧ [] = qb from by
  unfold Eqv
  rw [bare_iff, beq_iff_int, beq_iff_int]
  simp only [and_assoc])
 have hsa : (Tryz.prog.info? 48).map (·.size) = some a.cs.length := by kernel_rfl
 have hsb : (Tryz.prog.info? 48).map (·.size) = some b.cs.length := by kernel_rfl
 have hsda : (Tryz.prog.info? 46).map (·.size) = some a.ds.length := by kernel_rfl
 have hsdb : (Tryz.prog.info? 46).map (·.size) = some b.ds.length := by kernel_rfl
 have HU := lh (And.intro (Tryz.underlying48) (And.intro (Tryz.underlying46) (And.intro hsa (And.intro hsb (And.intro hsda hsdb)))))
 clear hsa hsb hsda hsdb
 obtain ⟨⟨aa, na2, ca, hna⟩, ⟨da, ka, la, hqa⟩⟩ := ha.ok
 obtain ⟨⟨ab, nb2, cb, hnb⟩, ⟨db, kb, lb, hqb⟩⟩ := hb.ok
 rw [hna, hnb] at HT
 rw [hqa, hqb] at HQQ
 rw [hna, hqa] at HRA
 rw [hnb, hqb] at HRB
 have HR := lh (fun (W : World) (h : SgSt w W w.heap.size a b) => And.intro (HRA.out W h) (HRB.out W h))
 clear HRA HRB hna hnb hqa hqb ha hb
 unfold SgSt at HS0 HR
 have HSN := lh (fun (W W' : World) (h : SgSt w W w.heap.size a b) (hb : Below W.heap.size W W') => h.next hb)
 unfold SgSt at HSN
 unfold mgobj at *
 generalize Eqv a b na nb [] qb = Q at *
 generalize (na = nb) = PN at *
 generalize ([] = qb) = PQ at *
 generalize eqN a b = bN at *
 generalize eqT a b = bT at *
 generalize eqD a b = bD at *
 generalize eqQ a b = bQ at *
 generalize hbt : (a.term == b.term) = bt at *
 generalize hbe : (a.err == b.err) = be at *
 generalize a.cs = csa at *
 generalize a.ds = dsa at *
 generalize a.ns = nsa at *
 generalize a.ts = tsa at *
 generalize a.term = xa37 at *
 generalize a.err = xa35 at *
 generalize a.q0 = xa12 at *
 generalize a.q1 = xa13 at *
 generalize a.q2 = xa14 at *
 generalize b.cs = csb at *
 generalize b.ds = dsb at *
 generalize b.ns = nsb at *
 generalize b.ts = tsb at *
 generalize b.term = xb37 at *
 generalize b.err = xb35 at *
 generalize b.q0 = xb12 at *
 generalize b.q1 = xb13 at *
 generalize b.q2 = xb14 at *
 go_enter Tryz.func80, Tryz.ntmps80
 go_wp2_with fail
 generalize World.alloc _ _ = w1 at *
 generalize hg : w.heap.size = g at *
 have HG := lh hg
 clear hg
 have HS1 := lh (HSN.out _ _ HS0.out (below_drew1 w1))
 refine wp_region_held_drew (S := (fun W' => (W'.rangeAt g 0 csa ∧ W'.rangeAt g 22 dsa ∧ W'.cell? ⟨g, 37, none⟩ = some (.int .i64 xa37) ∧ W'.cell? ⟨g, 35, none⟩ = some (.int .i64 xa35) ∧ W'.cell? ⟨g, 12, none⟩ = some (.int .i64 xa12) ∧ W'.cell? ⟨g, 13, none⟩ = some (.int .i64 xa13) ∧ W'.cell? ⟨g, 14, none⟩ = some (.int .i64 xa14) ∧ W'.cell? ⟨g, 10, none⟩ = some (.slice aa na2 ca) ∧ W'.cell? ⟨g, 11, none⟩ = some (.slice da ka la)) ∧ (W'.rangeAt (g + 1) 0 csb ∧ W'.rangeAt (g + 1) 22 dsb ∧ W'.cell? ⟨(g + 1), 37, none⟩ = some (.int .i64 xb37) ∧ W'.cell? ⟨(g + 1), 35, none⟩ = some (.int .i64 xb35) ∧ W'.cell? ⟨(g + 1), 12, none⟩ = some (.int .i64 xb12) ∧ W'.cell? ⟨(g + 1), 13, none⟩ = some (.int .i64 xb13) ∧ W'.cell? ⟨(g + 1), 14, none⟩ = some (.int .i64 xb14) ∧ W'.cell? ⟨(g + 1), 10, none⟩ = some (.slice ab nb2 cb) ∧ W'.cell? ⟨(g + 1), 11, none⟩ = some (.slice db kb lb)))) (by kernel_rfl) (HR.out _ HS1.out) (fun hHeld => ?_)
 refine tk 0 7 ?_
 refine tkY (v := .agg csa.toArray) 1 8 rfl (yieldsIf_load_mid (by rfl) 48 (.tmp 2) rfl g 0 (by rfl) csa _ (fun _ h => h.1.1) HU.out.1 rfl HU.out.2.2.1) ?_
 refine tk 3 10 ?_
 refine tkY (v := .agg csb.toArray) 4 11 rfl (yieldsIf_load_mid (by rfl) 48 (.tmp 3) rfl (g + 1) 0 (by rfl) csb _ (fun _ h => h.2.1) HU.out.1 rfl HU.out.2.2.2.1) ?_
 refine rdy 2 (fun K hK => ?_)
 go_simp
 go_wp2_with (go_at_call 132; (with_reducible refine (HNA.out _).mono ?_); rintro e v2 ⟨rfl, b2⟩)
 have HS2 := lh (HSN.out _ _ HS1.out b2)
 clear b2
 refine hK.out _ _ (HR.out _ HS2.out) (fun hHeld => ?_)
 clear hK K
 try simp only [Act.put, px1, px2, px3]
 refine rdy 5 (fun K hK => ?_)
 go_simp
 go_wp2_with (go_at_call 132; (with_reducible refine (HNB.out _).mono ?_); rintro e v3 ⟨rfl, b3⟩)
 have HS3 := lh (HSN.out _ _ HS2.out b3)
 clear b3
 refine hK.out _ _ (HR.out _ HS3.out) (fun hHeld => ?_)
 clear hK K
 try simp only [Act.put, px1, px2, px3]
 refine tk 6 13 ?_
 refine tk 7 14 ?_
 cases bN
 ·refine wpAnyH_skips (by kernel_rfl) (fun _ _ _ _ h => h) (by assumption) [(8, 15), (9, 16), (10, 17), (11, 18), (12, 19), (13, 20), (14, 21)] 44 _ _ _ rfl (by kernel_rfl) ?_
  simp only [skipAct, skipListed, Act.put, List.setIfInBounds_toArray, List.set_cons_zero, List.set_cons_succ]
  refine tk 15 22 ?_
  refine tk 16 23 ?_
  refine wpAnyH_skips (by kernel_rfl) (fun _ _ _ _ h => h) (by assumption) [(17, 24), (18, 25), (19, 26), (20, 27), (21, 28)] 37 _ _ _ rfl (by kernel_rfl) ?_
  simp only [skipAct, skipListed, Act.put, List.setIfInBounds_toArray, List.set_cons_zero, List.set_cons_succ]
  refine tk 22 29 ?_
  refine tk 23 30 ?_
  refine wpAnyH_skips (by kernel_rfl) (fun _ _ _ _ h => h) (by assumption) [(24, 31), (25, 32), (26, 33), (27, 34), (28, 35)] 30 _ _ _ rfl (by kernel_rfl) ?_
  simp only [skipAct, skipListed, Act.put, List.setIfInBounds_toArray, List.set_cons_zero, List.set_cons_succ]
  refine tk 29 36 ?_
  refine tk 30 37 ?_
  refine wpAnyH_skips (by kernel_rfl) (fun _ _ _ _ h => h) (by assumption) [(31, 38), (32, 39), (33, 40), (34, 41), (35, 42)] 23 _ _ _ rfl (by kernel_rfl) ?_
  simp only [skipAct, skipListed, Act.put, List.setIfInBounds_toArray, List.set_cons_zero, List.set_cons_succ]
  refine tk 36 43 ?_
  refine tk 37 44 ?_
  refine wpAnyH_skips (by kernel_rfl) (fun _ _ _ _ h => h) (by assumption) [(38, 45), (39, 46), (40, 47), (41, 48), (42, 49)] 16 _ _ _ rfl (by kernel_rfl) ?_
  simp only [skipAct, skipListed, Act.put, List.setIfInBounds_toArray, List.set_cons_zero, List.set_cons_succ]
  refine tk 43 50 ?_
  refine tk 44 51 ?_
  refine wpAnyH_skips (by kernel_rfl) (fun _ _ _ _ h => h) (by assumption) [(45, 52), (46, 53), (47, 54), (48, 55), (49, 56)] 9 _ _ _ rfl (by kernel_rfl) ?_
  simp only [skipAct, skipListed, Act.put, List.setIfInBounds_toArray, List.set_cons_zero, List.set_cons_succ]
  refine tk 50 57 ?_
  refine tk 51 58 ?_
  refine wpAnyH_skips (by kernel_rfl) (fun _ _ _ _ h => h) (by assumption) [(52, 59), (53, 60), (54, 61), (55, 62), (56, 63)] 2 _ _ _ rfl (by kernel_rfl) ?_
  simp only [skipAct, skipListed, Act.put, List.setIfInBounds_toArray, List.set_cons_zero, List.set_cons_succ]
  refine tk 57 64 ?_
  refine tk 58 4 ?_
  refine wpAnyH_done (by kernel_rfl) ?_ _
  clear hHeld
  go_wp2_with fail
  go_ret
  exact retB _ (by rw [HQ.out]; simp) (by rw [HG.out]; exact HS3.out.2.2)
 refine tk 8 15 ?_
 refine tkY (v := .agg csa.toArray) 9 16 rfl (yieldsIf_load_mid (by rfl) 48 (.tmp 2) rfl g 0 (by rfl) csa _ (fun _ h => h.1.1) HU.out.1 rfl HU.out.2.2.1) ?_
 refine tk 11 18 ?_
 refine tkY (v := .agg csb.toArray) 12 19 rfl (yieldsIf_load_mid (by rfl) 48 (.tmp 3) rfl (g + 1) 0 (by rfl) csb _ (fun _ h => h.2.1) HU.out.1 rfl HU.out.2.2.2.1) ?_
 refine rdy 10 (fun K hK => ?_)
 go_simp
 go_wp2_with (go_at_call 133; (with_reducible refine (HXA.out _).mono ?_); rintro e v4 ⟨rfl, b4⟩)
 have HS4 := lh (HSN.out _ _ HS3.out b4)
 clear b4
 refine hK.out _ _ (HR.out _ HS4.out) (fun hHeld => ?_)
 clear hK K
 try simp only [Act.put, px1, px2, px3]
 refine rdy 13 (fun K hK => ?_)
 go_simp
 go_wp2_with (go_at_call 133; (with_reducible refine (HXB.out _).mono ?_); rintro e v5 ⟨rfl, b5⟩)
 have HS5 := lh (HSN.out _ _ HS4.out b5)
 clear b5
 refine hK.out _ _ (HR.out _ HS5.out) (fun hHeld => ?_)
 clear hK K
 try simp only [Act.put, px1, px2, px3]
 refine tk 14 21 ?_
 refine tk 15 22 ?_
 refine tk 16 23 ?_
 cases bT
 ·refine wpAnyH_skips (by kernel_rfl) (fun _ _ _ _ h => h) (by assumption) [(17, 24), (18, 25), (19, 26), (20, 27), (21, 28)] 37 _ _ _ rfl (by kernel_rfl) ?_
  simp only [skipAct, skipListed, Act.put, List.setIfInBounds_toArray, List.set_cons_zero, List.set_cons_succ]
  refine tk 22 29 ?_
  refine tk 23 30 ?_
  refine wpAnyH_skips (by kernel_rfl) (fun _ _ _ _ h => h) (by assumption) [(24, 31), (25, 32), (26, 33), (27, 34), (28, 35)] 30 _ _ _ rfl (by kernel_rfl) ?_
  simp only [skipAct, skipListed, Act.put, List.setIfInBounds_toArray, List.set_cons_zero, List.set_cons_succ]
  refine tk 29 36 ?_
  refine tk 30 37 ?_
  refine wpAnyH_skips (by kernel_rfl) (fun _ _ _ _ h => h) (by assumption) [(31, 38), (32, 39), (33, 40), (34, 41), (35, 42)] 23 _ _ _ rfl (by kernel_rfl) ?_
  simp only [skipAct, skipListed, Act.put, List.setIfInBounds_toArray, List.set_cons_zero, List.set_cons_succ]
  refine tk 36 43 ?_
  refine tk 37 44 ?_
  refine wpAnyH_skips (by kernel_rfl) (fun _ _ _ _ h => h) (by assumption) [(38, 45), (39, 46), (40, 47), (41, 48), (42, 49)] 16 _ _ _ rfl (by kernel_rfl) ?_
  simp only [skipAct, skipListed, Act.put, List.setIfInBounds_toArray, List.set_cons_zero, List.set_cons_succ]
  refine tk 43 50 ?_
  refine tk 44 51 ?_
  refine wpAnyH_skips (by kernel_rfl) (fun _ _ _ _ h => h) (by assumption) [(45, 52), (46, 53), (47, 54), (48, 55), (49, 56)] 9 _ _ _ rfl (by kernel_rfl) ?_
  simp only [skipAct, skipListed, Act.put, List.setIfInBounds_toArray, List.set_cons_zero, List.set_cons_succ]
  refine tk 50 57 ?_
  refine tk 51 58 ?_
  refine wpAnyH_skips (by kernel_rfl) (fun _ _ _ _ h => h) (by assumption) [(52, 59), (53, 60), (54, 61), (55, 62), (56, 63)] 2 _ _ _ rfl (by kernel_rfl) ?_
  simp only [skipAct, skipListed, Act.put, List.setIfInBounds_toArray, List.set_cons_zero, List.set_cons_succ]
  refine tk 57 64 ?_
  refine tk 58 4 ?_
  refine wpAnyH_done (by kernel_rfl) ?_ _
  clear hHeld
  go_wp2_with fail
  go_ret
  exact retB _ (by rw [HQ.out]; simp) (by rw [HG.out]; exact HS5.out.2.2)
 refine tk 17 24 ?_
 refine tk 18 25 ?_
 refine tk 19 26 ?_
 refine tk 20 27 ?_
 refine tk 21 28 ?_
 refine tk 22 29 ?_
 refine tk 23 30 ?_
 cases bt
 ·refine wpAnyH_skips (by kernel_rfl) (fun _ _ _ _ h => h) (by assumption) [(24, 31), (25, 32), (26, 33), (27, 34), (28, 35)] 30 _ _ _ rfl (by kernel_rfl) ?_
  simp only [skipAct, skipListed, Act.put, List.setIfInBounds_toArray, List.set_cons_zero, List.set_cons_succ]
  refine tk 29 36 ?_
  refine tk 30 37 ?_
  refine wpAnyH_skips (by kernel_rfl) (fun _ _ _ _ h => h) (by assumption) [(31, 38), (32, 39), (33, 40), (34, 41), (35, 42)] 23 _ _ _ rfl (by kernel_rfl) ?_
  simp only [skipAct, skipListed, Act.put, List.setIfInBounds_toArray, List.set_cons_zero, List.set_cons_succ]
  refine tk 36 43 ?_
  refine tk 37 44 ?_
  refine wpAnyH_skips (by kernel_rfl) (fun _ _ _ _ h => h) (by assumption) [(38, 45), (39, 46), (40, 47), (41, 48), (42, 49)] 16 _ _ _ rfl (by kernel_rfl) ?_
  simp only [skipAct, skipListed, Act.put, List.setIfInBounds_toArray, List.set_cons_zero, List.set_cons_succ]
  refine tk 43 50 ?_
  refine tk 44 51 ?_
  refine wpAnyH_skips (by kernel_rfl) (fun _ _ _ _ h => h) (by assumption) [(45, 52), (46, 53), (47, 54), (48, 55), (49, 56)] 9 _ _ _ rfl (by kernel_rfl) ?_
  simp only [skipAct, skipListed, Act.put, List.setIfInBounds_toArray, List.set_cons_zero, List.set_cons_succ]
  refine tk 50 57 ?_
  refine tk 51 58 ?_
  refine wpAnyH_skips (by kernel_rfl) (fun _ _ _ _ h => h) (by assumption) [(52, 59), (53, 60), (54, 61), (55, 62), (56, 63)] 2 _ _ _ rfl (by kernel_rfl) ?_
  simp only [skipAct, skipListed, Act.put, List.setIfInBounds_toArray, List.set_cons_zero, List.set_cons_succ]
  refine tk 57 64 ?_
  refine tk 58 4 ?_
  refine wpAnyH_done (by kernel_rfl) ?_ _
  clear hHeld
  go_wp2_with fail
  go_ret
  exact retB _ (by rw [HQ.out]; simp) (by rw [HG.out]; exact HS5.out.2.2)
 refine tk 24 31 ?_
 refine tk 25 32 ?_
 refine tk 26 33 ?_
 refine tk 27 34 ?_
 refine tk 28 35 ?_
 refine tk 29 36 ?_
 refine tk 30 37 ?_
 cases be
 ·refine wpAnyH_skips (by kernel_rfl) (fun _ _ _ _ h => h) (by assumption) [(31, 38), (32, 39), (33, 40), (34, 41), (35, 42)] 23 _ _ _ rfl (by kernel_rfl) ?_
  simp only [skipAct, skipListed, Act.put, List.setIfInBounds_toArray, List.set_cons_zero, List.set_cons_succ]
  refine tk 36 43 ?_
  refine tk 37 44 ?_
  refine wpAnyH_skips (by kernel_rfl) (fun _ _ _ _ h => h) (by assumption) [(38, 45), (39, 46), (40, 47), (41, 48), (42, 49)] 16 _ _ _ rfl (by kernel_rfl) ?_
  simp only [skipAct, skipListed, Act.put, List.setIfInBounds_toArray, List.set_cons_zero, List.set_cons_succ]
  refine tk 43 50 ?_
  refine tk 44 51 ?_
  refine wpAnyH_skips (by kernel_rfl) (fun _ _ _ _ h => h) (by assumption) [(45, 52), (46, 53), (47, 54), (48, 55), (49, 56)] 9 _ _ _ rfl (by kernel_rfl) ?_
  simp only [skipAct, skipListed, Act.put, List.setIfInBounds_toArray, List.set_cons_zero, List.set_cons_succ]
  refine tk 50 57 ?_
  refine tk 51 58 ?_
  refine wpAnyH_skips (by kernel_rfl) (fun _ _ _ _ h => h) (by assumption) [(52, 59), (53, 60), (54, 61), (55, 62), (56, 63)] 2 _ _ _ rfl (by kernel_rfl) ?_
  simp only [skipAct, skipListed, Act.put, List.setIfInBounds_toArray, List.set_cons_zero, List.set_cons_succ]
  refine tk 57 64 ?_
  refine tk 58 4 ?_
  refine wpAnyH_done (by kernel_rfl) ?_ _
  clear hHeld
  go_wp2_with fail
  go_ret
  exact retB _ (by rw [HQ.out]; simp) (by rw [HG.out]; exact HS5.out.2.2)
 refine tk 31 38 ?_
 refine tk 32 39 ?_
 refine tk 33 40 ?_
 refine tk 34 41 ?_
 refine tk 35 42 ?_
 refine tk 36 43 ?_
 refine tk 37 44 ?_
 cases bQ
 ·refine wpAnyH_skips (by kernel_rfl) (fun _ _ _ _ h => h) (by assumption) [(38, 45), (39, 46), (40, 47), (41, 48), (42, 49)] 16 _ _ _ rfl (by kernel_rfl) ?_
  simp only [skipAct, skipListed, Act.put, List.setIfInBounds_toArray, List.set_cons_zero, List.set_cons_succ]
  refine tk 43 50 ?_
  refine tk 44 51 ?_
  refine wpAnyH_skips (by kernel_rfl) (fun _ _ _ _ h => h) (by assumption) [(45, 52), (46, 53), (47, 54), (48, 55), (49, 56)] 9 _ _ _ rfl (by kernel_rfl) ?_
  simp only [skipAct, skipListed, Act.put, List.setIfInBounds_toArray, List.set_cons_zero, List.set_cons_succ]
  refine tk 50 57 ?_
  refine tk 51 58 ?_
  refine wpAnyH_skips (by kernel_rfl) (fun _ _ _ _ h => h) (by assumption) [(52, 59), (53, 60), (54, 61), (55, 62), (56, 63)] 2 _ _ _ rfl (by kernel_rfl) ?_
  simp only [skipAct, skipListed, Act.put, List.setIfInBounds_toArray, List.set_cons_zero, List.set_cons_succ]
  refine tk 57 64 ?_
  refine tk 58 4 ?_
  refine wpAnyH_done (by kernel_rfl) ?_ _
  clear hHeld
  go_wp2_with fail
  go_ret
  exact retB _ (by rw [HQ.out]; simp) (by rw [HG.out]; exact HS5.out.2.2)
 refine tk 38 45 ?_
 refine tkY (v := .agg dsa.toArray) 39 46 rfl (yieldsIf_load_mid (by rfl) 46 (.tmp 45) rfl g 22 (by rfl) dsa _ (fun _ h => h.1.2.1) HU.out.2.1 rfl HU.out.2.2.2.2.1) ?_
 refine tk 40 47 ?_
 refine tkY (v := .agg dsb.toArray) 41 48 rfl (yieldsIf_load_mid (by rfl) 46 (.tmp 47) rfl (g + 1) 22 (by rfl) dsb _ (fun _ h => h.2.2.1) HU.out.2.1 rfl HU.out.2.2.2.2.2) ?_
 refine tk 42 49 ?_
 refine tk 43 50 ?_
 refine tk 44 51 ?_
 cases bD
 ·refine wpAnyH_skips (by kernel_rfl) (fun _ _ _ _ h => h) (by assumption) [(45, 52), (46, 53), (47, 54), (48, 55), (49, 56)] 9 _ _ _ rfl (by kernel_rfl) ?_
  simp only [skipAct, skipListed, Act.put, List.setIfInBounds_toArray, List.set_cons_zero, List.set_cons_succ]
  refine tk 50 57 ?_
  refine tk 51 58 ?_
  refine wpAnyH_skips (by kernel_rfl) (fun _ _ _ _ h => h) (by assumption) [(52, 59), (53, 60), (54, 61), (55, 62), (56, 63)] 2 _ _ _ rfl (by kernel_rfl) ?_
  simp only [skipAct, skipListed, Act.put, List.setIfInBounds_toArray, List.set_cons_zero, List.set_cons_succ]
  refine tk 57 64 ?_
  refine tk 58 4 ?_
  refine wpAnyH_done (by kernel_rfl) ?_ _
  clear hHeld
  go_wp2_with fail
  go_ret
  exact retB _ (by rw [HQ.out]; simp) (by rw [HG.out]; exact HS5.out.2.2)
 refine tk 45 52 ?_
 refine tk 46 53 ?_
 refine tk 47 54 ?_
 refine tk 48 55 ?_
 refine rdy 49 (fun K hK => ?_)
 go_simp
 have hbl := HS5.out.2.2
 go_wp2_with (go_at_call 134; (with_reducible refine (HT.out _ hbl).mono ?_); rintro e v6 ⟨r7, rfl, hk7, b6⟩)
 have HK7 := lh hk7
 clear hk7 hbl
 have HS6 := lh (HSN.out _ _ HS5.out b6)
 clear b6
 refine hK.out _ _ (HR.out _ HS6.out) (fun hHeld => ?_)
 clear hK K
 try simp only [Act.put, px1, px2, px3]
 refine tk 50 57 ?_
 refine tk 51 58 ?_
 cases r7
 ·refine wpAnyH_skips (by kernel_rfl) (fun _ _ _ _ h => h) (by assumption) [(52, 59), (53, 60), (54, 61), (55, 62), (56, 63)] 2 _ _ _ rfl (by kernel_rfl) ?_
  simp only [skipAct, skipListed, Act.put, List.setIfInBounds_toArray, List.set_cons_zero, List.set_cons_succ]
  refine tk 57 64 ?_
  refine tk 58 4 ?_
  refine wpAnyH_done (by kernel_rfl) ?_ _
  clear hHeld
  go_wp2_with fail
  go_ret
  exact retB _ (by rw [HQ.out]; have p7 : ¬ PN := (by simpa using HK7.out); simp [p7]) (by rw [HG.out]; exact HS6.out.2.2)
 refine tk 52 59 ?_
 refine tk 53 60 ?_
 refine tk 54 61 ?_
 refine tk 55 62 ?_
 refine rdy 56 (fun K hK => ?_)
 go_simp
 have hbl := HS6.out.2.2
 go_wp2_with (go_at_call 135; (with_reducible refine (HQQ.out _ hbl).mono ?_); rintro e v7 ⟨r8, rfl, hk8, b7⟩)
 have HK8 := lh hk8
 clear hk8 hbl
 have HS7 := lh (HSN.out _ _ HS6.out b7)
 clear b7
 refine hK.out _ _ (HR.out _ HS7.out) (fun hHeld => ?_)
 clear hK K
 try simp only [Act.put, px1, px2, px3]
 refine tk 57 64 ?_
 refine tk 58 4 ?_
 refine wpAnyH_done (by kernel_rfl) ?_ _
 clear hHeld
 go_wp2_with fail
 go_ret
 exact retB _ (by rw [HQ.out]; have p7 : PN := (by simpa using HK7.out); simp [p7, HK8.out]) (by rw [HG.out]; exact HS7.out.2.2)
theorem onl_in {w : World} {m : Mg} {ns : List (List UInt8)} {qs : List (Int × Int × Int)} (hk : IsReq m.kind) (h : MgIn w m ns qs) : MgIn w (onl m) (if m.kind = 110 then ns else []) [] := by
 obtain ⟨h1, h2, h3, h4, h5, h6, h7⟩ := h
 obtain ⟨e1, e2⟩ := onl_lists m
 have en : (onl m).name = m.name ∨ (onl m).name = [] := by
  rcases hk with h | h | h | h | h | h | h | h | h | h | h | h | h | h
  all_goals (simp [onl, h]; first | done | exact Or.inr rfl)
 have es : (onl m).sn = m.sn ∨ (onl m).sn = [] := by
  rcases hk with h | h | h | h | h | h | h | h | h | h | h | h | h | h
  all_goals (simp [onl, h]; first | done | exact Or.inr rfl)
 refine ⟨?_, ?_, ?_, by simp, ?_, ?_, ?_⟩
 ·rw [e1]; split
  ·exact h1
  ·exact Txs.nil w
 ·rw [e2]; exact Qds.nil w
 ·split
  ·exact h3
  ·simp
 ·split
  ·exact h5
  ·simp
 ·rcases en with e | e <;> rw [e]
  ·exact h6
  ·simp
 ·rcases es with e | e <;> rw [e]
  ·exact h7
  ·simp
theorem mcheck_any (m : Mg) (ns : List (List UInt8)) (qs : List (Int × Int × Int)) (w : World) (hk : IsReq m.kind) (hm : MgIn w m ns qs) : Calls Tryz.prog 35 #[.agg m.cs.toArray] w (RetI (fun e => e = 0 ↔ Chk m ns qs) w) := by
 have HB := lh (alloc_below w (mgobj m))
 have H1 := lh (heap_alloc_new w (mgobj m))
 have hk2 : m.kind % 2 = 0 := by unfold IsReq at hk; omega
 have HNM := lh (fun W => namev_any m.kind hk2 W)
 have HTG := lh (fun W => tagged_any m hk W)
 have HON := lh (fun W => only_any m hk hm.ok W)
 have HSM := lh (fun (W : World) (h : Below w.heap.size w W) => same_any (onl m) m (if m.kind = 110 then ns else []) ns qs W ((onl_in hk hm).below h) (hm.below h))
 have HFL := lh (fun (W : World) (h : Below w.heap.size w W) => fields_any m ns qs W hk (hm.below h))
 have HC := lh (show ∀ W : World, W.heap[w.heap.size]? = some (mgobj m) → W.cell? ⟨w.heap.size, 0, none⟩ = some (.int .i64 m.kind) ∧ W.rangeAt w.heap.size 0 m.cs from fun W h => ⟨by rw [Lib.cell_of_heap h]; rfl, rng_of h⟩)
 have HU := lh (Tryz.underlying48)
 have HSZ := lh (mg_size m)
 have HSL : RowKit.Hid ((Tryz.prog.info? 48).map (·.size) = some m.cs.length) := lh (by kernel_rfl)
 have HQ := lh (show Chk m ns qs ↔ TagOk m ∧ Eqv (onl m) m (if m.kind = 110 then ns else []) ns [] qs ∧ Flds m ns from Iff.rfl)
 have HK := lh hk
 unfold mgobj at *
 clear hk hm hk2
 generalize Chk m ns qs = Q at *
 generalize TagOk m = Q1 at *
 generalize Eqv (onl m) m (if m.kind = 110 then ns else []) ns [] qs = Q2 at *
 generalize Flds m ns = Q3 at *
 generalize (onl m).cs = cso at *
 generalize m.cs = cs at *
 generalize m.kind = kd at *
 go_enter Tryz.func35, Tryz.ntmps35
 go_upto_region 1 with fail
 generalize World.alloc _ _ = w1 at *
 obtain ⟨c0, _⟩ := HC.out _ H1.out
 go_wp2_with fail
 (with_reducible refine (HNM.out _).mono ?_); rintro e w2 ⟨nm, rfl, ⟨_, hnm⟩, b2⟩
 have hnm0 := hnm HK.out
 have k0 : nm.isEmpty = false := by cases nm; exact absurd rfl hnm0; rfl
 have H2 := lh ((b2.block _ (row_ltP H1.out)).trans H1.out)
 have HB2 := lh (bnext HB.out b2)
 clear b2 c0 H1 HB hnm hnm0 HNM HK
 go_wp2_with (refine wpList_load_row rfl 48 _ rfl w.heap.size rfl 48 cs.toArray (0, 0) _ H2.out HU.out rfl HSZ.out ?_)
 (with_reducible refine (HTG.out _).mono ?_); rintro e w3 ⟨tb, rfl, htb, b3⟩
 have H3 := lh ((b3.block _ (row_ltP H2.out)).trans H2.out)
 have HB3 := lh (bnext HB2.out b3)
 clear b3 H2 HB2 HTG
 cases tb with
 | false =>
  have HF := lh (show ¬ Q from fun h => nomatch htb.2 (HQ.out.1 h).1)
  clear htb
  go_wp2_with fail
  go_ret
  exact retE _ (by omega) HF.out HB3.out
 | true =>
 have HQ1 := lh (show Q ↔ Q2 ∧ Q3 from by rw [HQ.out]; simp [htb.1 rfl])
 clear htb HQ
 go_wp2_with fail
 have H4 := lh (((below_drew1 w3).block _ (row_ltP H3.out)).trans H3.out)
 have HB4 := lh (bnext HB3.out (below_drew1 w3))
 have hr4 := (HC.out _ H4.out).2
 refine wp_region_held_drew (S := (fun W' => W'.rangeAt w.heap.size 0 cs)) (by kernel_rfl) hr4 (fun hHeld => ?_)
 refine tkY (v := .agg cs.toArray) 0 13 rfl (yieldsIf_load_mid (by rfl) 48 (.tmp 1) rfl w.heap.size 0 (by rfl) cs _ (fun _ h => h) HU.out rfl HSL.out) ?_
 refine tkY (v := .agg cs.toArray) 2 15 rfl (yieldsIf_load_mid (by rfl) 48 (.tmp 1) rfl w.heap.size 0 (by rfl) cs _ (fun _ h => h) HU.out rfl HSL.out) ?_
 refine rdy 1 (fun K hK => ?_)
 go_simp
 go_wp2_with (go_at_call 81; (with_reducible refine (HON.out _).mono ?_); rintro e w5 ⟨rfl, b5⟩)
 have H5 := lh ((b5.block _ (row_ltP H4.out)).trans H4.out)
 have HB5 := lh (bnext HB4.out b5)
 clear b5
 refine hK.out _ _ (HC.out _ H5.out).2 (fun hHeld => ?_)
 clear hK K
 try simp only [Act.put, px1, px2, px3]
 refine rdy 3 (fun K hK => ?_)
 go_simp
 have hb5 := HB5.out
 go_wp2_with (go_at_call 80; (with_reducible refine (HSM.out _ hb5).mono ?_); rintro e w6 ⟨sb, rfl, hsb, b6⟩)
 have H6 := lh ((b6.block _ (row_ltP H5.out)).trans H5.out)
 have HB6 := lh (bnext HB5.out b6)
 have HSB := lh hsb
 clear b6 hb5 hsb
 refine hK.out _ _ (HC.out _ H6.out).2 (fun hHeld => ?_)
 clear hK K
 try simp only [Act.put, px1, px2, px3]
 refine tk 4 17 ?_
 refine tk 5 12 ?_
 refine wpAnyH_done (by kernel_rfl) ?_ _
 clear hHeld
 cases sb with
 | false =>
  have HF := lh (show ¬ Q from fun h => nomatch HSB.out.2 (HQ1.out.1 h).1)
  clear HSB
  go_wp2_with fail
  go_ret
  exact retE _ (by omega) HF.out HB6.out
 | true =>
 have HQ2 := lh (show Q ↔ Q3 from by rw [HQ1.out]; simp [HSB.out.1 rfl])
 clear HSB HQ1
 go_wp2_with (refine wpList_load_row rfl 48 _ rfl w.heap.size rfl 48 cs.toArray (0, 0) _ H6.out HU.out rfl HSZ.out ?_)
 have hb6 := HB6.out
 (with_reducible refine (HFL.out _ hb6).mono ?_); rintro e w7 ⟨fe, rfl, hfe, b7⟩
 have HB7 := lh (bnext HB6.out b7)
 have HFE := lh hfe
 clear b7 hb6 hfe
 go_wp2_with fail
 go_ret
 exact retI _ (HFE.out.trans HQ2.out.symm) HB7.out
end Go.Proofs.YtfibaopngpfmjaaGreatDoor
