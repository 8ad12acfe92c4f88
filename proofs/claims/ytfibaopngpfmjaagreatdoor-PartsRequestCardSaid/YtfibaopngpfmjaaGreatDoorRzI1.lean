/- The reference's read of a field, first part. Conditions: those that each theorem names. -/
import Derived.Test.YtfibaopngpfmjaaGreatDoorRzG1
import Derived.Test.YtfibaopngpfmjaaGreatDoorRzB6
import Derived.Test.YtfibaopngpfmjaaGreatDoorRzA1
import Derived.Test.YtfibaopngpfmjaaGreatDoorRzC1
import Derived.Test.YtfibaopngpfmjaaGreatDoorRzH1
set_option linter.unusedVariables false
set_option linter.unusedSimpArgs false
set_option maxRecDepth 100000
set_option maxHeartbeats 4000000
namespace Go.Proofs.YtfibaopngpfmjaaGreatDoor
open Go.RowKit Go.Proofs
section
variable {P : Program}
theorem results_two_rows {fn : Func} {p q : Tmp} {ty1 ty2 : TypeId} (h : fn.results = #[.cell p ty1, .cell q ty2]) (tmps : Array Value) (w : World) (g1 g2 : Nat) (t1 t2 : TypeId) (cs1 cs2 : Array Value) (fr1 fr2 : Nat × Nat) (d1 d2 : TypeDesc)
  (hp : tmps.getD p undef = .pointer (some ⟨g1, 0, none⟩)) (hq : tmps.getD q undef = .pointer (some ⟨g2, 0, none⟩)) (hg1 : w.heap[g1]? = some (.cells cs1 t1 fr1)) (hg2 : w.heap[g2]? = some (.cells cs2 t2 fr2))
  (hu1 : P.underlying ty1 = some d1) (hd1 : (match d1 with | .struct _ | .array _ _ => true | _ => false) = true) (hi1 : (P.info? ty1).map (·.size) = some cs1.size)
  (hu2 : P.underlying ty2 = some d2) (hd2 : (match d2 with | .struct _ | .array _ _ => true | _ => false) = true) (hi2 : (P.info? ty2).map (·.size) = some cs2.size) :
  (results fn tmps).run P w = .ok (.tuple #[.agg cs1, .agg cs2]) w := by
 have hp' : tmps[p]?.getD undef = .pointer (some ⟨g1, 0, none⟩) := by simpa using hp
 have hq' : tmps[q]?.getD undef = .pointer (some ⟨g2, 0, none⟩) := by simpa using hq
 simp [results, h, hp', hq', asAddr, run_loadVar_row w g1 t1 ty1 cs1 fr1 d1 hg1 hu1 hd1 hi1, run_loadVar_row w g2 t2 ty2 cs2 fr2 d2 hg2 hu2 hd2 hi2]
end
abbrev inc (s : List UInt8) (b : Bool) : Array Value := #[.string (T s), .bool b]
/-- The boxes of the text that is left, of the message, of the two results. -/
def RdSt (w W : World) (g p r q : Nat) (s : List UInt8) (b : Bool) (m : Mg) : Prop :=
 W.heap[g]? = some (.cells (inc s b) 172) ∧ W.heap[p]? = some (mgobj m) ∧ W.heap[r]? = some (.cells (inc [] false) 172) ∧ W.heap[q]? = some (mgobj mg0) ∧ (g = w.heap.size ∧ p = w.heap.size + 1 ∧ r = w.heap.size + 1 + 1 ∧ q = w.heap.size + 1 + 1 + 1) ∧ Below w.heap.size w W
theorem RdSt.next {w W W' : World} {g p r q : Nat} {s : List UInt8} {b : Bool} {m : Mg} (h : RdSt w W g p r q s b m) (hb : Below W.heap.size W W') : RdSt w W' g p r q s b m :=
 ⟨(hb.block _ (row_ltP h.1)).trans h.1, (hb.block _ (row_ltP h.2.1)).trans h.2.1, (hb.block _ (row_ltP h.2.2.1)).trans h.2.2.1, (hb.block _ (row_ltP h.2.2.2.1)).trans h.2.2.2.1, h.2.2.2.2.1, bnext h.2.2.2.2.2 hb⟩
theorem RdSt.start (w : World) (s : List UInt8) (b : Bool) (m : Mg) : RdSt w ((((w.alloc (.cells (inc s b) 172)).alloc (mgobj m)).alloc (.cells (inc [] false) 172)).alloc (mgobj mg0)) w.heap.size (w.heap.size + 1) (w.heap.size + 1 + 1) (w.heap.size + 1 + 1 + 1) s b m := by
 have h0 := heap_alloc_new w (.cells (inc s b) 172)
 have b0 := alloc_below w (.cells (inc s b) 172)
 generalize hw0 : w.alloc (.cells (inc s b) 172) = w0 at *
 have e0 : w0.heap.size = w.heap.size + 1 := by rw [← hw0]; simp
 have h1 := heap_alloc_new w0 (mgobj m)
 have b1 := alloc_below w0 (mgobj m)
 generalize hw1 : w0.alloc (mgobj m) = w1 at *
 have e1 : w1.heap.size = w.heap.size + 1 + 1 := by rw [← hw1, ← e0]; simp
 have h2 := heap_alloc_new w1 (.cells (inc [] false) 172)
 have b2 := alloc_below w1 (.cells (inc [] false) 172)
 generalize hw2 : w1.alloc (.cells (inc [] false) 172) = w2 at *
 have e2 : w2.heap.size = w.heap.size + 1 + 1 + 1 := by rw [← hw2, ← e1]; simp
 have h3 := heap_alloc_new w2 (mgobj mg0)
 have b3 := alloc_below w2 (mgobj mg0)
 generalize hw3 : w2.alloc (mgobj mg0) = w3 at *
 rw [e0] at h1
 rw [e1] at h2
 rw [e2] at h3
 have c0 := (b1.block _ (row_ltP h0)).trans h0
 have c0 := (b2.block _ (row_ltP c0)).trans c0
 have c0 := (b3.block _ (row_ltP c0)).trans c0
 have c1 := (b2.block _ (row_ltP h1)).trans h1
 have c1 := (b3.block _ (row_ltP c1)).trans c1
 have c2 := (b3.block _ (row_ltP h2)).trans h2
 exact ⟨c0, c1, c2, h3, ⟨rfl, rfl, rfl, rfl⟩, bnext (bnext (bnext b0 b1) b2) b3⟩
/-- A store into one block of the four keeps the other three. -/
theorem far_setCell {W : World} {g k i : Nat} {o : Obj} (h : W.heap[g]? = some o) (hne : k ≠ g) (v : Value) : (W.setCell ⟨k, i, none⟩ v).heap[g]? = some o := by
 have hg := grown_setG (below_grownBy (Below.refl _ W) (some k)) i v
 exact (hg.block _ (row_ltP h) (fun e => hne (Option.some.inj e).symm)).trans h
theorem RdSt.setM {w W : World} {g p r q : Nat} {s : List UInt8} {b : Bool} {m m' : Mg} (h : RdSt w W g p r q s b m) (i : Nat) (v : Value) (e : m.cs.toArray.setIfInBounds i v = m'.cs.toArray) : RdSt w (W.setCell ⟨p, i, none⟩ v) g p r q s b m' := by
 obtain ⟨h1, h2, h3, h4, ⟨eg, ep, er, eq⟩, hb⟩ := h
 exact ⟨far_setCell h1 (by omega) v, mg_set h2 i v e, far_setCell h3 (by omega) v, far_setCell h4 (by omega) v, ⟨eg, ep, er, eq⟩, hb.setCell (p := ⟨p, i, none⟩) (by show w.heap.size ≤ p; omega) v⟩
theorem RdSt.setX {w W : World} {g p r q : Nat} {s s' : List UInt8} {b b' : Bool} {m : Mg} (h : RdSt w W g p r q s b m) : RdSt w ((W.setCell ⟨g, 0, none⟩ (.string (T s'))).setCell ⟨g, 1, none⟩ (.bool b')) g p r q s' b' m := by
 obtain ⟨h1, h2, h3, h4, ⟨eg, ep, er, eq⟩, hb⟩ := h
 refine ⟨?_, far_setCell (far_setCell h2 (by omega) _) (by omega) _, far_setCell (far_setCell h3 (by omega) _) (by omega) _, far_setCell (far_setCell h4 (by omega) _) (by omega) _, ⟨eg, ep, er, eq⟩, (hb.setCell (p := ⟨g, 0, none⟩) (by show w.heap.size ≤ g; omega) _).setCell (p := ⟨g, 1, none⟩) (by show w.heap.size ≤ g; omega) _⟩
 exact heap_setCell_same _ g 1 _ _ (.bool b') (heap_setCell_same W g 0 _ _ (.string (T s')) h1)
/-- The cells of the text that is left. -/
theorem RdSt.cells {w W : World} {g p r q : Nat} {s : List UInt8} {b : Bool} {m : Mg} (h : RdSt w W g p r q s b m) : (W.cell? ⟨g, 0, none⟩ = some (.string (T s)) ∧ W.cell? ⟨g, 1, none⟩ = some (.bool b)) ∧ W.frozen? ⟨g, 0, none⟩ = false ∧ W.frozen? ⟨g, 1, none⟩ = false :=
 ⟨⟨by rw [Lib.cell_of_heap h.1]; rfl, by rw [Lib.cell_of_heap h.1]; rfl⟩, Lib.frozen_of_heap h.1 _, Lib.frozen_of_heap h.1 _⟩
/-- A slice that lies from a place on. -/
def NewF (B : Nat) (v : Value) : Prop := ∀ ad n c, v = .slice (some ad) n c → B ≤ ad.block
/-- What read and readList return. -/
def RdSay (n : Nat) (f : Int) (m : Mg) (w : World) (e : Ending) (w' : World) : Prop :=
 ∃ s b m' ns qs, e = .returned (.tuple #[.agg (inc s b), .agg m'.cs.toArray]) ∧ (s.length ≤ n ∧ MgIn w' m' ns qs ∧ (m'.names = m.names ∨ (f = 12 ∧ NewF w.heap.size m'.names)) ∧ (m'.qids = m.qids ∨ (f = 13 ∧ NewF w.heap.size m'.qids))) ∧ Below w.heap.size w w'
theorem rdSay {n : Nat} {f : Int} {m : Mg} {w w' : World} (s : List UInt8) (b : Bool) (m' : Mg) (ns : List (List UInt8)) (qs : List (Int × Int × Int)) (h : s.length ≤ n ∧ MgIn w' m' ns qs ∧ (m'.names = m.names ∨ (f = 12 ∧ NewF w.heap.size m'.names)) ∧ (m'.qids = m.qids ∨ (f = 13 ∧ NewF w.heap.size m'.qids))) (hb : Below w.heap.size w w') : RdSay n f m w (.returned (.tuple #[.agg (inc s b), .agg m'.cs.toArray])) w' := ⟨s, b, m', ns, qs, rfl, h, hb⟩
theorem in_size (s : List UInt8) (b : Bool) : (Tryz.prog.info? 172).map (·.size) = some (inc s b).size := by show _ = some 2; kernel_rfl
theorem setRow_far {W : World} {k g : Nat} {o : Obj} (cs : Array Value) (h : W.heap[g]? = some o) (hne : k ≠ g) : (W.setRow k cs).heap[g]? = some o :=
 ((grown_setRow cs).block _ (row_ltP h) (fun e => hne (Option.some.inj e).symm)).trans h
theorem Gr2.of_below {g p : Nat} {w w' : World} (h : Below w.heap.size w w') : Gr2 g p w w' := ⟨⟨h.os, h.tape, h.output⟩, h.size, fun i hi _ _ => h.block i hi⟩
/-- The lists lie in memory still when the results are stored. -/
def FinOk (w W : World) (r q : Nat) (m : Mg) (ns : List (List UInt8)) (qs : List (Int × Int × Int)) : Prop := ∀ W', Below w.heap.size w W' → Gr2 r q W W' → MgIn W' m ns qs
theorem finOk_old {w W : World} {r q : Nat} {m : Mg} {ns : List (List UInt8)} {qs : List (Int × Int × Int)} (h : MgIn w m ns qs) : FinOk w W r q m ns qs := fun _ hb _ => h.below hb
theorem finOk_names {w W : World} {r q : Nat} {m : Mg} {ns : List (List UInt8)} {qs : List (Int × Int × Int)} (h : MgIn w m ns qs) (v : Value) (l : List (List UInt8)) (ho : W.ownsRow w.heap.size 9 1 v l.length (txv l)) (hl : l.length ≤ 1000000000000000000) (hs : ∀ s ∈ l, s.length ≤ 1000000000000000000)
  {c1 c2 : Array Value} {f1 f2 : Nat × Nat} (h1 : W.heap[r]? = some (.cells c1 172 f1)) (h2 : W.heap[q]? = some (.cells c2 48 f2)) : FinOk w W r q { m with names := v } l qs := fun W' hb hg =>
 ⟨(txs_own ho).1.gr2 (fun ad n c e => by subst e; exact ⟨fun e => own_neP ho h1 (by decide) (congrArg some e), fun e => own_neP ho h2 (by decide) (congrArg some e)⟩) hg, h.2.1.below hb, hl, h.2.2.2.1, hs, h.2.2.2.2.2⟩
theorem finOk_qids {w W : World} {r q : Nat} {m : Mg} {ns : List (List UInt8)} {qs : List (Int × Int × Int)} (h : MgIn w m ns qs) (v : Value) (l : List (Int × Int × Int)) (ho : W.ownsRow w.heap.size 44 3 v l.length (qdv l)) (hl : l.length ≤ 1000000000000000000)
  {c1 c2 : Array Value} {f1 f2 : Nat × Nat} (h1 : W.heap[r]? = some (.cells c1 172 f1)) (h2 : W.heap[q]? = some (.cells c2 48 f2)) : FinOk w W r q { m with qids := v } ns l := fun W' hb hg =>
 ⟨h.1.below hb, (qds_own ho).1.gr2 (fun ad n c e => by subst e; exact ⟨fun e => own_neP ho h1 (by decide) (congrArg some e), fun e => own_neP ho h2 (by decide) (congrArg some e)⟩) hg, h.2.2.1, hl, h.2.2.2.2⟩
/-- An own row is stored to, or laid anew: the boxes stand. -/
theorem RdSt.own {w W W' : World} {g p r q : Nat} {s : List UInt8} {b : Bool} {m : Mg} {e : TypeId} {z n : Nat} {v : Value} {xs : List Value} (h : RdSt w W g p r q s b m) (ho : W.ownsRow w.heap.size e z v n xs) (h1 : e ≠ 172) (h2 : e ≠ 48) (hg : W.grownBy W' v.ownBlock) : RdSt w W' g p r q s b m := by
 obtain ⟨k1, k2, k3, k4, k5, kb⟩ := h
 refine ⟨(hg.block _ (row_ltP k1) (fun x => own_neP ho k1 h1 x.symm)).trans k1, (hg.block _ (row_ltP k2) (fun x => own_neP ho k2 h2 x.symm)).trans k2, (hg.block _ (row_ltP k3) (fun x => own_neP ho k3 h1 x.symm)).trans k3, (hg.block _ (row_ltP k4) (fun x => own_neP ho k4 h2 x.symm)).trans k4, k5, kb.trans ⟨hg.os, hg.tape, hg.output, hg.size, fun i hi => hg.block i (by have := kb.size; omega) (fun x => by have := (ho.lt i x.symm).1; omega)⟩⟩
theorem mg_sizeL (m : Mg) : (Tryz.prog.info? 48).map (·.size) = some m.cs.length := by show _ = some 39; kernel_rfl
/-- What the loads of the end hang on. -/
def Sx (y p : Nat) (s : List UInt8) (b : Bool) (m : Mg) (W : World) : Prop := (W.cell? ⟨y, 0, none⟩ = some (.string (T s)) ∧ W.cell? ⟨y, 1, none⟩ = some (.bool b)) ∧ W.rangeAt p 0 m.cs
theorem sx_of {W : World} {y p : Nat} {s : List UInt8} {b : Bool} {m : Mg} (h1 : W.heap[y]? = some (.cells (inc s b) 172)) (h2 : W.heap[p]? = some (mgobj m)) : Sx y p s b m W :=
 ⟨⟨by rw [Lib.cell_of_heap h1]; rfl, by rw [Lib.cell_of_heap h1]; rfl⟩, rng_of h2⟩
theorem sx_start {w W : World} {g p r q y : Nat} {s0 s : List UInt8} {b0 b : Bool} {m : Mg} (HS : RdSt w W g p r q s0 b0 m) (HY : W.heap[y]? = some (.cells (inc s b) 172)) : Sx y p s b m W.drew :=
 sx_of (((below_drew1 W).block _ (row_ltP HY)).trans HY) (((below_drew1 W).block _ (row_ltP HS.2.1)).trans HS.2.1)
/-- The message's load. -/
theorem yM {ops : Array Oper} {y p : Nat} {s : List UInt8} {b : Bool} {m : Mg} {o : Oper} {a : Act} (hw : Region.wanted o (yielded ops a.tmps) = true) (x : Operand) (ho : o.op = .load 48 x) (hx : a.eval x = .pointer (some ⟨p, 0, none⟩)) :
  YieldsIf Tryz.prog ops (Sx y p s b m) o (.agg m.cs.toArray) a :=
 yieldsIf_load_mid hw 48 x ho p 0 hx m.cs _ (fun _ h => h.2) Tryz.underlying48 rfl (mg_sizeL m)
/-- The end of read and readList: the two results are stored. -/
theorem rd_fin {md : Region.Mode} {ops : Array Oper} {Q : Exit → Act → World → Prop} {n : Nat} {listed : Array Bool} {a : Act} {w W : World} {g p r q y : Nat} {s0 s : List UInt8} {b0 b : Bool} {m : Mg} (i j : Nat) (HS : RdSt w W g p r q s0 b0 m) (HY : W.heap[y]? = some (.cells (inc s b) 172)) (hyr : r ≠ y) (hyq : q ≠ y) (hok : m.ok) (bb : Bool)
  (h : ∀ wb, wb.heap[r]? = some (.cells (inc s bb) 172) → wb.heap[q]? = some (mgobj m) → Below w.heap.size w wb → Gr2 r q W wb → Q .normal a wb)
  {oi oj : Oper} {x1 y1 x2 y2 : Operand} (hi : ops[i]? = some oi := by rfl) (hj : ops[j]? = some oj := by rfl)
  (ri : Region.ready md ops listed = [i] := by kernel_rfl) (rj : Region.ready md ops (listed.setIfInBounds i true) = [j] := by kernel_rfl) (rd : Region.ready md ops ((listed.setIfInBounds i true).setIfInBounds j true) = [] := by kernel_rfl)
  (gi : oi.guard = none := by rfl) (oi_ : oi.op = .store 172 x1 y1 := by rfl) (di : oi.dst = none := by rfl) (e1 : a.eval x1 = .pointer (some ⟨r, 0, none⟩) := by rfl) (e2 : a.eval y1 = .agg (inc s bb) := by rfl)
  (gj : oj.guard = none := by rfl) (oj_ : oj.op = .store 48 x2 y2 := by rfl) (dj : oj.dst = none := by rfl) (e3 : a.eval x2 = .pointer (some ⟨q, 0, none⟩) := by rfl) (e4 : a.eval y2 = .agg m.cs.toArray := by rfl) :
  wpAnyH Tryz.prog md ops Q (Sx y p s b m) (n + 1 + 1) listed a W.drew := by
 obtain ⟨_, K2, K3, K4, ⟨eg, ep, er, eq⟩, KB⟩ := HS
 have hrq : r ≠ q := by omega
 have hpr : r ≠ p := by omega
 have hpq : q ≠ p := by omega
 have bd := below_drew1 W
 have H1 := (bd.block _ (row_ltP HY)).trans HY
 have H2 := (bd.block _ (row_ltP K2)).trans K2
 have H3 := (bd.block _ (row_ltP K3)).trans K3
 have H4 := (bd.block _ (row_ltP K4)).trans K4
 have HB0 := bnext KB bd
 have HG0 := Gr2.of_below (g := r) (p := q) bd
 have hai : (inc s bb).all (·.oneCell') = true := by simp [inc, Value.oneCell']
 refine wpAnyH_ready ri (by simp) (AllReadyH.cons hi (fun K hK => ?_) AllReadyH.nil)
 refine step_store_row gi 172 _ _ oi_ di r (inc s bb) e1 e2 172 (inc [] false) H3 (in_size s bb) rfl hai ?_
 have X1 := setRow_far (inc s bb) H1 hyr
 have X2 := setRow_far (inc s bb) H2 hpr
 have X4 := setRow_far (inc s bb) H4 hrq
 have X3 := heap_setRow_same (cs' := inc s bb) H3
 have XB := below_setRow HB0 (by omega : w.heap.size ≤ r) (inc s bb)
 have XG := HG0.trans (Gr2.of_g (p := q) (grown_setRow (g := r) (inc s bb)))
 refine hK.out _ _ (sx_of X1 X2) (fun _ => ?_)
 refine wpAnyH_ready rj (by simp) (AllReadyH.cons hj (fun K hK => ?_) AllReadyH.nil)
 refine step_store_row gj 48 _ _ oj_ dj q m.cs.toArray e3 e4 48 mg0.cs.toArray X4 (mg_size m) rfl (mg_all m hok) ?_
 refine hK.out _ _ (sx_of (setRow_far m.cs.toArray X1 hyq) (setRow_far m.cs.toArray X2 hpq)) (fun _ => ?_)
 exact wpAnyH_done rd (h _ (setRow_far m.cs.toArray X3 hrq.symm) (heap_setRow_same (cs' := m.cs.toArray) X4) (below_setRow XB (by omega : w.heap.size ≤ q) m.cs.toArray) (XG.trans (Gr2.of_p (g := r) (grown_setRow (g := q) m.cs.toArray)))) _
theorem rd_ret {fn : Func} {n : Nat} {f : Int} {m0 : Mg} {w wb : World} {a : Act} {r q : Nat} {s : List UInt8} {b : Bool} {m : Mg} {ns : List (List UInt8)} {qs : List (Int × Int × Int)} (hres : fn.results = #[.cell 6 172, .cell 7 48])
  (h6 : a.tmps.getD 6 undef = .pointer (some ⟨r, 0, none⟩)) (h7 : a.tmps.getD 7 undef = .pointer (some ⟨q, 0, none⟩)) (hd : a.defers = []) (Y3 : wb.heap[r]? = some (.cells (inc s b) 172)) (Y4 : wb.heap[q]? = some (mgobj m))
  (h : s.length ≤ n ∧ MgIn wb m ns qs ∧ (m.names = m0.names ∨ (f = 12 ∧ NewF w.heap.size m.names)) ∧ (m.qids = m0.qids ∨ (f = 13 ∧ NewF w.heap.size m.qids))) (YB : Below w.heap.size w wb) : bodyPost Tryz.prog fn (RdSay n f m0 w) .ret a wb :=
 bodyPost_ret (results_two_rows hres _ _ r q 172 48 (inc s b) m.cs.toArray (0, 0) (0, 0) _ _ h6 h7 Y3 Y4 Tryz.underlying172 rfl (in_size s b) Tryz.underlying48 rfl (mg_size m)) hd (rdSay s b m ns qs h YB)
theorem rread_1 (s : List UInt8) (b : Bool) (m : Mg) (ns : List (List UInt8)) (qs : List (Int × Int × Int)) (w : World) (hm : MgIn w m ns qs) (hs : s.length ≤ 9000000000) : Calls Tryz.prog 122 #[.agg (inc s b), .agg m.cs.toArray, .int .i64 1] w (RdSay s.length 1 m w) := by
 have HN := lh (fun W => show Calls Tryz.prog 120 #[.agg (inc s b), .int .i64 4] W (InI s.length 4 W) from r9num_any s b 4 (by omega) (by omega) W hs)
 have HS0 := lh (RdSt.start w s b m)
 have HOKM := lh hm.ok
 have HM := lh hm
 go_enter Tryz.func122, Tryz.ntmps122
 go_upto_region 1 with fail
 generalize hw1 : World.alloc _ _ = w1
 have HS1 := lh (show RdSt w w1 w.heap.size (w.heap.size + 1) (w.heap.size + 1 + 1) (w.heap.size + 1 + 1 + 1) s b m from by rw [← hw1]; exact HS0.out)
 clear hw1 HS0 hm
 generalize w.heap.size + 1 + 1 + 1 = q at HS1 ⊢
 generalize w.heap.size + 1 + 1 = r at HS1 ⊢
 generalize w.heap.size + 1 = p at HS1 ⊢
 generalize w.heap.size = g at HS1 ⊢
 obtain ⟨⟨c0, c1⟩, _, _⟩ := HS1.out.cells
 go_wp2_with fail
 (with_reducible refine (HN.out _).mono ?_); rintro e w2 ⟨s1, b1, k1, rfl, ⟨l1, _⟩, b2⟩
 clear c0 c1 HN
 have HS2 := lh (HS1.out.next b2)
 obtain ⟨⟨c0, c1⟩, f0, f1⟩ := HS2.out.cells
 obtain ⟨d0, e0⟩ := (show ∀ W : World, W.heap[p]? = some (mgobj m) → (W.cell? ⟨p, 6, none⟩ = some (.int .i64 m.msize) ∧ W.frozen? ⟨p, 6, none⟩ = false) from fun W h => ⟨by rw [Lib.cell_of_heap h]; rfl, Lib.frozen_of_heap h _⟩) _ HS2.out.2.1
 have HS3 := lh ((HS2.out.setX (s' := s1) (b' := b1)).setM (m' := { m with msize := k1 }) 6 (.int .i64 k1) rfl)
 clear b2 HS1 HS2
 go_upto_region 39 with fail
 skip; try (rename (∀ (a : Act) (w : World), Code.wp _ _ _ a w → _) => ax1; have AX1 := lh ax1; clear ax1)
 generalize (((w2.setCell ⟨g, 0, none⟩ (.string (T s1))).setCell ⟨g, 1, none⟩ (.bool b1)).setCell ⟨p, 6, none⟩ (.int .i64 k1)) = w9 at *
 clear c0 c1 f0 f1 d0 e0
 have HOK := lh (show ({ m with msize := k1 } : Mg).ok from HOKM.out)
 have HFIN := lh (finOk_old (W := w9) (r := r) (q := q) (show MgIn w ({ m with msize := k1 } : Mg) ns qs from ⟨HM.out.1, HM.out.2.1, HM.out.2.2.1, HM.out.2.2.2.1, HM.out.2.2.2.2.1, HM.out.2.2.2.2.2.1, HM.out.2.2.2.2.2.2⟩))
 have HLE := lh (show s1.length ≤ s.length from l1)
 have HN12 := lh (show ({ m with msize := k1 } : Mg).names = m.names ∨ ((1 : Int) = 12 ∧ NewF w.heap.size ({ m with msize := k1 } : Mg).names) from Or.inl rfl)
 have HN13 := lh (show ({ m with msize := k1 } : Mg).qids = m.qids ∨ ((1 : Int) = 13 ∧ NewF w.heap.size ({ m with msize := k1 } : Mg).qids) from Or.inl rfl)
 clear HM HOKM
 generalize ({ m with msize := k1 } : Mg) = mx at *
 have HS := HS3
 clear HS3
 have HY := lh HS.out.1
 have hyr : r ≠ g := by have := HS.out.2.2.2.2.1; omega
 have hyq : q ≠ g := by have := HS.out.2.2.2.2.1; omega
 have hS0 := sx_start HS.out HY.out
 refine wp_region_held_drew (S := (Sx g p s1 b1 mx)) (by kernel_rfl) hS0 (fun hHeld => ?_)
 refine tk2 (v := .agg (inc s1 b1)) 0 159 ?_
 refine tkY (v := .agg mx.cs.toArray) 1 160 rfl (yM (by rfl) _ rfl (by rfl)) ?_
 refine rd_fin 2 3 HS.out HY.out hyr hyq HOK.out b1 (fun wb Y3 Y4 YB YG => ?_)
 clear hHeld hS0
 try have ax1 := AX1.out
 go_wp2_with fail
 exact rd_ret Tryz.results122 rfl rfl rfl Y3 Y4 ⟨HLE.out, HFIN.out _ YB YG, HN12.out, HN13.out⟩ YB
theorem rread_2 (s : List UInt8) (b : Bool) (m : Mg) (ns : List (List UInt8)) (qs : List (Int × Int × Int)) (w : World) (hm : MgIn w m ns qs) (hs : s.length ≤ 9000000000) : Calls Tryz.prog 122 #[.agg (inc s b), .agg m.cs.toArray, .int .i64 2] w (RdSay s.length 2 m w) := by
 have HN := lh (fun W => show Calls Tryz.prog 184 #[.agg (inc s b)] W (InS s.length W) from r9counted_any s b W hs)
 have HS0 := lh (RdSt.start w s b m)
 have HOKM := lh hm.ok
 have HM := lh hm
 go_enter Tryz.func122, Tryz.ntmps122
 go_upto_region 1 with fail
 generalize hw1 : World.alloc _ _ = w1
 have HS1 := lh (show RdSt w w1 w.heap.size (w.heap.size + 1) (w.heap.size + 1 + 1) (w.heap.size + 1 + 1 + 1) s b m from by rw [← hw1]; exact HS0.out)
 clear hw1 HS0 hm
 generalize w.heap.size + 1 + 1 + 1 = q at HS1 ⊢
 generalize w.heap.size + 1 + 1 = r at HS1 ⊢
 generalize w.heap.size + 1 = p at HS1 ⊢
 generalize w.heap.size = g at HS1 ⊢
 obtain ⟨⟨c0, c1⟩, _, _⟩ := HS1.out.cells
 go_wp2_with fail
 (with_reducible refine (HN.out _).mono ?_); rintro e w2 ⟨s1, b1, t1, rfl, ⟨l1, l2⟩, b2⟩
 clear c0 c1 HN
 have HS2 := lh (HS1.out.next b2)
 obtain ⟨⟨c0, c1⟩, f0, f1⟩ := HS2.out.cells
 obtain ⟨d0, e0⟩ := (show ∀ W : World, W.heap[p]? = some (mgobj m) → (W.cell? ⟨p, 7, none⟩ = some (.string (T m.version)) ∧ W.frozen? ⟨p, 7, none⟩ = false) from fun W h => ⟨by rw [Lib.cell_of_heap h]; rfl, Lib.frozen_of_heap h _⟩) _ HS2.out.2.1
 have HS3 := lh ((HS2.out.setX (s' := s1) (b' := b1)).setM (m' := { m with version := t1 }) 7 (.string (T t1)) rfl)
 clear b2 HS1 HS2
 go_upto_region 39 with fail
 skip; try (rename (∀ (a : Act) (w : World), Code.wp _ _ _ a w → _) => ax1; have AX1 := lh ax1; clear ax1)
 generalize (((w2.setCell ⟨g, 0, none⟩ (.string (T s1))).setCell ⟨g, 1, none⟩ (.bool b1)).setCell ⟨p, 7, none⟩ (.string (T t1))) = w9 at *
 clear c0 c1 f0 f1 d0 e0
 have HOK := lh (show ({ m with version := t1 } : Mg).ok from HOKM.out)
 have HFIN := lh (finOk_old (W := w9) (r := r) (q := q) (show MgIn w ({ m with version := t1 } : Mg) ns qs from ⟨HM.out.1, HM.out.2.1, HM.out.2.2.1, HM.out.2.2.2.1, HM.out.2.2.2.2.1, HM.out.2.2.2.2.2.1, HM.out.2.2.2.2.2.2⟩))
 have HLE := lh (show s1.length ≤ s.length from l1)
 have HN12 := lh (show ({ m with version := t1 } : Mg).names = m.names ∨ ((2 : Int) = 12 ∧ NewF w.heap.size ({ m with version := t1 } : Mg).names) from Or.inl rfl)
 have HN13 := lh (show ({ m with version := t1 } : Mg).qids = m.qids ∨ ((2 : Int) = 13 ∧ NewF w.heap.size ({ m with version := t1 } : Mg).qids) from Or.inl rfl)
 clear HM HOKM
 generalize ({ m with version := t1 } : Mg) = mx at *
 have HS := HS3
 clear HS3
 have HY := lh HS.out.1
 have hyr : r ≠ g := by have := HS.out.2.2.2.2.1; omega
 have hyq : q ≠ g := by have := HS.out.2.2.2.2.1; omega
 have hS0 := sx_start HS.out HY.out
 refine wp_region_held_drew (S := (Sx g p s1 b1 mx)) (by kernel_rfl) hS0 (fun hHeld => ?_)
 refine tk2 (v := .agg (inc s1 b1)) 0 159 ?_
 refine tkY (v := .agg mx.cs.toArray) 1 160 rfl (yM (by rfl) _ rfl (by rfl)) ?_
 refine rd_fin 2 3 HS.out HY.out hyr hyq HOK.out b1 (fun wb Y3 Y4 YB YG => ?_)
 clear hHeld hS0
 try have ax1 := AX1.out
 go_wp2_with fail
 exact rd_ret Tryz.results122 rfl rfl rfl Y3 Y4 ⟨HLE.out, HFIN.out _ YB YG, HN12.out, HN13.out⟩ YB
theorem rread_3 (s : List UInt8) (b : Bool) (m : Mg) (ns : List (List UInt8)) (qs : List (Int × Int × Int)) (w : World) (hm : MgIn w m ns qs) (hs : s.length ≤ 9000000000) : Calls Tryz.prog 122 #[.agg (inc s b), .agg m.cs.toArray, .int .i64 3] w (RdSay s.length 3 m w) := by
 have HN := lh (fun W => show Calls Tryz.prog 184 #[.agg (inc s b)] W (InS s.length W) from r9counted_any s b W hs)
 have HS0 := lh (RdSt.start w s b m)
 have HOKM := lh hm.ok
 have HM := lh hm
 go_enter Tryz.func122, Tryz.ntmps122
 go_upto_region 1 with fail
 generalize hw1 : World.alloc _ _ = w1
 have HS1 := lh (show RdSt w w1 w.heap.size (w.heap.size + 1) (w.heap.size + 1 + 1) (w.heap.size + 1 + 1 + 1) s b m from by rw [← hw1]; exact HS0.out)
 clear hw1 HS0 hm
 generalize w.heap.size + 1 + 1 + 1 = q at HS1 ⊢
 generalize w.heap.size + 1 + 1 = r at HS1 ⊢
 generalize w.heap.size + 1 = p at HS1 ⊢
 generalize w.heap.size = g at HS1 ⊢
 obtain ⟨⟨c0, c1⟩, _, _⟩ := HS1.out.cells
 go_wp2_with fail
 (with_reducible refine (HN.out _).mono ?_); rintro e w2 ⟨s1, b1, t1, rfl, ⟨l1, l2⟩, b2⟩
 clear c0 c1 HN
 have HS2 := lh (HS1.out.next b2)
 obtain ⟨⟨c0, c1⟩, f0, f1⟩ := HS2.out.cells
 obtain ⟨d0, e0⟩ := (show ∀ W : World, W.heap[p]? = some (mgobj m) → (W.cell? ⟨p, 38, none⟩ = some (.string (T m.session)) ∧ W.frozen? ⟨p, 38, none⟩ = false) from fun W h => ⟨by rw [Lib.cell_of_heap h]; rfl, Lib.frozen_of_heap h _⟩) _ HS2.out.2.1
 have HS3 := lh ((HS2.out.setX (s' := s1) (b' := b1)).setM (m' := { m with session := t1 }) 38 (.string (T t1)) rfl)
 clear b2 HS1 HS2
 go_upto_region 39 with fail
 skip; try (rename (∀ (a : Act) (w : World), Code.wp _ _ _ a w → _) => ax1; have AX1 := lh ax1; clear ax1)
 generalize (((w2.setCell ⟨g, 0, none⟩ (.string (T s1))).setCell ⟨g, 1, none⟩ (.bool b1)).setCell ⟨p, 38, none⟩ (.string (T t1))) = w9 at *
 clear c0 c1 f0 f1 d0 e0
 have HOK := lh (show ({ m with session := t1 } : Mg).ok from HOKM.out)
 have HFIN := lh (finOk_old (W := w9) (r := r) (q := q) (show MgIn w ({ m with session := t1 } : Mg) ns qs from ⟨HM.out.1, HM.out.2.1, HM.out.2.2.1, HM.out.2.2.2.1, HM.out.2.2.2.2.1, HM.out.2.2.2.2.2.1, HM.out.2.2.2.2.2.2⟩))
 have HLE := lh (show s1.length ≤ s.length from l1)
 have HN12 := lh (show ({ m with session := t1 } : Mg).names = m.names ∨ ((3 : Int) = 12 ∧ NewF w.heap.size ({ m with session := t1 } : Mg).names) from Or.inl rfl)
 have HN13 := lh (show ({ m with session := t1 } : Mg).qids = m.qids ∨ ((3 : Int) = 13 ∧ NewF w.heap.size ({ m with session := t1 } : Mg).qids) from Or.inl rfl)
 clear HM HOKM
 generalize ({ m with session := t1 } : Mg) = mx at *
 have HS := HS3
 clear HS3
 have HY := lh HS.out.1
 have hyr : r ≠ g := by have := HS.out.2.2.2.2.1; omega
 have hyq : q ≠ g := by have := HS.out.2.2.2.2.1; omega
 have hS0 := sx_start HS.out HY.out
 refine wp_region_held_drew (S := (Sx g p s1 b1 mx)) (by kernel_rfl) hS0 (fun hHeld => ?_)
 refine tk2 (v := .agg (inc s1 b1)) 0 159 ?_
 refine tkY (v := .agg mx.cs.toArray) 1 160 rfl (yM (by rfl) _ rfl (by rfl)) ?_
 refine rd_fin 2 3 HS.out HY.out hyr hyq HOK.out b1 (fun wb Y3 Y4 YB YG => ?_)
 clear hHeld hS0
 try have ax1 := AX1.out
 go_wp2_with fail
 exact rd_ret Tryz.results122 rfl rfl rfl Y3 Y4 ⟨HLE.out, HFIN.out _ YB YG, HN12.out, HN13.out⟩ YB
theorem rread_4 (s : List UInt8) (b : Bool) (m : Mg) (ns : List (List UInt8)) (qs : List (Int × Int × Int)) (w : World) (hm : MgIn w m ns qs) (hs : s.length ≤ 9000000000) : Calls Tryz.prog 122 #[.agg (inc s b), .agg m.cs.toArray, .int .i64 4] w (RdSay s.length 4 m w) := by
 have HN := lh (fun W => show Calls Tryz.prog 120 #[.agg (inc s b), .int .i64 4] W (InI s.length 4 W) from r9num_any s b 4 (by omega) (by omega) W hs)
 have HS0 := lh (RdSt.start w s b m)
 have HOKM := lh hm.ok
 have HM := lh hm
 go_enter Tryz.func122, Tryz.ntmps122
 go_upto_region 1 with fail
 generalize hw1 : World.alloc _ _ = w1
 have HS1 := lh (show RdSt w w1 w.heap.size (w.heap.size + 1) (w.heap.size + 1 + 1) (w.heap.size + 1 + 1 + 1) s b m from by rw [← hw1]; exact HS0.out)
 clear hw1 HS0 hm
 generalize w.heap.size + 1 + 1 + 1 = q at HS1 ⊢
 generalize w.heap.size + 1 + 1 = r at HS1 ⊢
 generalize w.heap.size + 1 = p at HS1 ⊢
 generalize w.heap.size = g at HS1 ⊢
 obtain ⟨⟨c0, c1⟩, _, _⟩ := HS1.out.cells
 go_wp2_with fail
 (with_reducible refine (HN.out _).mono ?_); rintro e w2 ⟨s1, b1, k1, rfl, ⟨l1, _⟩, b2⟩
 clear c0 c1 HN
 have HS2 := lh (HS1.out.next b2)
 obtain ⟨⟨c0, c1⟩, f0, f1⟩ := HS2.out.cells
 obtain ⟨d0, e0⟩ := (show ∀ W : World, W.heap[p]? = some (mgobj m) → (W.cell? ⟨p, 4, none⟩ = some (.int .i64 m.authFid) ∧ W.frozen? ⟨p, 4, none⟩ = false) from fun W h => ⟨by rw [Lib.cell_of_heap h]; rfl, Lib.frozen_of_heap h _⟩) _ HS2.out.2.1
 have HS3 := lh ((HS2.out.setX (s' := s1) (b' := b1)).setM (m' := { m with authFid := k1 }) 4 (.int .i64 k1) rfl)
 clear b2 HS1 HS2
 go_upto_region 39 with fail
 skip; try (rename (∀ (a : Act) (w : World), Code.wp _ _ _ a w → _) => ax1; have AX1 := lh ax1; clear ax1)
 generalize (((w2.setCell ⟨g, 0, none⟩ (.string (T s1))).setCell ⟨g, 1, none⟩ (.bool b1)).setCell ⟨p, 4, none⟩ (.int .i64 k1)) = w9 at *
 clear c0 c1 f0 f1 d0 e0
 have HOK := lh (show ({ m with authFid := k1 } : Mg).ok from HOKM.out)
 have HFIN := lh (finOk_old (W := w9) (r := r) (q := q) (show MgIn w ({ m with authFid := k1 } : Mg) ns qs from ⟨HM.out.1, HM.out.2.1, HM.out.2.2.1, HM.out.2.2.2.1, HM.out.2.2.2.2.1, HM.out.2.2.2.2.2.1, HM.out.2.2.2.2.2.2⟩))
 have HLE := lh (show s1.length ≤ s.length from l1)
 have HN12 := lh (show ({ m with authFid := k1 } : Mg).names = m.names ∨ ((4 : Int) = 12 ∧ NewF w.heap.size ({ m with authFid := k1 } : Mg).names) from Or.inl rfl)
 have HN13 := lh (show ({ m with authFid := k1 } : Mg).qids = m.qids ∨ ((4 : Int) = 13 ∧ NewF w.heap.size ({ m with authFid := k1 } : Mg).qids) from Or.inl rfl)
 clear HM HOKM
 generalize ({ m with authFid := k1 } : Mg) = mx at *
 have HS := HS3
 clear HS3
 have HY := lh HS.out.1
 have hyr : r ≠ g := by have := HS.out.2.2.2.2.1; omega
 have hyq : q ≠ g := by have := HS.out.2.2.2.2.1; omega
 have hS0 := sx_start HS.out HY.out
 refine wp_region_held_drew (S := (Sx g p s1 b1 mx)) (by kernel_rfl) hS0 (fun hHeld => ?_)
 refine tk2 (v := .agg (inc s1 b1)) 0 159 ?_
 refine tkY (v := .agg mx.cs.toArray) 1 160 rfl (yM (by rfl) _ rfl (by rfl)) ?_
 refine rd_fin 2 3 HS.out HY.out hyr hyq HOK.out b1 (fun wb Y3 Y4 YB YG => ?_)
 clear hHeld hS0
 try have ax1 := AX1.out
 go_wp2_with fail
 exact rd_ret Tryz.results122 rfl rfl rfl Y3 Y4 ⟨HLE.out, HFIN.out _ YB YG, HN12.out, HN13.out⟩ YB
theorem rread_5 (s : List UInt8) (b : Bool) (m : Mg) (ns : List (List UInt8)) (qs : List (Int × Int × Int)) (w : World) (hm : MgIn w m ns qs) (hs : s.length ≤ 9000000000) : Calls Tryz.prog 122 #[.agg (inc s b), .agg m.cs.toArray, .int .i64 5] w (RdSay s.length 5 m w) := by
 have HN := lh (fun W => show Calls Tryz.prog 184 #[.agg (inc s b)] W (InS s.length W) from r9counted_any s b W hs)
 have HS0 := lh (RdSt.start w s b m)
 have HOKM := lh hm.ok
 have HM := lh hm
 go_enter Tryz.func122, Tryz.ntmps122
 go_upto_region 1 with fail
 generalize hw1 : World.alloc _ _ = w1
 have HS1 := lh (show RdSt w w1 w.heap.size (w.heap.size + 1) (w.heap.size + 1 + 1) (w.heap.size + 1 + 1 + 1) s b m from by rw [← hw1]; exact HS0.out)
 clear hw1 HS0 hm
 generalize w.heap.size + 1 + 1 + 1 = q at HS1 ⊢
 generalize w.heap.size + 1 + 1 = r at HS1 ⊢
 generalize w.heap.size + 1 = p at HS1 ⊢
 generalize w.heap.size = g at HS1 ⊢
 obtain ⟨⟨c0, c1⟩, _, _⟩ := HS1.out.cells
 go_wp2_with fail
 (with_reducible refine (HN.out _).mono ?_); rintro e w2 ⟨s1, b1, t1, rfl, ⟨l1, l2⟩, b2⟩
 clear c0 c1 HN
 have HS2 := lh (HS1.out.next b2)
 obtain ⟨⟨c0, c1⟩, f0, f1⟩ := HS2.out.cells
 obtain ⟨d0, e0⟩ := (show ∀ W : World, W.heap[p]? = some (mgobj m) → (W.cell? ⟨p, 8, none⟩ = some (.string (T m.user)) ∧ W.frozen? ⟨p, 8, none⟩ = false) from fun W h => ⟨by rw [Lib.cell_of_heap h]; rfl, Lib.frozen_of_heap h _⟩) _ HS2.out.2.1
 have HS3 := lh ((HS2.out.setX (s' := s1) (b' := b1)).setM (m' := { m with user := t1 }) 8 (.string (T t1)) rfl)
 clear b2 HS1 HS2
 go_upto_region 39 with fail
 skip; try (rename (∀ (a : Act) (w : World), Code.wp _ _ _ a w → _) => ax1; have AX1 := lh ax1; clear ax1)
 generalize (((w2.setCell ⟨g, 0, none⟩ (.string (T s1))).setCell ⟨g, 1, none⟩ (.bool b1)).setCell ⟨p, 8, none⟩ (.string (T t1))) = w9 at *
 clear c0 c1 f0 f1 d0 e0
 have HOK := lh (show ({ m with user := t1 } : Mg).ok from HOKM.out)
 have HFIN := lh (finOk_old (W := w9) (r := r) (q := q) (show MgIn w ({ m with user := t1 } : Mg) ns qs from ⟨HM.out.1, HM.out.2.1, HM.out.2.2.1, HM.out.2.2.2.1, HM.out.2.2.2.2.1, HM.out.2.2.2.2.2.1, HM.out.2.2.2.2.2.2⟩))
 have HLE := lh (show s1.length ≤ s.length from l1)
 have HN12 := lh (show ({ m with user := t1 } : Mg).names = m.names ∨ ((5 : Int) = 12 ∧ NewF w.heap.size ({ m with user := t1 } : Mg).names) from Or.inl rfl)
 have HN13 := lh (show ({ m with user := t1 } : Mg).qids = m.qids ∨ ((5 : Int) = 13 ∧ NewF w.heap.size ({ m with user := t1 } : Mg).qids) from Or.inl rfl)
 clear HM HOKM
 generalize ({ m with user := t1 } : Mg) = mx at *
 have HS := HS3
 clear HS3
 have HY := lh HS.out.1
 have hyr : r ≠ g := by have := HS.out.2.2.2.2.1; omega
 have hyq : q ≠ g := by have := HS.out.2.2.2.2.1; omega
 have hS0 := sx_start HS.out HY.out
 refine wp_region_held_drew (S := (Sx g p s1 b1 mx)) (by kernel_rfl) hS0 (fun hHeld => ?_)
 refine tk2 (v := .agg (inc s1 b1)) 0 159 ?_
 refine tkY (v := .agg mx.cs.toArray) 1 160 rfl (yM (by rfl) _ rfl (by rfl)) ?_
 refine rd_fin 2 3 HS.out HY.out hyr hyq HOK.out b1 (fun wb Y3 Y4 YB YG => ?_)
 clear hHeld hS0
 try have ax1 := AX1.out
 go_wp2_with fail
 exact rd_ret Tryz.results122 rfl rfl rfl Y3 Y4 ⟨HLE.out, HFIN.out _ YB YG, HN12.out, HN13.out⟩ YB
theorem rread_6 (s : List UInt8) (b : Bool) (m : Mg) (ns : List (List UInt8)) (qs : List (Int × Int × Int)) (w : World) (hm : MgIn w m ns qs) (hs : s.length ≤ 9000000000) : Calls Tryz.prog 122 #[.agg (inc s b), .agg m.cs.toArray, .int .i64 6] w (RdSay s.length 6 m w) := by
 have HN := lh (fun W => show Calls Tryz.prog 184 #[.agg (inc s b)] W (InS s.length W) from r9counted_any s b W hs)
 have HS0 := lh (RdSt.start w s b m)
 have HOKM := lh hm.ok
 have HM := lh hm
 go_enter Tryz.func122, Tryz.ntmps122
 go_upto_region 1 with fail
 generalize hw1 : World.alloc _ _ = w1
 have HS1 := lh (show RdSt w w1 w.heap.size (w.heap.size + 1) (w.heap.size + 1 + 1) (w.heap.size + 1 + 1 + 1) s b m from by rw [← hw1]; exact HS0.out)
 clear hw1 HS0 hm
 generalize w.heap.size + 1 + 1 + 1 = q at HS1 ⊢
 generalize w.heap.size + 1 + 1 = r at HS1 ⊢
 generalize w.heap.size + 1 = p at HS1 ⊢
 generalize w.heap.size = g at HS1 ⊢
 obtain ⟨⟨c0, c1⟩, _, _⟩ := HS1.out.cells
 go_wp2_with fail
 (with_reducible refine (HN.out _).mono ?_); rintro e w2 ⟨s1, b1, t1, rfl, ⟨l1, l2⟩, b2⟩
 clear c0 c1 HN
 have HS2 := lh (HS1.out.next b2)
 obtain ⟨⟨c0, c1⟩, f0, f1⟩ := HS2.out.cells
 obtain ⟨d0, e0⟩ := (show ∀ W : World, W.heap[p]? = some (mgobj m) → (W.cell? ⟨p, 9, none⟩ = some (.string (T m.attach)) ∧ W.frozen? ⟨p, 9, none⟩ = false) from fun W h => ⟨by rw [Lib.cell_of_heap h]; rfl, Lib.frozen_of_heap h _⟩) _ HS2.out.2.1
 have HS3 := lh ((HS2.out.setX (s' := s1) (b' := b1)).setM (m' := { m with attach := t1 }) 9 (.string (T t1)) rfl)
 clear b2 HS1 HS2
 go_upto_region 39 with fail
 skip; try (rename (∀ (a : Act) (w : World), Code.wp _ _ _ a w → _) => ax1; have AX1 := lh ax1; clear ax1)
 generalize (((w2.setCell ⟨g, 0, none⟩ (.string (T s1))).setCell ⟨g, 1, none⟩ (.bool b1)).setCell ⟨p, 9, none⟩ (.string (T t1))) = w9 at *
 clear c0 c1 f0 f1 d0 e0
 have HOK := lh (show ({ m with attach := t1 } : Mg).ok from HOKM.out)
 have HFIN := lh (finOk_old (W := w9) (r := r) (q := q) (show MgIn w ({ m with attach := t1 } : Mg) ns qs from ⟨HM.out.1, HM.out.2.1, HM.out.2.2.1, HM.out.2.2.2.1, HM.out.2.2.2.2.1, HM.out.2.2.2.2.2.1, HM.out.2.2.2.2.2.2⟩))
 have HLE := lh (show s1.length ≤ s.length from l1)
 have HN12 := lh (show ({ m with attach := t1 } : Mg).names = m.names ∨ ((6 : Int) = 12 ∧ NewF w.heap.size ({ m with attach := t1 } : Mg).names) from Or.inl rfl)
 have HN13 := lh (show ({ m with attach := t1 } : Mg).qids = m.qids ∨ ((6 : Int) = 13 ∧ NewF w.heap.size ({ m with attach := t1 } : Mg).qids) from Or.inl rfl)
 clear HM HOKM
 generalize ({ m with attach := t1 } : Mg) = mx at *
 have HS := HS3
 clear HS3
 have HY := lh HS.out.1
 have hyr : r ≠ g := by have := HS.out.2.2.2.2.1; omega
 have hyq : q ≠ g := by have := HS.out.2.2.2.2.1; omega
 have hS0 := sx_start HS.out HY.out
 refine wp_region_held_drew (S := (Sx g p s1 b1 mx)) (by kernel_rfl) hS0 (fun hHeld => ?_)
 refine tk2 (v := .agg (inc s1 b1)) 0 159 ?_
 refine tkY (v := .agg mx.cs.toArray) 1 160 rfl (yM (by rfl) _ rfl (by rfl)) ?_
 refine rd_fin 2 3 HS.out HY.out hyr hyq HOK.out b1 (fun wb Y3 Y4 YB YG => ?_)
 clear hHeld hS0
 try have ax1 := AX1.out
 go_wp2_with fail
 exact rd_ret Tryz.results122 rfl rfl rfl Y3 Y4 ⟨HLE.out, HFIN.out _ YB YG, HN12.out, HN13.out⟩ YB
theorem rread_7 (s : List UInt8) (b : Bool) (m : Mg) (ns : List (List UInt8)) (qs : List (Int × Int × Int)) (w : World) (hm : MgIn w m ns qs) (hs : s.length ≤ 9000000000) : Calls Tryz.prog 122 #[.agg (inc s b), .agg m.cs.toArray, .int .i64 7] w (RdSay s.length 7 m w) := by
 have HN := lh (fun W => show Calls Tryz.prog 185 #[.agg (inc s b)] W (InQ s.length W) from r9qid_any s b W hs)
 have HS0 := lh (RdSt.start w s b m)
 have HOKM := lh hm.ok
 have HM := lh hm
 go_enter Tryz.func122, Tryz.ntmps122
 go_upto_region 1 with fail
 generalize hw1 : World.alloc _ _ = w1
 have HS1 := lh (show RdSt w w1 w.heap.size (w.heap.size + 1) (w.heap.size + 1 + 1) (w.heap.size + 1 + 1 + 1) s b m from by rw [← hw1]; exact HS0.out)
 clear hw1 HS0 hm
 generalize w.heap.size + 1 + 1 + 1 = q at HS1 ⊢
 generalize w.heap.size + 1 + 1 = r at HS1 ⊢
 generalize w.heap.size + 1 = p at HS1 ⊢
 generalize w.heap.size = g at HS1 ⊢
 obtain ⟨⟨c0, c1⟩, _, _⟩ := HS1.out.cells
 go_wp2_with fail
 (with_reducible refine (HN.out _).mono ?_); rintro e w2 ⟨s1, b1, x1, y1, z1, rfl, l1, b2⟩
 clear c0 c1 HN
 have HS2 := lh (HS1.out.next b2)
 obtain ⟨⟨c0, c1⟩, f0, f1⟩ := HS2.out.cells
 obtain ⟨⟨d0, e0⟩, ⟨d1, e1⟩, ⟨d2, e2⟩⟩ := (show ∀ W : World, W.heap[p]? = some (mgobj m) → (W.cell? ⟨p, 12, none⟩ = some (.int .i64 m.q0) ∧ W.frozen? ⟨p, 12, none⟩ = false) ∧ (W.cell? ⟨p, 13, none⟩ = some (.int .i64 m.q1) ∧ W.frozen? ⟨p, 13, none⟩ = false) ∧ (W.cell? ⟨p, 14, none⟩ = some (.int .i64 m.q2) ∧ W.frozen? ⟨p, 14, none⟩ = false) from fun W h => ⟨⟨by rw [Lib.cell_of_heap h]; rfl, Lib.frozen_of_heap h _⟩, ⟨by rw [Lib.cell_of_heap h]; rfl, Lib.frozen_of_heap h _⟩, ⟨by rw [Lib.cell_of_heap h]; rfl, Lib.frozen_of_heap h _⟩⟩) _ HS2.out.2.1
 have HS3 := lh ((((HS2.out.setX (s' := s1) (b' := b1)).setM (m' := { m with q0 := x1 }) 12 (.int .i64 x1) rfl).setM (m' := { m with q0 := x1, q1 := y1 }) 13 (.int .i64 y1) rfl).setM (m' := { m with q0 := x1, q1 := y1, q2 := z1 }) 14 (.int .i64 z1) rfl)
 clear b2 HS1 HS2
 go_upto_region 39 with fail
 skip; try (rename (∀ (a : Act) (w : World), Code.wp _ _ _ a w → _) => ax1; have AX1 := lh ax1; clear ax1)
 generalize (((((w2.setCell ⟨g, 0, none⟩ (.string (T s1))).setCell ⟨g, 1, none⟩ (.bool b1)).setCell ⟨p, 12, none⟩ (.int .i64 x1)).setCell ⟨p, 13, none⟩ (.int .i64 y1)).setCell ⟨p, 14, none⟩ (.int .i64 z1)) = w9 at *
 clear c0 c1 f0 f1 d0 e0 d1 e1 d2 e2
 have HOK := lh (show ({ m with q0 := x1, q1 := y1, q2 := z1 } : Mg).ok from HOKM.out)
 have HFIN := lh (finOk_old (W := w9) (r := r) (q := q) (show MgIn w ({ m with q0 := x1, q1 := y1, q2 := z1 } : Mg) ns qs from ⟨HM.out.1, HM.out.2.1, HM.out.2.2.1, HM.out.2.2.2.1, HM.out.2.2.2.2.1, HM.out.2.2.2.2.2.1, HM.out.2.2.2.2.2.2⟩))
 have HLE := lh (show s1.length ≤ s.length from l1)
 have HN12 := lh (show ({ m with q0 := x1, q1 := y1, q2 := z1 } : Mg).names = m.names ∨ ((7 : Int) = 12 ∧ NewF w.heap.size ({ m with q0 := x1, q1 := y1, q2 := z1 } : Mg).names) from Or.inl rfl)
 have HN13 := lh (show ({ m with q0 := x1, q1 := y1, q2 := z1 } : Mg).qids = m.qids ∨ ((7 : Int) = 13 ∧ NewF w.heap.size ({ m with q0 := x1, q1 := y1, q2 := z1 } : Mg).qids) from Or.inl rfl)
 clear HM HOKM
 generalize ({ m with q0 := x1, q1 := y1, q2 := z1 } : Mg) = mx at *
 have HS := HS3
 clear HS3
 have HY := lh HS.out.1
 have hyr : r ≠ g := by have := HS.out.2.2.2.2.1; omega
 have hyq : q ≠ g := by have := HS.out.2.2.2.2.1; omega
 have hS0 := sx_start HS.out HY.out
 refine wp_region_held_drew (S := (Sx g p s1 b1 mx)) (by kernel_rfl) hS0 (fun hHeld => ?_)
 refine tk2 (v := .agg (inc s1 b1)) 0 159 ?_
 refine tkY (v := .agg mx.cs.toArray) 1 160 rfl (yM (by rfl) _ rfl (by rfl)) ?_
 refine rd_fin 2 3 HS.out HY.out hyr hyq HOK.out b1 (fun wb Y3 Y4 YB YG => ?_)
 clear hHeld hS0
 try have ax1 := AX1.out
 go_wp2_with fail
 exact rd_ret Tryz.results122 rfl rfl rfl Y3 Y4 ⟨HLE.out, HFIN.out _ YB YG, HN12.out, HN13.out⟩ YB
theorem rread_8 (s : List UInt8) (b : Bool) (m : Mg) (ns : List (List UInt8)) (qs : List (Int × Int × Int)) (w : World) (hm : MgIn w m ns qs) (hs : s.length ≤ 9000000000) : Calls Tryz.prog 122 #[.agg (inc s b), .agg m.cs.toArray, .int .i64 8] w (RdSay s.length 8 m w) := by
 have HN := lh (fun W => show Calls Tryz.prog 120 #[.agg (inc s b), .int .i64 4] W (InI s.length 4 W) from r9num_any s b 4 (by omega) (by omega) W hs)
 have HS0 := lh (RdSt.start w s b m)
 have HOKM := lh hm.ok
 have HM := lh hm
 go_enter Tryz.func122, Tryz.ntmps122
 go_upto_region 1 with fail
 generalize hw1 : World.alloc _ _ = w1
 have HS1 := lh (show RdSt w w1 w.heap.size (w.heap.size + 1) (w.heap.size + 1 + 1) (w.heap.size + 1 + 1 + 1) s b m from by rw [← hw1]; exact HS0.out)
 clear hw1 HS0 hm
 generalize w.heap.size + 1 + 1 + 1 = q at HS1 ⊢
 generalize w.heap.size + 1 + 1 = r at HS1 ⊢
 generalize w.heap.size + 1 = p at HS1 ⊢
 generalize w.heap.size = g at HS1 ⊢
 obtain ⟨⟨c0, c1⟩, _, _⟩ := HS1.out.cells
 go_wp2_with fail
 (with_reducible refine (HN.out _).mono ?_); rintro e w2 ⟨s1, b1, k1, rfl, ⟨l1, _⟩, b2⟩
 clear c0 c1 HN
 have HS2 := lh (HS1.out.next b2)
 obtain ⟨⟨c0, c1⟩, f0, f1⟩ := HS2.out.cells
 obtain ⟨d0, e0⟩ := (show ∀ W : World, W.heap[p]? = some (mgobj m) → (W.cell? ⟨p, 2, none⟩ = some (.int .i64 m.fid) ∧ W.frozen? ⟨p, 2, none⟩ = false) from fun W h => ⟨by rw [Lib.cell_of_heap h]; rfl, Lib.frozen_of_heap h _⟩) _ HS2.out.2.1
 have HS3 := lh ((HS2.out.setX (s' := s1) (b' := b1)).setM (m' := { m with fid := k1 }) 2 (.int .i64 k1) rfl)
 clear b2 HS1 HS2
 go_upto_region 39 with fail
 skip; try (rename (∀ (a : Act) (w : World), Code.wp _ _ _ a w → _) => ax1; have AX1 := lh ax1; clear ax1)
 generalize (((w2.setCell ⟨g, 0, none⟩ (.string (T s1))).setCell ⟨g, 1, none⟩ (.bool b1)).setCell ⟨p, 2, none⟩ (.int .i64 k1)) = w9 at *
 clear c0 c1 f0 f1 d0 e0
 have HOK := lh (show ({ m with fid := k1 } : Mg).ok from HOKM.out)
 have HFIN := lh (finOk_old (W := w9) (r := r) (q := q) (show MgIn w ({ m with fid := k1 } : Mg) ns qs from ⟨HM.out.1, HM.out.2.1, HM.out.2.2.1, HM.out.2.2.2.1, HM.out.2.2.2.2.1, HM.out.2.2.2.2.2.1, HM.out.2.2.2.2.2.2⟩))
 have HLE := lh (show s1.length ≤ s.length from l1)
 have HN12 := lh (show ({ m with fid := k1 } : Mg).names = m.names ∨ ((8 : Int) = 12 ∧ NewF w.heap.size ({ m with fid := k1 } : Mg).names) from Or.inl rfl)
 have HN13 := lh (show ({ m with fid := k1 } : Mg).qids = m.qids ∨ ((8 : Int) = 13 ∧ NewF w.heap.size ({ m with fid := k1 } : Mg).qids) from Or.inl rfl)
 clear HM HOKM
 generalize ({ m with fid := k1 } : Mg) = mx at *
 have HS := HS3
 clear HS3
 have HY := lh HS.out.1
 have hyr : r ≠ g := by have := HS.out.2.2.2.2.1; omega
 have hyq : q ≠ g := by have := HS.out.2.2.2.2.1; omega
 have hS0 := sx_start HS.out HY.out
 refine wp_region_held_drew (S := (Sx g p s1 b1 mx)) (by kernel_rfl) hS0 (fun hHeld => ?_)
 refine tk2 (v := .agg (inc s1 b1)) 0 159 ?_
 refine tkY (v := .agg mx.cs.toArray) 1 160 rfl (yM (by rfl) _ rfl (by rfl)) ?_
 refine rd_fin 2 3 HS.out HY.out hyr hyq HOK.out b1 (fun wb Y3 Y4 YB YG => ?_)
 clear hHeld hS0
 try have ax1 := AX1.out
 go_wp2_with fail
 exact rd_ret Tryz.results122 rfl rfl rfl Y3 Y4 ⟨HLE.out, HFIN.out _ YB YG, HN12.out, HN13.out⟩ YB
theorem rread_10 (s : List UInt8) (b : Bool) (m : Mg) (ns : List (List UInt8)) (qs : List (Int × Int × Int)) (w : World) (hm : MgIn w m ns qs) (hs : s.length ≤ 9000000000) : Calls Tryz.prog 122 #[.agg (inc s b), .agg m.cs.toArray, .int .i64 10] w (RdSay s.length 10 m w) := by
 have HN := lh (fun W => show Calls Tryz.prog 120 #[.agg (inc s b), .int .i64 2] W (InI s.length 2 W) from r9num_any s b 2 (by omega) (by omega) W hs)
 have HS0 := lh (RdSt.start w s b m)
 have HOKM := lh hm.ok
 have HM := lh hm
 go_enter Tryz.func122, Tryz.ntmps122
 go_upto_region 1 with fail
 generalize hw1 : World.alloc _ _ = w1
 have HS1 := lh (show RdSt w w1 w.heap.size (w.heap.size + 1) (w.heap.size + 1 + 1) (w.heap.size + 1 + 1 + 1) s b m from by rw [← hw1]; exact HS0.out)
 clear hw1 HS0 hm
 generalize w.heap.size + 1 + 1 + 1 = q at HS1 ⊢
 generalize w.heap.size + 1 + 1 = r at HS1 ⊢
 generalize w.heap.size + 1 = p at HS1 ⊢
 generalize w.heap.size = g at HS1 ⊢
 obtain ⟨⟨c0, c1⟩, _, _⟩ := HS1.out.cells
 go_wp2_with fail
 (with_reducible refine (HN.out _).mono ?_); rintro e w2 ⟨s1, b1, k1, rfl, ⟨l1, _⟩, b2⟩
 clear c0 c1 HN
 have HS2 := lh (HS1.out.next b2)
 obtain ⟨⟨c0, c1⟩, f0, f1⟩ := HS2.out.cells
 obtain ⟨d0, e0⟩ := (show ∀ W : World, W.heap[p]? = some (mgobj m) → (W.cell? ⟨p, 5, none⟩ = some (.int .i64 m.oldTag) ∧ W.frozen? ⟨p, 5, none⟩ = false) from fun W h => ⟨by rw [Lib.cell_of_heap h]; rfl, Lib.frozen_of_heap h _⟩) _ HS2.out.2.1
 have HS3 := lh ((HS2.out.setX (s' := s1) (b' := b1)).setM (m' := { m with oldTag := k1 }) 5 (.int .i64 k1) rfl)
 clear b2 HS1 HS2
 go_upto_region 39 with fail
 skip; try (rename (∀ (a : Act) (w : World), Code.wp _ _ _ a w → _) => ax1; have AX1 := lh ax1; clear ax1)
 generalize (((w2.setCell ⟨g, 0, none⟩ (.string (T s1))).setCell ⟨g, 1, none⟩ (.bool b1)).setCell ⟨p, 5, none⟩ (.int .i64 k1)) = w9 at *
 clear c0 c1 f0 f1 d0 e0
 have HOK := lh (show ({ m with oldTag := k1 } : Mg).ok from HOKM.out)
 have HFIN := lh (finOk_old (W := w9) (r := r) (q := q) (show MgIn w ({ m with oldTag := k1 } : Mg) ns qs from ⟨HM.out.1, HM.out.2.1, HM.out.2.2.1, HM.out.2.2.2.1, HM.out.2.2.2.2.1, HM.out.2.2.2.2.2.1, HM.out.2.2.2.2.2.2⟩))
 have HLE := lh (show s1.length ≤ s.length from l1)
 have HN12 := lh (show ({ m with oldTag := k1 } : Mg).names = m.names ∨ ((10 : Int) = 12 ∧ NewF w.heap.size ({ m with oldTag := k1 } : Mg).names) from Or.inl rfl)
 have HN13 := lh (show ({ m with oldTag := k1 } : Mg).qids = m.qids ∨ ((10 : Int) = 13 ∧ NewF w.heap.size ({ m with oldTag := k1 } : Mg).qids) from Or.inl rfl)
 clear HM HOKM
 generalize ({ m with oldTag := k1 } : Mg) = mx at *
 have HS := HS3
 clear HS3
 have HY := lh HS.out.1
 have hyr : r ≠ g := by have := HS.out.2.2.2.2.1; omega
 have hyq : q ≠ g := by have := HS.out.2.2.2.2.1; omega
 have hS0 := sx_start HS.out HY.out
 refine wp_region_held_drew (S := (Sx g p s1 b1 mx)) (by kernel_rfl) hS0 (fun hHeld => ?_)
 refine tk2 (v := .agg (inc s1 b1)) 0 159 ?_
 refine tkY (v := .agg mx.cs.toArray) 1 160 rfl (yM (by rfl) _ rfl (by rfl)) ?_
 refine rd_fin 2 3 HS.out HY.out hyr hyq HOK.out b1 (fun wb Y3 Y4 YB YG => ?_)
 clear hHeld hS0
 try have ax1 := AX1.out
 go_wp2_with fail
 exact rd_ret Tryz.results122 rfl rfl rfl Y3 Y4 ⟨HLE.out, HFIN.out _ YB YG, HN12.out, HN13.out⟩ YB
end Go.Proofs.YtfibaopngpfmjaaGreatDoor
