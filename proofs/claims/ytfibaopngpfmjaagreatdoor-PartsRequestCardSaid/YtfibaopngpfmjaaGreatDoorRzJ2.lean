/- The reference's Get of a message, and Split. Conditions: those that each theorem names. -/
import Derived.Test.YtfibaopngpfmjaaGreatDoorRzI6
import Derived.Test.YtfibaopngpfmjaaGreatDoorRzJ1
import Derived.Great.Walk
import Derived.OwnWalk
import Derived.Great.BuildSlice
set_option linter.unusedVariables false
set_option linter.unusedSimpArgs false
set_option maxRecDepth 100000
set_option maxHeartbeats 16000000
namespace Go.Proofs.YtfibaopngpfmjaaGreatDoor
open Go.RowKit Go.Proofs
/-- A message, a place behind it, a fault. -/
def GSay (n : Nat) (w : World) (e : Ending) (w' : World) : Prop := ∃ (m : Mg) (k c : Int), e = .returned (.tuple #[.agg m.cs.toArray, .int .i64 k, .int .i64 c]) ∧ (m.ok ∧ (c = 0 → 7 ≤ k ∧ k ≤ n)) ∧ Below w.heap.size w w'
/-- The boxes of the result, of the message, of what is left. -/
def Gs9 (w W : World) (p y : Nat) (s : List UInt8) (b : Bool) (m : Mg) : Prop :=
 W.heap[w.heap.size]? = some (mgobj mg0) ∧ W.heap[p]? = some (mgobj m) ∧ W.heap[y]? = some (.cells (inc s b) 172) ∧ (w.heap.size < p ∧ p < y) ∧ Below w.heap.size w W
theorem Gs9.next {w W W' : World} {p y : Nat} {s : List UInt8} {b : Bool} {m : Mg} (h : Gs9 w W p y s b m) (hb : Below W.heap.size W W') : Gs9 w W' p y s b m :=
 ⟨(hb.block _ (row_ltP h.1)).trans h.1, (hb.block _ (row_ltP h.2.1)).trans h.2.1, (hb.block _ (row_ltP h.2.2.1)).trans h.2.2.1, h.2.2.2.1, bnext h.2.2.2.2 hb⟩
/-- The message that is read so far: its lists lie behind the boxes; a list that is still to be read is empty. -/
def Rd9 (W : World) (y : Nat) (l : List Int) (j : Nat) (m : Mg) : Prop :=
 (∃ ns qs, MgIn W m ns qs) ∧ (NewF (y + 1) m.names ∧ NewF (y + 1) m.qids) ∧ (∀ i (h : i < l.length), j ≤ i → l[i] = 12 → m.names = .slice none 0 0) ∧ (∀ i (h : i < l.length), j ≤ i → l[i] = 13 → m.qids = .slice none 0 0)
theorem nodup_at {l : List Int} (h : l.Nodup) {i j : Nat} (hi : i < l.length) (hj : j < l.length) (e : l[i] = l[j]) : i = j := by
 rcases Nat.lt_trichotomy i j with h1 | h1 | h1
 ·exact absurd e (List.pairwise_iff_getElem.1 h i j hi hj h1)
 ·exact h1
 ·exact absurd e.symm (List.pairwise_iff_getElem.1 h j i hj hi h1)
theorem Rd9.step {W W' : World} {p y : Nat} {l : List Int} {j : Nat} {m mx : Mg} {n : Nat} (h : Rd9 W y l j m) (hl : l.Nodup) (hj : j < l.length) (hy : y < n) (hpy : p < y)
  (ns1 : List (List UInt8)) (qs1 : List (Int × Int × Int)) (W1 : World) (hin : MgIn W1 mx ns1 qs1) (h1 : mx.names = m.names ∨ (l[j] = 12 ∧ NewF n mx.names)) (h2 : mx.qids = m.qids ∨ (l[j] = 13 ∧ NewF n mx.qids))
  (k1 : Gr2 y p W W') (k2 : Gr2 y p W1 W') : Rd9 W' y l (j + 1) mx := by
 obtain ⟨⟨ns, qs, hm⟩, ⟨n1, n2⟩, e1, e2⟩ := h
 have a1 : NewF (y + 1) mx.names := by
  rcases h1 with e | e
  ·rw [e]; exact n1
  ·exact fun ad k c ee => by have := e.2 ad k c ee; omega
 have a2 : NewF (y + 1) mx.qids := by
  rcases h2 with e | e
  ·rw [e]; exact n2
  ·exact fun ad k c ee => by have := e.2 ad k c ee; omega
 refine ⟨?_, ⟨a1, a2⟩, fun i hi hji he => ?_, fun i hi hji he => ?_⟩
 ·exact ⟨ns1, qs1, hin.1.gr2 (fun ad k c ee => by have := a1 ad k c ee; omega) k2, hin.2.1.gr2 (fun ad k c ee => by have := a2 ad k c ee; omega) k2, hin.2.2⟩
 ·rcases h1 with e | e
  ·rw [e]; exact e1 i hi (by omega) he
  ·have := nodup_at hl hi hj (he.trans e.1.symm); omega
 ·rcases h2 with e | e
  ·rw [e]; exact e2 i hi (by omega) he
  ·have := nodup_at hl hi hj (he.trans e.1.symm); omega
theorem r9get_any (s : List UInt8) (w : World) (hs : s.length ≤ 9000000000) : Calls Tryz.prog 63 #[.string (T s), .int .i64 0] w (GSay s.length w) := by
 have HG := lh (fun W => rget_any (T s) 0 4 W (by rw [T_size]; omega))
 have hl : (T s).data.toList = s := by simp [T]
 unfold GetSays at HG
 rw [hl] at HG
 clear hl
 generalize Oct.getE s 0 4 = ev at *
 generalize Oct.getT s 0 4 = tv at *
 generalize Oct.getN s 0 4 = nv at *
 have hsz : (T s).size = s.length := T_size s
 have HN1 := lh (fun s b W (h : s.length ≤ 9000000000) => show Calls Tryz.prog 120 #[.agg (inc s b), .int .i64 1] W (InI s.length 1 W) from r9num_any s b 1 (by omega) (by omega) W h)
 have HN2 := lh (fun s b W (h : s.length ≤ 9000000000) => show Calls Tryz.prog 120 #[.agg (inc s b), .int .i64 2] W (InI s.length 2 W) from r9num_any s b 2 (by omega) (by omega) W h)
 have HFS := lh (fun k W => r9fields_any k W)
 have HRD := lh (fun f s b (m : Mg) ns qs W h12 h13 h (hs : s.length ≤ 9000000000) => rread_any f s b m ns qs W h12 h13 h hs)
 have HCK := lh (fun (x : Mg) ns qs W (h : MgIn W x ns qs) => r8check_any x ns qs W h)
 have HU := lh (Tryz.underlying48)
 have HBZ := lh (show Tryz.prog.built 48 [] = some mg0.cs.toArray from by kernel_rfl)
 have HZ0 := lh (mg_size mg0)
 have HA0 := lh (mg_all mg0 ⟨⟨_, _, _, rfl⟩, ⟨_, _, _, rfl⟩⟩)
 have HFE := lh (fun (k : Int) (hk : k ≠ 0) (W : World) (hb : Below w.heap.size w W) => (show GSay s.length w (.returned (.tuple #[.agg mg0.cs.toArray, .int .i64 0, .int .i64 k])) W from ⟨mg0, 0, k, rfl, ⟨⟨⟨_, _, _, rfl⟩, ⟨_, _, _, rfl⟩⟩, fun h => absurd h hk⟩, hb⟩))
 have HZM := lh (fun m : Mg => mg_size m)
 have HZL := lh (fun m : Mg => mg_sizeL m)
 have HAM := lh (fun (m : Mg) (h : m.ok) => mg_all m h)
 have HYM := lh (show ∀ m : Mg, mg0.cs.toArray.size = m.cs.toArray.size from fun m => rfl)
 have HYX := lh (show ∀ m x : Mg, m.cs.toArray.size = x.cs.toArray.size from fun m x => rfl)
 go_enter Tryz.func63, Tryz.ntmps63
 have h1 := heap_alloc_new w (mgobj mg0)
 go_upto_region 1 with fail
 generalize hw1 : World.alloc _ _ = w1
 have HB1 := lh (show Below w.heap.size w w1 from by rw [← hw1]; exact alloc_below w (mgobj mg0))
 have K1 := lh (show w1.heap[w.heap.size]? = some (mgobj mg0) from by rw [← hw1]; exact h1)
 clear h1 hw1
 unfold mgobj at K1
 generalize hA0 : mg0.cs.toArray = A0 at *
 have k0 : decide ((s.length : Int) < 0) = false := decide_eq_false (by omega)
 go_wp2_with fail
 (with_reducible refine (HG.out _).mono ?_); rintro e wx ⟨rfl, rfl⟩
 by_cases he : ev = 0
 rotate_left
 ·have k1 : (ev != 0) = true := by simp [he]
  go_wp2_with (first | refine wpList_build_at rfl 48 _ rfl A0 (by simp only [List.map_toArray, List.map_nil]; exact HBZ.out) ?_ | refine wpList_store_row rfl 48 _ _ rfl w.heap.size A0 rfl rfl 48 A0 K1.out HZ0.out rfl HA0.out ?_)
  refine bodyPost_ret (v := .tuple #[.agg A0, .int .i64 0, .int .i64 ev]) ?_ rfl (HFE.out ev (by assumption) _ (below_setRow HB1.out (Nat.le_refl _) _))
  exact results_cell_row3 Tryz.results63 _ _ w.heap.size 48 A0 (0, 0) _ _ _ rfl rfl rfl (heap_setRow_same K1.out) HU.out rfl HZ0.out
 subst he
 by_cases hbig : 8192 < nv
 ·go_wp2_with (first | refine wpList_build_at rfl 48 _ rfl A0 (by simp only [List.map_toArray, List.map_nil]; exact HBZ.out) ?_ | refine wpList_store_row rfl 48 _ _ rfl w.heap.size A0 rfl rfl 48 A0 K1.out HZ0.out rfl HA0.out ?_)
  refine bodyPost_ret (v := .tuple #[.agg A0, .int .i64 0, .int .i64 4]) ?_ rfl (HFE.out 4 (by omega) _ (below_setRow HB1.out (Nat.le_refl _) _))
  exact results_cell_row3 Tryz.results63 _ _ w.heap.size 48 A0 (0, 0) _ _ _ rfl rfl rfl (heap_setRow_same K1.out) HU.out rfl HZ0.out
 have k2 : decide ((8192 : Int) < nv) = false := decide_eq_false hbig
 by_cases hsm : nv < 7
 ·go_wp2_with (first | refine wpList_build_at rfl 48 _ rfl A0 (by simp only [List.map_toArray, List.map_nil]; exact HBZ.out) ?_ | refine wpList_store_row rfl 48 _ _ rfl w.heap.size A0 rfl rfl 48 A0 K1.out HZ0.out rfl HA0.out ?_)
  refine bodyPost_ret (v := .tuple #[.agg A0, .int .i64 0, .int .i64 2]) ?_ rfl (HFE.out 2 (by omega) _ (below_setRow HB1.out (Nat.le_refl _) _))
  exact results_cell_row3 Tryz.results63 _ _ w.heap.size 48 A0 (0, 0) _ _ _ rfl rfl rfl (heap_setRow_same K1.out) HU.out rfl HZ0.out
 have k3 : decide (nv < (7 : Int)) = false := decide_eq_false hsm
 have hwl : IntKind.i64.wrap ((s.length : Int) - 0) = (s.length : Int) := by rw [Int.sub_zero]; exact IntWalk.i64_in _ (by omega)
 by_cases hsh : (s.length : Int) < nv
 ·go_wp2_with (first | refine wpList_build_at rfl 48 _ rfl A0 (by simp only [List.map_toArray, List.map_nil]; exact HBZ.out) ?_ | refine wpList_store_row rfl 48 _ _ rfl w.heap.size A0 rfl rfl 48 A0 K1.out HZ0.out rfl HA0.out ?_)
  refine bodyPost_ret (v := .tuple #[.agg A0, .int .i64 0, .int .i64 3]) ?_ rfl (HFE.out 3 (by omega) _ (below_setRow HB1.out (Nat.le_refl _) _))
  exact results_cell_row3 Tryz.results63 _ _ w.heap.size 48 A0 (0, 0) _ _ _ rfl rfl rfl (heap_setRow_same K1.out) HU.out rfl HZ0.out
 have k4 : decide ((s.length : Int) < nv) = false := decide_eq_false hsh
 obtain ⟨k, rfl⟩ := Int.eq_ofNat_of_zero_le (show 0 ≤ nv by omega)
 have hk7 : 7 ≤ k ∧ k ≤ s.length := by omega
 clear hbig hsm hsh
 have hk8 : (4 : Int) ≤ (k : Int) := by omega
 have hk9 : (k : Int) ≤ (s.length : Int) := by omega
 obtain ⟨x, hx, hxl⟩ : ∃ x, (T s).extract 4 k = T x ∧ x.length ≤ s.length := ext_is s 4 k
 go_upto_region 13 with fail
 have h2 := heap_alloc_new w1 (mgobj mg0)
 have b2 := alloc_below w1 (mgobj mg0)
 unfold mgobj at h2 b2
 rw [hA0] at h2 b2
 generalize hw2 : World.alloc _ _ = w2
 have K2 := lh (show w2.heap[w.heap.size]? = some (.cells A0 48) from by rw [← hw2, ← hA0]; rw [← hA0] at b2 K1; exact (b2.block _ (row_ltP K1.out)).trans K1.out)
 have P2 := lh (show w2.heap[w1.heap.size]? = some (.cells A0 48) from by rw [← hw2, ← hA0]; rw [← hA0] at h2; exact h2)
 have HB2 := lh (show Below w.heap.size w w2 from by rw [← hw2]; rw [← hA0] at b2; exact bnext HB1.out b2)
 have hp0 : w.heap.size < w1.heap.size := row_ltP K1.out
 clear h2 b2 hw2 HB1 K1
 generalize w1.heap.size = p at *
 have hx9 : x.length ≤ 9000000000 := by omega
 go_wp2_with fail
 (with_reducible refine (HN1.out _ _ _ hx9).mono ?_); rintro e w3 ⟨s1, b1, k1, rfl, ⟨l1, _⟩, b3⟩
 have K3 := lh ((b3.block _ (row_ltP K2.out)).trans K2.out)
 have P3 := lh ((b3.block _ (row_ltP P2.out)).trans P2.out)
 have HB3 := lh (bnext HB2.out b3)
 clear b3 K2 P2 HB2
 go_upto_region 14 with fail
 have ba := alloc_below w3 (.cells (inc s1 b1) 172)
 have hy := heap_alloc_new w3 (.cells (inc s1 b1) 172)
 have K4 := lh ((ba.block _ (row_ltP K3.out)).trans K3.out)
 have P4 := lh ((ba.block _ (row_ltP P3.out)).trans P3.out)
 have HB4 := lh (bnext HB3.out ba)
 have HY4 := lh hy
 have hy0 : p < w3.heap.size := row_ltP P3.out
 clear ba hy K3 P3 HB3
 generalize World.alloc w3 _ = w4 at *
 generalize w3.heap.size = y1 at *
 obtain ⟨d0, d1⟩ := in_cells HY4.out
 have hs1 : s1.length ≤ 9000000000 := by omega
 go_wp2_with fail
 (with_reducible refine (HN2.out _ _ _ hs1).mono ?_); rintro e w5 ⟨s2, b2, k2, rfl, ⟨l2, _⟩, b5⟩
 have K5 := lh ((b5.block _ (row_ltP K4.out)).trans K4.out)
 have P5 := lh ((b5.block _ (row_ltP P4.out)).trans P4.out)
 have HB5 := lh (bnext HB4.out b5)
 clear b5 K4 P4 HB4 HY4 d0 d1
 go_upto_region 15 with fail
 have ba := alloc_below w5 (.cells (inc s2 b2) 172)
 have hy := heap_alloc_new w5 (.cells (inc s2 b2) 172)
 have K6 := lh ((ba.block _ (row_ltP K5.out)).trans K5.out)
 have P6 := lh ((ba.block _ (row_ltP P5.out)).trans P5.out)
 have HB6 := lh (bnext HB5.out ba)
 have HY6 := lh hy
 have hy1 : p < w5.heap.size := row_ltP P5.out
 clear ba hy K5 P5 HB5
 generalize World.alloc w5 _ = w6 at *
 generalize w5.heap.size = y at *
 go_wp2_with fail
 (with_reducible refine (HFS.out _ _).mono ?_); rintro e w7 ⟨v, bb, l, rfl, ⟨hnums, hl4, hnd, hnew⟩, b7⟩
 have K7 := lh ((b7.block _ (row_ltP K6.out)).trans K6.out)
 have P7 := lh ((b7.block _ (row_ltP P6.out)).trans P6.out)
 have HY7 := lh ((b7.block _ (row_ltP HY6.out)).trans HY6.out)
 have HB7 := lh (bnext HB6.out b7)
 have HND := lh hnd
 have HY6z := HY6
 clear b7 K6 P6 HB6 HY6 hnd
 rw [← hA0] at P7
 obtain ⟨⟨d0, e0⟩, d1, e1⟩ := (show ∀ W : World, W.heap[p]? = some (mgobj mg0) → ((W.cell? ⟨p, 0, none⟩ = some (.int .i64 0) ∧ W.frozen? ⟨p, 0, none⟩ = false) ∧ W.cell? ⟨p, 1, none⟩ = some (.int .i64 0) ∧ W.frozen? ⟨p, 1, none⟩ = false) from fun W h => ⟨⟨by rw [Lib.cell_of_heap h]; rfl, Lib.frozen_of_heap h _⟩, by rw [Lib.cell_of_heap h]; rfl, Lib.frozen_of_heap h _⟩) _ P7.out
 have hg1 := grown_setG (grown_setG (below_grownBy (Below.refl _ w7) (some p)) 0 (.int .i64 k1)) 1 (.int .i64 k2)
 have hwp : w.heap.size < w7.heap.size := row_ltP K7.out
 have hyp := row_ltP HY7.out
 have HG8 := lh (show Gs9 w ((w7.setCell ⟨p, 0, none⟩ (.int .i64 k1)).setCell ⟨p, 1, none⟩ (.int .i64 k2)) p y s2 b2 { mg0 with kind := k1, tag := k2 } from
  ⟨by unfold mgobj; rw [hA0]; exact far_setCell (far_setCell K7.out (by omega) _) (by omega) _, mg_set (m := { mg0 with kind := k1 }) (m' := { mg0 with kind := k1, tag := k2 }) (mg_set (m := mg0) (m' := { mg0 with kind := k1 }) P7.out 0 (.int .i64 k1) rfl) 1 (.int .i64 k2) rfl, far_setCell (far_setCell HY7.out (by omega) _) (by omega) _, ⟨hp0, hy1⟩, (HB7.out.setCell (p := ⟨p, 0, none⟩) (by show w.heap.size ≤ p; omega) _).setCell (p := ⟨p, 1, none⟩) (by show w.heap.size ≤ p; omega) _⟩)
 have HR8 := lh (show Rd9 ((w7.setCell ⟨p, 0, none⟩ (.int .i64 k1)).setCell ⟨p, 1, none⟩ (.int .i64 k2)) y l 0 { mg0 with kind := k1, tag := k2 } from ⟨⟨[], [], Txs.nil _, Qds.nil _, by simp, by simp, fun s hs => (by cases hs), by simp [mg0], by simp [mg0]⟩, ⟨fun ad n c e => (by cases e), fun ad n c e => (by cases e)⟩, fun i hi _ _ => rfl, fun i hi _ _ => rfl⟩)
 obtain ⟨av, cv, rfl, hncell⟩ := hnums
 have hy6 : y < w6.heap.size := row_ltP HY6z.out
 have HNC := lh (show ∀ W : World, Gr2 y p w7 W → ∀ j (h : j < l.length), ∃ b off, av = some ⟨b, off, none⟩ ∧ b < W.heap.size ∧ W.cell? ⟨b, off + j, none⟩ = some (.int .i64 l[j]) from fun W hg j hj => by
  obtain ⟨b, off, rfl, hlt, hc⟩ := hncell j hj
  have hb := hnew _ _ _ rfl
  refine ⟨b, off, rfl, Nat.lt_of_lt_of_le hlt hg.2.1, ?_⟩
  have hb2 : w6.heap.size ≤ b := hb
  rw [← hc]
  simp only [World.cell?]
  rw [hg.2.2 b hlt (by omega) (by omega)])
 have HG2 := lh (Gr2.of_p (g := y) hg1)
 have hll : l.length ≤ 4 := hl4
 have hyp2 : p < y := hy1
 clear hg1 hncell hnew K7 HY7 HB7 hwp hyp hy6 HY6z P7
 go_upto_region 18 with fail
 generalize ((w7.setCell ⟨p, 0, none⟩ (.int .i64 k1)).setCell ⟨p, 1, none⟩ (.int .i64 k2)) = w8 at *
 clear d0 e0 d1 e1
 have HS8 := lh l2
 generalize ({ mg0 with kind := k1, tag := k2 } : Mg) = m8 at *
 go_wp2_with fail
 go_loopg [17] l.length (fun kk i W => ∃ j : Nat, j ≤ l.length ∧ i = .int .i64 (j : Int) ∧ (∃ s9 b9 m9, Gs9 w W p y s9 b9 m9 ∧ Rd9 W y l j m9 ∧ Gr2 y p w7 W ∧ s9.length ≤ s.length) ∧ kk = l.length - j)
 case atStart => exact ⟨0, Nat.zero_le _, rfl, ⟨s2, b2, m8, HG8.out, HR8.out, HG2.out, by omega⟩, rfl⟩
 case round =>
  obtain ⟨j, hj, rfl, ⟨s9, b9, m9, hst, hrd, hgr, hsl⟩, hkk⟩ := hrel
  have HST := lh hst
  have HRR := lh hrd
  have HGR := lh hgr
  have HKK := lh hkk
  clear hst hrd hgr hkk HG8 HR8 HG2 HS8
  by_cases hlt : j < l.length
  ·have hki : (j : Int) < l.length := by omega
   obtain ⟨b, off, rfl, hbl, hcell⟩ := HNC.out _ HGR.out j hlt
   obtain ⟨⟨ns, qs, hmi⟩, _, hn12, hn13⟩ := HRR.out
   have hn12 := hn12 j hlt (Nat.le_refl _)
   have hn13 := hn13 j hlt (Nat.le_refl _)
   have HND2 := HND
   have HFJ := lh (show l[j] = l[j] from rfl)
   have HCL := lh (fun W (h : Below wr.heap.size wr W) => cell_below h hbl hcell)
   have HRJ := lh (fun W (h : Below wr.heap.size wr W) => HRD.out l[j] s9 b9 m9 ns qs W hn12 hn13 (hmi.below h) (by omega))
   have HMJ := lh hmi.ok
   clear hmi hn12 hn13 hcell hbl
   have HSTEP := lh (fun (n : Nat) (mx : Mg) (W1 W' : World) ns1 qs1 (hy : y < n) (hin : MgIn W1 mx ns1 qs1) (h1 : mx.names = m9.names ∨ (l[j] = 12 ∧ NewF n mx.names)) (h2 : mx.qids = m9.qids ∨ (l[j] = 13 ∧ NewF n mx.qids)) (k1 : Gr2 y p wr W') (k2 : Gr2 y p W1 W') => Rd9.step HRR.out HND.out hlt hy hyp2 ns1 qs1 W1 hin h1 h2 k1 k2)
   clear HFJ
   generalize hff : l[j] = f at *
   clear hff
   go_upto_region 21 with fail
   have hdr := below_drew1 wr
   have HSD := lh (HST.out.next hdr)
   have hS0 : (fun W' => (W'.cell? ⟨y, 0, none⟩ = some (.string (T s9)) ∧ W'.cell? ⟨y, 1, none⟩ = some (.bool b9)) ∧ W'.rangeAt p 0 m9.cs ∧ W'.cell? ⟨b, off + j, none⟩ = some (.int .i64 f)) wr.drew := ⟨⟨by rw [Lib.cell_of_heap HSD.out.2.2.1]; rfl, by rw [Lib.cell_of_heap HSD.out.2.2.1]; rfl⟩, rng_of HSD.out.2.1, HCL.out _ hdr⟩
   have HZL9 := lh (HZL.out m9)
   refine wp_region_gate (S := (fun W' => (W'.cell? ⟨y, 0, none⟩ = some (.string (T s9)) ∧ W'.cell? ⟨y, 1, none⟩ = some (.bool b9)) ∧ W'.rangeAt p 0 m9.cs ∧ W'.cell? ⟨b, off + j, none⟩ = some (.int .i64 f))) 6 (by kernel_rfl) ?_
   refine wpAnyG_takeA (i := 2) (d := 87) (v := ?va2) rfl rfl (by kernel_rfl) (by kernel_rfl) (by kernel_rfl) (by kernel_rfl) (fun _ _ _ h => h) (Or.inl ⟨by rfl, ?ya2⟩) (by assumption) ?ra2
   case ya2 => (intro w hSw; go_simp <;> with_reducible rfl)
   try simp only [Act.put, px1, px2, px3]
   refine wpAnyG_takeA (i := 3) (d := 88) (v := ?va3) rfl rfl (by kernel_rfl) (by kernel_rfl) (by kernel_rfl) (by kernel_rfl) (fun _ _ _ h => h) (Or.inl ⟨by rfl, ?ya3⟩) (by assumption) ?ra3
   case ya3 => (intro w hSw; go_simp <;> with_reducible rfl)
   try simp only [Act.put, px1, px2, px3]
   refine wpAnyG_takeA (i := 4) (d := 89) (v := ?va4) rfl rfl (by kernel_rfl) (by kernel_rfl) (by kernel_rfl) (by kernel_rfl) (fun _ _ _ h => h) (Or.inl ⟨by rfl, ?ya4⟩) (by assumption) ?ra4
   case ya4 => (intro w hSw; go_simp <;> with_reducible rfl)
   try simp only [Act.put, px1, px2, px3]
   refine wpAnyG_takeS (i := 0) (d := 85) (v := .agg (inc s9 b9)) rfl rfl (by kernel_rfl) (by kernel_rfl) (by kernel_rfl) (by kernel_rfl) (fun _ _ _ h => h) (Or.inl ⟨by rfl, ?yc0⟩) (by assumption) ?_
   case yc0 => (intro w hSw; obtain ⟨⟨hSw0, hSw1⟩, _⟩ := hSw; go_simp <;> with_reducible rfl)
   try simp only [Act.put, px1, px2, px3]
   refine wpAnyG_takeS (i := 1) (d := 86) (v := .agg m9.cs.toArray) rfl rfl (by kernel_rfl) (by kernel_rfl) (by kernel_rfl) (by kernel_rfl) (fun _ _ _ h => h) (yieldsIf_load_mid (by rfl) 48 _ rfl p 0 (by rfl) m9.cs _ (fun _ h => h.2.1) HU.out rfl HZL9.out) (by assumption) ?_
   try simp only [Act.put, px1, px2, px3]
   refine wpAnyG_takeS (i := 5) (d := 90) (v := .int .i64 f) rfl rfl (by kernel_rfl) (by kernel_rfl) (by kernel_rfl) (by kernel_rfl) (fun _ _ _ h => h) (Or.inl ⟨by rfl, ?yc5⟩) (by assumption) ?_
   case yc5 => (intro w hSw; obtain ⟨_, _, hSw2⟩ := hSw; go_simp <;> with_reducible rfl)
   try simp only [Act.put, px1, px2, px3]
   clear hS0
   refine wpAnyG_gate rfl (by kernel_rfl) (by kernel_rfl) (fun K hK => ?_)
   go_simp
   go_wp2_with (go_at_call 122; (with_reducible refine (HRJ.out _ hdr).mono ?_); rintro e w10 ⟨s10, b10, mx, ns1, qs1, rfl, ⟨l10, hin, hn12, hn13⟩, bb10⟩)
   have HS10 := lh (HSD.out.next bb10)
   have HIN := lh hin
   have HN1 := lh hn12
   have HN2 := lh hn13
   have HBB := lh (bnext hdr bb10)
   have HYL := lh (row_ltP HSD.out.2.2.1)
   clear hin hn12 hn13 bb10 hdr HSD HST
   refine hK.out _ _ ?_
   clear hK K
   try simp only [Act.put, px1, px2, px3]
   refine wpAnyH_takeD (i := 7) (d := 84) (v := ?vb7) rfl rfl (by kernel_rfl) (by kernel_rfl) (by kernel_rfl) (fun _ _ _ h => h) (Or.inl ⟨by rfl, ?yb7⟩) trivial ?rb7
   case yb7 => (intro w hSw; clear hSw; go_simp <;> with_reducible rfl)
   try simp only [Act.put, px1, px2, px3]
   refine wpAnyH_takeD (i := 8) (d := 92) (v := ?vb8) rfl rfl (by kernel_rfl) (by kernel_rfl) (by kernel_rfl) (fun _ _ _ h => h) (Or.inl ⟨by rfl, ?yb8⟩) trivial ?rb8
   case yb8 => (intro w hSw; clear hSw; go_simp <;> with_reducible rfl)
   try simp only [Act.put, px1, px2, px3]
   refine wpAnyH_takeD (i := 9) (d := 93) (v := ?vb9) rfl rfl (by kernel_rfl) (by kernel_rfl) (by kernel_rfl) (fun _ _ _ h => h) (Or.inl ⟨by rfl, ?yb9⟩) trivial ?rb9
   case yb9 => (intro w hSw; clear hSw; go_simp <;> with_reducible rfl)
   try simp only [Act.put, px1, px2, px3]
   have HZ1 := lh (in_size s10 b10)
   have HSI : RowKit.Hid ((inc s9 b9).size = (inc s10 b10).size) := lh rfl
   have HAI : RowKit.Hid ((inc s10 b10).all (·.oneCell') = true) := lh (by simp [inc, Value.oneCell'])
   have HZ2 := lh (HZM.out mx)
   have HYY := lh (HYX.out m9 mx)
   have HAL := lh (HAM.out mx HIN.out.ok)
   obtain ⟨J1, J2, J3, ⟨j4, j5⟩, J6⟩ := HS10.out
   have H3 := lh J3
   have hyn : y ≠ p := by omega
   have hyw : y ≠ w.heap.size := by omega
   have hpw : p ≠ w.heap.size := by omega
   have hwy : w.heap.size ≤ y := by omega
   have hwp : w.heap.size ≤ p := by omega
   have X1 := lh (setRow_far (inc s10 b10) J1 hyw)
   have X2 := lh (setRow_far (inc s10 b10) J2 hyn)
   have X3 := lh (heap_setRow_same (cs' := inc s10 b10) J3)
   have XB := lh (below_setRow J6 hwy (inc s10 b10))
   have XG := lh (Gr2.of_g (p := p) (grown_setRow (W := w10) (g := y) (inc s10 b10)))
   clear J1 J2 J3 J6 HS10
   refine rdy 10 (fun K hK => ?_)
   refine step_store_row rfl 172 _ _ rfl rfl y (inc s10 b10) rfl rfl 172 (inc s9 b9) H3.out HZ1.out HSI.out HAI.out ?_
   refine hK.out _ _ trivial (fun _ => ?_)
   clear hK K H3
   generalize World.setRow _ _ _ = wa at *
   try simp only [Act.put, px1, px2, px3]
   have Y1 := lh (setRow_far mx.cs.toArray X1.out hpw)
   have Y3 := lh (setRow_far mx.cs.toArray X3.out hyn.symm)
   have Y2 := lh (heap_setRow_same (cs' := mx.cs.toArray) X2.out)
   have YB := lh (below_setRow XB.out hwp mx.cs.toArray)
   have YG := lh (XG.out.trans (Gr2.of_p (g := y) (grown_setRow (W := wa) (g := p) mx.cs.toArray)))
   refine rdy 11 (fun K hK => ?_)
   refine step_store_row rfl 48 _ _ rfl rfl p mx.cs.toArray rfl rfl 48 m9.cs.toArray X2.out HZ2.out HYY.out HAL.out ?_
   refine hK.out _ _ trivial (fun _ => ?_)
   clear hK K X1 X2 X3 XB XG
   generalize World.setRow _ _ _ = wb at *
   try simp only [Act.put, px1, px2, px3]
   refine wpAnyH_done (by kernel_rfl) ?_ _
   have HGB := lh ((Gr2.of_below (g := y) (p := p) HBB.out).trans YG.out)
   have HR9 := lh (HSTEP.out _ mx w10 wb ns1 qs1 HYL.out HIN.out HN1.out HN2.out HGB.out YG.out)
   have HG9 := lh (HGR.out.trans HGB.out)
   have HST9 := lh (show Gs9 w wb p y s10 b10 mx from ⟨Y1.out, Y2.out, Y3.out, ⟨j4, j5⟩, YB.out⟩)
   clear Y1 Y2 Y3 YB YG HGB HSTEP HRR HGR HBB
   go_wp2_with fail
   have hkk := HKK.out
   go_roundg (l.length - (j + 1))
   case measure => omega
   case rel => exact ⟨j + 1, by omega, by go_num, ⟨s10, b10, mx, HST9.out, HR9.out, HG9.out, by omega⟩, rfl⟩
  ·have hlt2 : decide ((j : Int) < l.length) = false := decide_eq_false (by omega)
   obtain ⟨⟨ns, qs, hmi⟩, _, _, _⟩ := HRR.out
   have HMI := lh hmi
   clear hmi HNC HRD HRR HGR HKK HND
   obtain ⟨K9, P9, Y9, _, B9⟩ := HST.out
   unfold mgobj at K9 P9
   rw [hA0] at K9
   have KR := lh K9
   have KP := lh P9
   have HB9 := lh B9
   obtain ⟨c0, c1⟩ := in_cells Y9
   clear K9 P9 Y9 B9 HST
   have HFI := lh (fun (W : World) (hb : Below w.heap.size w W) => (show GSay s.length w (.returned (.tuple #[.agg m9.cs.toArray, .int .i64 (k : Int), .int .i64 0])) W from ⟨m9, k, 0, rfl, ⟨HMI.out.ok, fun _ => by omega⟩, hb⟩))
   have HCM := lh (fun W (h : Below wr.heap.size wr W) => HCK.out m9 ns qs W (HMI.out.below h))
   have HZ9 := lh (HZM.out m9)
   have HA9 := lh (HAM.out m9 HMI.out.ok)
   have HY9 := lh (show A0.size = m9.cs.toArray.size from by rw [← hA0]; rfl)
   generalize m9.cs.toArray = A9 at *
   cases bb
   ·go_wp2_with (first | refine wpList_build_at rfl 48 _ rfl A0 (by simp only [List.map_toArray, List.map_nil]; exact HBZ.out) ?_ | refine wpList_store_row rfl 48 _ _ rfl w.heap.size A0 rfl rfl 48 A0 KR.out HZ0.out rfl HA0.out ?_)
    refine bodyPost_ret (v := .tuple #[.agg A0, .int .i64 0, .int .i64 2]) ?_ rfl (HFE.out 2 (by omega) _ (below_setRow HB9.out (Nat.le_refl _) _))
    exact results_cell_row3 Tryz.results63 _ _ w.heap.size 48 A0 (0, 0) _ _ _ rfl rfl rfl (heap_setRow_same KR.out) HU.out rfl HZ0.out
   ·cases b9
    ·by_cases hs9 : s9 = []
     ·subst hs9
      go_wp2_with (refine wpList_load_row rfl 48 _ rfl p rfl 48 A9 (0, 0) _ KP.out HU.out rfl HZ9.out ?_)
      (with_reducible refine (HCM.out _ (Below.refl _ _)).mono ?_); rintro e w11 ⟨kc, rfl, _, b11⟩
      have KR := lh ((b11.block _ (row_ltP KR.out)).trans KR.out)
      have KP := lh ((b11.block _ (row_ltP KP.out)).trans KP.out)
      have HB11 := lh (bnext HB9.out b11)
      clear b11 c0 c1
      by_cases hkc : kc = 0
      ·subst hkc
       go_wp2_with (first | refine wpList_load_row rfl 48 _ rfl p rfl 48 A9 (0, 0) _ KP.out HU.out rfl HZ9.out ?_ | refine wpList_store_row rfl 48 _ _ rfl w.heap.size A9 rfl rfl 48 A0 KR.out HZ9.out HY9.out HA9.out ?_)
       refine bodyPost_ret (v := .tuple #[.agg A9, .int .i64 (k : Int), .int .i64 0]) ?_ rfl (HFI.out _ (below_setRow HB11.out (Nat.le_refl _) _))
       exact results_cell_row3 Tryz.results63 _ _ w.heap.size 48 A9 (0, 0) _ _ _ rfl rfl rfl (heap_setRow_same KR.out) HU.out rfl HZ9.out
      ·have hkc2 : (kc != 0) = true := by simp [hkc]
       go_wp2_with (first | refine wpList_build_at rfl 48 _ rfl A0 (by simp only [List.map_toArray, List.map_nil]; exact HBZ.out) ?_ | refine wpList_store_row rfl 48 _ _ rfl w.heap.size A0 rfl rfl 48 A0 KR.out HZ0.out rfl HA0.out ?_)
       refine bodyPost_ret (v := .tuple #[.agg A0, .int .i64 0, .int .i64 kc]) ?_ rfl (HFE.out kc (by assumption) _ (below_setRow HB11.out (Nat.le_refl _) _))
       exact results_cell_row3 Tryz.results63 _ _ w.heap.size 48 A0 (0, 0) _ _ _ rfl rfl rfl (heap_setRow_same KR.out) HU.out rfl HZ0.out
     ·have hne : s9.isEmpty = false := by cases s9; exact absurd rfl hs9; rfl
      go_wp2_with (first | refine wpList_build_at rfl 48 _ rfl A0 (by simp only [List.map_toArray, List.map_nil]; exact HBZ.out) ?_ | refine wpList_store_row rfl 48 _ _ rfl w.heap.size A0 rfl rfl 48 A0 KR.out HZ0.out rfl HA0.out ?_)
      refine bodyPost_ret (v := .tuple #[.agg A0, .int .i64 0, .int .i64 2]) ?_ rfl (HFE.out 2 (by omega) _ (below_setRow HB9.out (Nat.le_refl _) _))
      exact results_cell_row3 Tryz.results63 _ _ w.heap.size 48 A0 (0, 0) _ _ _ rfl rfl rfl (heap_setRow_same KR.out) HU.out rfl HZ0.out
    ·go_wp2_with (first | refine wpList_build_at rfl 48 _ rfl A0 (by simp only [List.map_toArray, List.map_nil]; exact HBZ.out) ?_ | refine wpList_store_row rfl 48 _ _ rfl w.heap.size A0 rfl rfl 48 A0 KR.out HZ0.out rfl HA0.out ?_)
     refine bodyPost_ret (v := .tuple #[.agg A0, .int .i64 0, .int .i64 2]) ?_ rfl (HFE.out 2 (by omega) _ (below_setRow HB9.out (Nat.le_refl _) _))
     exact results_cell_row3 Tryz.results63 _ _ w.heap.size 48 A0 (0, 0) _ _ _ rfl rfl rfl (heap_setRow_same KR.out) HU.out rfl HZ0.out
/-- A list, a text and a fault. -/
def SpSay (w : World) (e : Ending) (w' : World) : Prop := ∃ ao n c r k, e = .returned (.tuple #[.slice ao n c, .string (T r), .int .i64 k]) ∧ Below w.heap.size w w'
theorem spSay {w w' : World} (ao : Option Addr) (n c : Nat) (r : List UInt8) (k : Int) (h : Below w.heap.size w w') : SpSay w (.returned (.tuple #[.slice ao n c, .string (T r), .int .i64 k])) w' := ⟨ao, n, c, r, k, rfl, h⟩
theorem rsplit_any (s : List UInt8) (msz : Int) (w : World) (hs : s.length ≤ 9000000000) : Calls Tryz.prog 23 #[.string (T s), .int .i64 msz] w (SpSay w) := by
 obtain ⟨i0, hi, hz0, hz1, hz2⟩ := info_parts (P := Tryz.prog) (e := 48) (z := .agg mg0.cs.toArray) (size := 39) (bytes := 424) (by kernel_rfl)
 have HG := lh (fun (r : List UInt8) W (h : r.length ≤ 9000000000) => show Calls Tryz.prog 62 #[.string (T r), .int .i64 0, .int .i64 4] W fun e w' => ∃ a b c : Int, e = .returned (.tuple #[.int .i64 a, .int .i64 b, .int .i64 c]) ∧ w' = W from
  (rget_any (T r) 0 4 W (by rw [T_size]; omega)).mono fun e w' h => ⟨_, _, _, h.1, h.2.symm⟩)
 have HM := lh (fun (r : List UInt8) W (h : r.length ≤ 9000000000) => r9get_any r W h)
 have HU := lh (Tryz.underlying48)
 have HZM := lh (fun m : Mg => mg_size m)
 have HAM := lh (fun (m : Mg) (h : m.ok) => mg_all m h)
 have HOM := lh (fun (m : Mg) (h : m.ok) => m.one h)
 have HYM := lh (show ∀ m : Mg, mg0.cs.toArray.size = m.cs.toArray.size from fun m => rfl)
 have HLM := lh (show ∀ m : Mg, m.cs.length = 39 from fun m => rfl)
 have HBS := lh (show ∀ x : Mg, Tryz.prog.builtSlice 48 1 [(0, .agg x.cs.toArray)] = some x.cs.toArray from fun x => by kernel_rfl)
 have hsz : (T s).size = s.length := T_size s
 go_enter Tryz.func23, Tryz.ntmps23
 go_upto_region 2 with fail
 go_cut [22] (fun v w' => ∃ b : Bool, v = .bool b ∧ w = w')
 case first =>
  cases hb0 : (msz == 0)
  ·cases hb1 : decide ((8192 : Int) < msz)
   ·go_wp2_with fail
    go_meet
    exact ⟨_, rfl, rfl⟩
   ·go_wp2_with fail
    go_meet
    exact ⟨_, rfl, rfl⟩
  ·go_wp2_with fail
   go_meet
   exact ⟨_, rfl, rfl⟩
 case rest =>
 obtain ⟨bz, rfl, rfl⟩ := hcut
 go_upto_if 22 with fail
 go_cut [7] (fun v w' => ∃ L : Int, v = .int .i64 L ∧ w = w')
 case first =>
  go_wp2_with fail
  all_goals (go_meet; exact ⟨_, rfl, rfl⟩)
 case rest =>
 obtain ⟨L, rfl, rfl⟩ := hcut
 go_wp2_with fail
 go_loopg [8, 9] s.length (fun k lv rv W => ∃ (r : List UInt8) (n : Nat) (xs : List Value), rv = .string (T r) ∧ (W.ownsRow w.heap.size 48 39 lv n xs ∧ n + r.length ≤ s.length ∧ Below w.heap.size w W) ∧ k = r.length)
 case atStart => exact ⟨s, 0, [], rfl, ⟨⟨by simp, Or.inl ⟨rfl, rfl⟩⟩, by omega, Below.refl _ _⟩, rfl⟩
 case round =>
  obtain ⟨r, n, xs, rfl, ⟨hown, hnr, hb⟩, rfl⟩ := hrel
  have HO := lh hown
  have HB := lh hb
  clear hown hb
  obtain ⟨ao, cp, rfl, _⟩ := own_form HO.out
  have hszr : (T r).size = r.length := T_size r
  have hr9 : r.length ≤ 9000000000 := by omega
  by_cases h4 : (r.length : Int) < 4
  ·have k4 : decide ((4 : Int) ≤ (r.length : Int)) = false := decide_eq_false (by omega)
   go_wp2_with fail
   go_ret3
   exact spSay _ _ _ _ _ HB.out
  have k4 : (4 : Int) ≤ (r.length : Int) := by omega
  go_wp2_with fail
  (with_reducible refine (HG.out _ _ hr9).mono ?_); rintro e wx ⟨a, b, c, rfl, rfl⟩
  by_cases hL : L < a
  ·go_wp2_with fail
   go_ret3
   exact spSay none 0 0 [] 19 HB.out
  have kL : decide (L < a) = false := decide_eq_false hL
  by_cases h7 : a < 7
  ·go_wp2_with fail
   go_ret3
   exact spSay none 0 0 [] 19 HB.out
  have k7 : decide (a < 7) = false := decide_eq_false h7
  by_cases hlen : (r.length : Int) < a
  ·go_wp2_with fail
   go_ret3
   exact spSay _ _ _ _ _ HB.out
  have kl : decide ((r.length : Int) < a) = false := decide_eq_false hlen
  go_wp2_with fail
  (with_reducible refine (HM.out _ _ hr9).mono ?_); rintro e w3 ⟨m, k, c2, rfl, ⟨hok, hkb⟩, b3⟩
  have HO3 := lh (own_next HO.out b3)
  have HB3 := lh (bnext HB.out b3)
  have HKB := lh hkb
  clear b3 HO HB hkb
  have HZ := lh (HZM.out m)
  have HA := lh (HAM.out m hok)
  have HO1 := lh (HOM.out m hok)
  have HY := lh (HYM.out m)
  have HL := lh (HLM.out m)
  have HBX := lh (HBS.out m)
  have hz3 := heap_alloc_new w3 (mgobj mg0)
  unfold mgobj at hz3
  go_upto_region 12 with (refine wpList_store_row rfl 48 _ _ rfl w3.heap.size m.cs.toArray rfl rfl 48 mg0.cs.toArray hz3 HZ.out HY.out HA.out ?_)
  generalize hw4 : World.setRow _ _ _ = w4
  have b4 := (show Below w3.heap.size w3 w4 from by rw [← hw4]; exact below_setRow (alloc_below w3 _) (Nat.le_refl _) _)
  have K4 := lh (show w4.heap[w3.heap.size]? = some (.cells m.cs.toArray 48 (0, 0)) from by rw [← hw4]; exact heap_setRow_same (heap_alloc_new w3 _))
  have HO4 := lh (own_next HO3.out b4)
  have HB4 := lh (bnext HB3.out b4)
  clear hz3 hw4 b4 HO3 HB3 HA HY
  generalize w3.heap.size = g at *
  generalize m.cs = LC at *
  by_cases hc : c2 = 0
  rotate_left
  ·have kc : (c2 != 0) = true := by simp [hc]
   go_wp2_with fail
   go_ret3
   exact spSay none 0 0 [] c2 HB4.out
  subst hc
  obtain ⟨hk7, hkr⟩ := HKB.out rfl
  obtain ⟨q, rfl⟩ := Int.eq_ofNat_of_zero_le (show 0 ≤ k by omega)
  have hq7 : 7 ≤ q := by omega
  have hqr : q ≤ r.length := by omega
  have hqi : (q : Int) ≤ (r.length : Int) := by omega
  clear hk7 hkr HKB
  have ba := alloc_below w4 (.cells LC.toArray 48)
  have HO5 := lh (HO4.out.alloc (.cells LC.toArray 48))
  have hw5 : w.heap.size ≤ (w4.alloc (.cells LC.toArray 48)).heap.size := by have h1 := ba.size; have h2 := HB4.out.size; omega
  have HB5 := lh (bnext HB4.out ba)
  clear ba
  go_wp2_with (first | refine wpList_load_row rfl 48 _ rfl g rfl 48 LC.toArray (0, 0) _ K4.out HU.out rfl HZ.out ?_ | refine Great.wpList_buildSliceTo rfl 72 48 1 _ rfl w4.heap.size rfl _ rfl Tryz.underlying72 LC.toArray (by simp only [List.map_toArray, List.map_cons, List.map_nil]; exact HBX.out) ?_ | (at_builtin; refine wpList_append_any _ rfl _ _ 72 rfl w.heap.size 48 i0 (.agg mg0.cs.toArray) 39 424 Tryz.underlying72 hi hz0 hz1 hz2 rfl (by decide) (.slice ao n cp) n xs rfl HO5.out (some ⟨w4.heap.size, 0, none⟩) 1 1 LC rfl (fun h => nomatch h) (by rw [HL.out]) ?c2 HO1.out ?c4 ?c5 hw5 ?_))
  case c2 =>
   intro a2 ha2
   cases ha2
   exact World.news_of_block (t := 48) (fr := (0, 0)) (heap_alloc_new w4 _)
  case c4 => unfold maxLen; omega
  case c5 => omega
  intro v6 w6 hown6 hgrow6 _
  have HO6 := lh hown6
  have HB6 := lh (show Below w.heap.size w w6 from HB5.out.trans ⟨hgrow6.os, hgrow6.tape, hgrow6.output, hgrow6.size, fun i hi => hgrow6.block i (by omega) (fun e => by have := (HO5.out.lt i e.symm).1; omega)⟩)
  have hx : (T r).extract q r.length = T (r.drop q) := by
   rw [extract_T, show (T r).data.toList = r from by simp [T], List.take_of_length_le (by simp)]
  have hdl : (r.drop q).length = r.length - q := List.length_drop
  clear hown6 hgrow6 HO5 HB5 HO4 HB4 K4 hw5
  go_wp2_with fail
  generalize r.drop q = r2 at *
  go_roundg r2.length
  case measure => omega
  case rel => exact ⟨r2, n + 1, _, rfl, ⟨HO6.out, by omega, HB6.out⟩, rfl⟩
end Go.Proofs.YtfibaopngpfmjaaGreatDoor
