/- The reference's read of a field, the other fields of fixed form. Conditions: those that each theorem names. -/
import Derived.Test.YtfibaopngpfmjaaGreatDoorRzI1
set_option linter.unusedVariables false
set_option linter.unusedSimpArgs false
set_option maxRecDepth 100000
set_option maxHeartbeats 4000000
namespace Go.Proofs.YtfibaopngpfmjaaGreatDoor
open Go.RowKit Go.Proofs
theorem rread_11 (s : List UInt8) (b : Bool) (m : Mg) (ns : List (List UInt8)) (qs : List (Int × Int × Int)) (w : World) (hm : MgIn w m ns qs) (hs : s.length ≤ 9000000000) : Calls Tryz.prog 122 #[.agg (inc s b), .agg m.cs.toArray, .int .i64 11] w (RdSay s.length 11 m w) := by
 have HN := lh (fun W => show Calls Tryz.prog 120 #[.agg (inc s b), .int .i64 4] W (InI s.length 4 W) from r9num_any s b 4 (by omega) (by omega) W hs)
 have HS0 := lh (RdSt.start w s b m)
 have HOKM := lh hm.ok
 have HM := lh hm
 go_enter Tryz.func122, Tryz.ntmps122
 go_upto_region 1 with fail
 generalize hw1 : World.alloc _ _ = w1
 have HS1 := lh (show RdSt w w1 w.heap.size (w.heap.size + 1) (w.heap.size + 1 + 1) (w.heap.size + 1 + 1 + 1) s b m from by rw [← hw1]; exact HS0.out)
 clear hw1 HS0 hm
 generalize w.heap.size + 1 + 1 + 1 = q at HS1 ⊢
 generalize w.heap.size + 1 + 1 = r at HS1 ⊢
 generalize w.heap.size + 1 = p at HS1 ⊢
 generalize w.heap.size = g at HS1 ⊢
 obtain ⟨⟨c0, c1⟩, _, _⟩ := HS1.out.cells
 go_wp2_with fail
 (with_reducible refine (HN.out _).mono ?_); rintro e w2 ⟨s1, b1, k1, rfl, ⟨l1, _⟩, b2⟩
 clear c0 c1 HN
 have HS2 := lh (HS1.out.next b2)
 obtain ⟨⟨c0, c1⟩, f0, f1⟩ := HS2.out.cells
 obtain ⟨d0, e0⟩ := (show ∀ W : World, W.heap[p]? = some (mgobj m) → (W.cell? ⟨p, 3, none⟩ = some (.int .i64 m.newFid) ∧ W.frozen? ⟨p, 3, none⟩ = false) from fun W h => ⟨by rw [Lib.cell_of_heap h]; rfl, Lib.frozen_of_heap h _⟩) _ HS2.out.2.1
 have HS3 := lh ((HS2.out.setX (s' := s1) (b' := b1)).setM (m' := { m with newFid := k1 }) 3 (.int .i64 k1) rfl)
 clear b2 HS1 HS2
 go_upto_region 39 with fail
 skip; try (rename (∀ (a : Act) (w : World), Code.wp _ _ _ a w → _) => ax1; have AX1 := lh ax1; clear ax1)
 generalize (((w2.setCell ⟨g, 0, none⟩ (.string (T s1))).setCell ⟨g, 1, none⟩ (.bool b1)).setCell ⟨p, 3, none⟩ (.int .i64 k1)) = w9 at *
 clear c0 c1 f0 f1 d0 e0
 have HOK := lh (show ({ m with newFid := k1 } : Mg).ok from HOKM.out)
 have HFIN := lh (finOk_old (W := w9) (r := r) (q := q) (show MgIn w ({ m with newFid := k1 } : Mg) ns qs from ⟨HM.out.1, HM.out.2.1, HM.out.2.2.1, HM.out.2.2.2.1, HM.out.2.2.2.2.1, HM.out.2.2.2.2.2.1, HM.out.2.2.2.2.2.2⟩))
 have HLE := lh (show s1.length ≤ s.length from l1)
 have HN12 := lh (show ({ m with newFid := k1 } : Mg).names = m.names ∨ ((11 : Int) = 12 ∧ NewF w.heap.size ({ m with newFid := k1 } : Mg).names) from Or.inl rfl)
 have HN13 := lh (show ({ m with newFid := k1 } : Mg).qids = m.qids ∨ ((11 : Int) = 13 ∧ NewF w.heap.size ({ m with newFid := k1 } : Mg).qids) from Or.inl rfl)
 clear HM HOKM
 generalize ({ m with newFid := k1 } : Mg) = mx at *
 have HS := HS3
 clear HS3
 have HY := lh HS.out.1
 have hyr : r ≠ g := by have := HS.out.2.2.2.2.1; omega
 have hyq : q ≠ g := by have := HS.out.2.2.2.2.1; omega
 have hS0 := sx_start HS.out HY.out
 refine wp_region_held_drew (S := (Sx g p s1 b1 mx)) (by kernel_rfl) hS0 (fun hHeld => ?_)
 refine tk2 (v := .agg (inc s1 b1)) 0 159 ?_
 refine tkY (v := .agg mx.cs.toArray) 1 160 rfl (yM (by rfl) _ rfl (by rfl)) ?_
 refine rd_fin 2 3 HS.out HY.out hyr hyq HOK.out b1 (fun wb Y3 Y4 YB YG => ?_)
 clear hHeld hS0
 try have ax1 := AX1.out
 go_wp2_with fail
 exact rd_ret Tryz.results122 rfl rfl rfl Y3 Y4 ⟨HLE.out, HFIN.out _ YB YG, HN12.out, HN13.out⟩ YB
theorem rread_14 (s : List UInt8) (b : Bool) (m : Mg) (ns : List (List UInt8)) (qs : List (Int × Int × Int)) (w : World) (hm : MgIn w m ns qs) (hs : s.length ≤ 9000000000) : Calls Tryz.prog 122 #[.agg (inc s b), .agg m.cs.toArray, .int .i64 14] w (RdSay s.length 14 m w) := by
 have HN := lh (fun W => show Calls Tryz.prog 120 #[.agg (inc s b), .int .i64 1] W (InI s.length 1 W) from r9num_any s b 1 (by omega) (by omega) W hs)
 have HS0 := lh (RdSt.start w s b m)
 have HOKM := lh hm.ok
 have HM := lh hm
 go_enter Tryz.func122, Tryz.ntmps122
 go_upto_region 1 with fail
 generalize hw1 : World.alloc _ _ = w1
 have HS1 := lh (show RdSt w w1 w.heap.size (w.heap.size + 1) (w.heap.size + 1 + 1) (w.heap.size + 1 + 1 + 1) s b m from by rw [← hw1]; exact HS0.out)
 clear hw1 HS0 hm
 generalize w.heap.size + 1 + 1 + 1 = q at HS1 ⊢
 generalize w.heap.size + 1 + 1 = r at HS1 ⊢
 generalize w.heap.size + 1 = p at HS1 ⊢
 generalize w.heap.size = g at HS1 ⊢
 obtain ⟨⟨c0, c1⟩, _, _⟩ := HS1.out.cells
 go_wp2_with fail
 (with_reducible refine (HN.out _).mono ?_); rintro e w2 ⟨s1, b1, k1, rfl, ⟨l1, _⟩, b2⟩
 clear c0 c1 HN
 have HS2 := lh (HS1.out.next b2)
 obtain ⟨⟨c0, c1⟩, f0, f1⟩ := HS2.out.cells
 obtain ⟨d0, e0⟩ := (show ∀ W : World, W.heap[p]? = some (mgobj m) → (W.cell? ⟨p, 16, none⟩ = some (.int .i64 m.mode) ∧ W.frozen? ⟨p, 16, none⟩ = false) from fun W h => ⟨by rw [Lib.cell_of_heap h]; rfl, Lib.frozen_of_heap h _⟩) _ HS2.out.2.1
 have HS3 := lh ((HS2.out.setX (s' := s1) (b' := b1)).setM (m' := { m with mode := k1 }) 16 (.int .i64 k1) rfl)
 clear b2 HS1 HS2
 go_upto_region 39 with fail
 skip; try (rename (∀ (a : Act) (w : World), Code.wp _ _ _ a w → _) => ax1; have AX1 := lh ax1; clear ax1)
 generalize (((w2.setCell ⟨g, 0, none⟩ (.string (T s1))).setCell ⟨g, 1, none⟩ (.bool b1)).setCell ⟨p, 16, none⟩ (.int .i64 k1)) = w9 at *
 clear c0 c1 f0 f1 d0 e0
 have HOK := lh (show ({ m with mode := k1 } : Mg).ok from HOKM.out)
 have HFIN := lh (finOk_old (W := w9) (r := r) (q := q) (show MgIn w ({ m with mode := k1 } : Mg) ns qs from ⟨HM.out.1, HM.out.2.1, HM.out.2.2.1, HM.out.2.2.2.1, HM.out.2.2.2.2.1, HM.out.2.2.2.2.2.1, HM.out.2.2.2.2.2.2⟩))
 have HLE := lh (show s1.length ≤ s.length from l1)
 have HN12 := lh (show ({ m with mode := k1 } : Mg).names = m.names ∨ ((14 : Int) = 12 ∧ NewF w.heap.size ({ m with mode := k1 } : Mg).names) from Or.inl rfl)
 have HN13 := lh (show ({ m with mode := k1 } : Mg).qids = m.qids ∨ ((14 : Int) = 13 ∧ NewF w.heap.size ({ m with mode := k1 } : Mg).qids) from Or.inl rfl)
 clear HM HOKM
 generalize ({ m with mode := k1 } : Mg) = mx at *
 have HS := HS3
 clear HS3
 have HY := lh HS.out.1
 have hyr : r ≠ g := by have := HS.out.2.2.2.2.1; omega
 have hyq : q ≠ g := by have := HS.out.2.2.2.2.1; omega
 have hS0 := sx_start HS.out HY.out
 refine wp_region_held_drew (S := (Sx g p s1 b1 mx)) (by kernel_rfl) hS0 (fun hHeld => ?_)
 refine tk2 (v := .agg (inc s1 b1)) 0 159 ?_
 refine tkY (v := .agg mx.cs.toArray) 1 160 rfl (yM (by rfl) _ rfl (by rfl)) ?_
 refine rd_fin 2 3 HS.out HY.out hyr hyq HOK.out b1 (fun wb Y3 Y4 YB YG => ?_)
 clear hHeld hS0
 try have ax1 := AX1.out
 go_wp2_with fail
 exact rd_ret Tryz.results122 rfl rfl rfl Y3 Y4 ⟨HLE.out, HFIN.out _ YB YG, HN12.out, HN13.out⟩ YB
theorem rread_15 (s : List UInt8) (b : Bool) (m : Mg) (ns : List (List UInt8)) (qs : List (Int × Int × Int)) (w : World) (hm : MgIn w m ns qs) (hs : s.length ≤ 9000000000) : Calls Tryz.prog 122 #[.agg (inc s b), .agg m.cs.toArray, .int .i64 15] w (RdSay s.length 15 m w) := by
 have HN := lh (fun W => show Calls Tryz.prog 120 #[.agg (inc s b), .int .i64 4] W (InI s.length 4 W) from r9num_any s b 4 (by omega) (by omega) W hs)
 have HS0 := lh (RdSt.start w s b m)
 have HOKM := lh hm.ok
 have HM := lh hm
 go_enter Tryz.func122, Tryz.ntmps122
 go_upto_region 1 with fail
 generalize hw1 : World.alloc _ _ = w1
 have HS1 := lh (show RdSt w w1 w.heap.size (w.heap.size + 1) (w.heap.size + 1 + 1) (w.heap.size + 1 + 1 + 1) s b m from by rw [← hw1]; exact HS0.out)
 clear hw1 HS0 hm
 generalize w.heap.size + 1 + 1 + 1 = q at HS1 ⊢
 generalize w.heap.size + 1 + 1 = r at HS1 ⊢
 generalize w.heap.size + 1 = p at HS1 ⊢
 generalize w.heap.size = g at HS1 ⊢
 obtain ⟨⟨c0, c1⟩, _, _⟩ := HS1.out.cells
 go_wp2_with fail
 (with_reducible refine (HN.out _).mono ?_); rintro e w2 ⟨s1, b1, k1, rfl, ⟨l1, _⟩, b2⟩
 clear c0 c1 HN
 have HS2 := lh (HS1.out.next b2)
 obtain ⟨⟨c0, c1⟩, f0, f1⟩ := HS2.out.cells
 obtain ⟨d0, e0⟩ := (show ∀ W : World, W.heap[p]? = some (mgobj m) → (W.cell? ⟨p, 15, none⟩ = some (.int .i64 m.iounit) ∧ W.frozen? ⟨p, 15, none⟩ = false) from fun W h => ⟨by rw [Lib.cell_of_heap h]; rfl, Lib.frozen_of_heap h _⟩) _ HS2.out.2.1
 have HS3 := lh ((HS2.out.setX (s' := s1) (b' := b1)).setM (m' := { m with iounit := k1 }) 15 (.int .i64 k1) rfl)
 clear b2 HS1 HS2
 go_upto_region 39 with fail
 skip; try (rename (∀ (a : Act) (w : World), Code.wp _ _ _ a w → _) => ax1; have AX1 := lh ax1; clear ax1)
 generalize (((w2.setCell ⟨g, 0, none⟩ (.string (T s1))).setCell ⟨g, 1, none⟩ (.bool b1)).setCell ⟨p, 15, none⟩ (.int .i64 k1)) = w9 at *
 clear c0 c1 f0 f1 d0 e0
 have HOK := lh (show ({ m with iounit := k1 } : Mg).ok from HOKM.out)
 have HFIN := lh (finOk_old (W := w9) (r := r) (q := q) (show MgIn w ({ m with iounit := k1 } : Mg) ns qs from ⟨HM.out.1, HM.out.2.1, HM.out.2.2.1, HM.out.2.2.2.1, HM.out.2.2.2.2.1, HM.out.2.2.2.2.2.1, HM.out.2.2.2.2.2.2⟩))
 have HLE := lh (show s1.length ≤ s.length from l1)
 have HN12 := lh (show ({ m with iounit := k1 } : Mg).names = m.names ∨ ((15 : Int) = 12 ∧ NewF w.heap.size ({ m with iounit := k1 } : Mg).names) from Or.inl rfl)
 have HN13 := lh (show ({ m with iounit := k1 } : Mg).qids = m.qids ∨ ((15 : Int) = 13 ∧ NewF w.heap.size ({ m with iounit := k1 } : Mg).qids) from Or.inl rfl)
 clear HM HOKM
 generalize ({ m with iounit := k1 } : Mg) = mx at *
 have HS := HS3
 clear HS3
 have HY := lh HS.out.1
 have hyr : r ≠ g := by have := HS.out.2.2.2.2.1; omega
 have hyq : q ≠ g := by have := HS.out.2.2.2.2.1; omega
 have hS0 := sx_start HS.out HY.out
 refine wp_region_held_drew (S := (Sx g p s1 b1 mx)) (by kernel_rfl) hS0 (fun hHeld => ?_)
 refine tk2 (v := .agg (inc s1 b1)) 0 159 ?_
 refine tkY (v := .agg mx.cs.toArray) 1 160 rfl (yM (by rfl) _ rfl (by rfl)) ?_
 refine rd_fin 2 3 HS.out HY.out hyr hyq HOK.out b1 (fun wb Y3 Y4 YB YG => ?_)
 clear hHeld hS0
 try have ax1 := AX1.out
 go_wp2_with fail
 exact rd_ret Tryz.results122 rfl rfl rfl Y3 Y4 ⟨HLE.out, HFIN.out _ YB YG, HN12.out, HN13.out⟩ YB
theorem rread_16 (s : List UInt8) (b : Bool) (m : Mg) (ns : List (List UInt8)) (qs : List (Int × Int × Int)) (w : World) (hm : MgIn w m ns qs) (hs : s.length ≤ 9000000000) : Calls Tryz.prog 122 #[.agg (inc s b), .agg m.cs.toArray, .int .i64 16] w (RdSay s.length 16 m w) := by
 have HN := lh (fun W => show Calls Tryz.prog 184 #[.agg (inc s b)] W (InS s.length W) from r9counted_any s b W hs)
 have HS0 := lh (RdSt.start w s b m)
 have HOKM := lh hm.ok
 have HM := lh hm
 go_enter Tryz.func122, Tryz.ntmps122
 go_upto_region 1 with fail
 generalize hw1 : World.alloc _ _ = w1
 have HS1 := lh (show RdSt w w1 w.heap.size (w.heap.size + 1) (w.heap.size + 1 + 1) (w.heap.size + 1 + 1 + 1) s b m from by rw [← hw1]; exact HS0.out)
 clear hw1 HS0 hm
 generalize w.heap.size + 1 + 1 + 1 = q at HS1 ⊢
 generalize w.heap.size + 1 + 1 = r at HS1 ⊢
 generalize w.heap.size + 1 = p at HS1 ⊢
 generalize w.heap.size = g at HS1 ⊢
 obtain ⟨⟨c0, c1⟩, _, _⟩ := HS1.out.cells
 go_wp2_with fail
 (with_reducible refine (HN.out _).mono ?_); rintro e w2 ⟨s1, b1, t1, rfl, ⟨l1, l2⟩, b2⟩
 clear c0 c1 HN
 have HS2 := lh (HS1.out.next b2)
 obtain ⟨⟨c0, c1⟩, f0, f1⟩ := HS2.out.cells
 obtain ⟨d0, e0⟩ := (show ∀ W : World, W.heap[p]? = some (mgobj m) → (W.cell? ⟨p, 18, none⟩ = some (.string (T m.name)) ∧ W.frozen? ⟨p, 18, none⟩ = false) from fun W h => ⟨by rw [Lib.cell_of_heap h]; rfl, Lib.frozen_of_heap h _⟩) _ HS2.out.2.1
 have HS3 := lh ((HS2.out.setX (s' := s1) (b' := b1)).setM (m' := { m with name := t1 }) 18 (.string (T t1)) rfl)
 clear b2 HS1 HS2
 go_upto_region 39 with fail
 skip; try (rename (∀ (a : Act) (w : World), Code.wp _ _ _ a w → _) => ax1; have AX1 := lh ax1; clear ax1)
 generalize (((w2.setCell ⟨g, 0, none⟩ (.string (T s1))).setCell ⟨g, 1, none⟩ (.bool b1)).setCell ⟨p, 18, none⟩ (.string (T t1))) = w9 at *
 clear c0 c1 f0 f1 d0 e0
 have HOK := lh (show ({ m with name := t1 } : Mg).ok from HOKM.out)
 have HFIN := lh (finOk_old (W := w9) (r := r) (q := q) (show MgIn w ({ m with name := t1 } : Mg) ns qs from ⟨HM.out.1, HM.out.2.1, HM.out.2.2.1, HM.out.2.2.2.1, HM.out.2.2.2.2.1, (by show t1.length ≤ _; omega), HM.out.2.2.2.2.2.2⟩))
 have HLE := lh (show s1.length ≤ s.length from l1)
 have HN12 := lh (show ({ m with name := t1 } : Mg).names = m.names ∨ ((16 : Int) = 12 ∧ NewF w.heap.size ({ m with name := t1 } : Mg).names) from Or.inl rfl)
 have HN13 := lh (show ({ m with name := t1 } : Mg).qids = m.qids ∨ ((16 : Int) = 13 ∧ NewF w.heap.size ({ m with name := t1 } : Mg).qids) from Or.inl rfl)
 clear HM HOKM
 generalize ({ m with name := t1 } : Mg) = mx at *
 have HS := HS3
 clear HS3
 have HY := lh HS.out.1
 have hyr : r ≠ g := by have := HS.out.2.2.2.2.1; omega
 have hyq : q ≠ g := by have := HS.out.2.2.2.2.1; omega
 have hS0 := sx_start HS.out HY.out
 refine wp_region_held_drew (S := (Sx g p s1 b1 mx)) (by kernel_rfl) hS0 (fun hHeld => ?_)
 refine tk2 (v := .agg (inc s1 b1)) 0 159 ?_
 refine tkY (v := .agg mx.cs.toArray) 1 160 rfl (yM (by rfl) _ rfl (by rfl)) ?_
 refine rd_fin 2 3 HS.out HY.out hyr hyq HOK.out b1 (fun wb Y3 Y4 YB YG => ?_)
 clear hHeld hS0
 try have ax1 := AX1.out
 go_wp2_with fail
 exact rd_ret Tryz.results122 rfl rfl rfl Y3 Y4 ⟨HLE.out, HFIN.out _ YB YG, HN12.out, HN13.out⟩ YB
theorem rread_17 (s : List UInt8) (b : Bool) (m : Mg) (ns : List (List UInt8)) (qs : List (Int × Int × Int)) (w : World) (hm : MgIn w m ns qs) (hs : s.length ≤ 9000000000) : Calls Tryz.prog 122 #[.agg (inc s b), .agg m.cs.toArray, .int .i64 17] w (RdSay s.length 17 m w) := by
 have HN := lh (fun W => show Calls Tryz.prog 120 #[.agg (inc s b), .int .i64 4] W (InI s.length 4 W) from r9num_any s b 4 (by omega) (by omega) W hs)
 have HS0 := lh (RdSt.start w s b m)
 have HOKM := lh hm.ok
 have HM := lh hm
 go_enter Tryz.func122, Tryz.ntmps122
 go_upto_region 1 with fail
 generalize hw1 : World.alloc _ _ = w1
 have HS1 := lh (show RdSt w w1 w.heap.size (w.heap.size + 1) (w.heap.size + 1 + 1) (w.heap.size + 1 + 1 + 1) s b m from by rw [← hw1]; exact HS0.out)
 clear hw1 HS0 hm
 generalize w.heap.size + 1 + 1 + 1 = q at HS1 ⊢
 generalize w.heap.size + 1 + 1 = r at HS1 ⊢
 generalize w.heap.size + 1 = p at HS1 ⊢
 generalize w.heap.size = g at HS1 ⊢
 obtain ⟨⟨c0, c1⟩, _, _⟩ := HS1.out.cells
 go_wp2_with fail
 (with_reducible refine (HN.out _).mono ?_); rintro e w2 ⟨s1, b1, k1, rfl, ⟨l1, _⟩, b2⟩
 clear c0 c1 HN
 have HS2 := lh (HS1.out.next b2)
 obtain ⟨⟨c0, c1⟩, f0, f1⟩ := HS2.out.cells
 obtain ⟨d0, e0⟩ := (show ∀ W : World, W.heap[p]? = some (mgobj m) → (W.cell? ⟨p, 17, none⟩ = some (.int .i64 m.perm) ∧ W.frozen? ⟨p, 17, none⟩ = false) from fun W h => ⟨by rw [Lib.cell_of_heap h]; rfl, Lib.frozen_of_heap h _⟩) _ HS2.out.2.1
 have HS3 := lh ((HS2.out.setX (s' := s1) (b' := b1)).setM (m' := { m with perm := k1 }) 17 (.int .i64 k1) rfl)
 clear b2 HS1 HS2
 go_upto_region 39 with fail
 skip; try (rename (∀ (a : Act) (w : World), Code.wp _ _ _ a w → _) => ax1; have AX1 := lh ax1; clear ax1)
 generalize (((w2.setCell ⟨g, 0, none⟩ (.string (T s1))).setCell ⟨g, 1, none⟩ (.bool b1)).setCell ⟨p, 17, none⟩ (.int .i64 k1)) = w9 at *
 clear c0 c1 f0 f1 d0 e0
 have HOK := lh (show ({ m with perm := k1 } : Mg).ok from HOKM.out)
 have HFIN := lh (finOk_old (W := w9) (r := r) (q := q) (show MgIn w ({ m with perm := k1 } : Mg) ns qs from ⟨HM.out.1, HM.out.2.1, HM.out.2.2.1, HM.out.2.2.2.1, HM.out.2.2.2.2.1, HM.out.2.2.2.2.2.1, HM.out.2.2.2.2.2.2⟩))
 have HLE := lh (show s1.length ≤ s.length from l1)
 have HN12 := lh (show ({ m with perm := k1 } : Mg).names = m.names ∨ ((17 : Int) = 12 ∧ NewF w.heap.size ({ m with perm := k1 } : Mg).names) from Or.inl rfl)
 have HN13 := lh (show ({ m with perm := k1 } : Mg).qids = m.qids ∨ ((17 : Int) = 13 ∧ NewF w.heap.size ({ m with perm := k1 } : Mg).qids) from Or.inl rfl)
 clear HM HOKM
 generalize ({ m with perm := k1 } : Mg) = mx at *
 have HS := HS3
 clear HS3
 have HY := lh HS.out.1
 have hyr : r ≠ g := by have := HS.out.2.2.2.2.1; omega
 have hyq : q ≠ g := by have := HS.out.2.2.2.2.1; omega
 have hS0 := sx_start HS.out HY.out
 refine wp_region_held_drew (S := (Sx g p s1 b1 mx)) (by kernel_rfl) hS0 (fun hHeld => ?_)
 refine tk2 (v := .agg (inc s1 b1)) 0 159 ?_
 refine tkY (v := .agg mx.cs.toArray) 1 160 rfl (yM (by rfl) _ rfl (by rfl)) ?_
 refine rd_fin 2 3 HS.out HY.out hyr hyq HOK.out b1 (fun wb Y3 Y4 YB YG => ?_)
 clear hHeld hS0
 try have ax1 := AX1.out
 go_wp2_with fail
 exact rd_ret Tryz.results122 rfl rfl rfl Y3 Y4 ⟨HLE.out, HFIN.out _ YB YG, HN12.out, HN13.out⟩ YB
theorem rread_18 (s : List UInt8) (b : Bool) (m : Mg) (ns : List (List UInt8)) (qs : List (Int × Int × Int)) (w : World) (hm : MgIn w m ns qs) (hs : s.length ≤ 9000000000) : Calls Tryz.prog 122 #[.agg (inc s b), .agg m.cs.toArray, .int .i64 18] w (RdSay s.length 18 m w) := by
 have HN := lh (fun W => show Calls Tryz.prog 120 #[.agg (inc s b), .int .i64 8] W (InI s.length 8 W) from r9num_any s b 8 (by omega) (by omega) W hs)
 have HS0 := lh (RdSt.start w s b m)
 have HOKM := lh hm.ok
 have HM := lh hm
 go_enter Tryz.func122, Tryz.ntmps122
 go_upto_region 1 with fail
 generalize hw1 : World.alloc _ _ = w1
 have HS1 := lh (show RdSt w w1 w.heap.size (w.heap.size + 1) (w.heap.size + 1 + 1) (w.heap.size + 1 + 1 + 1) s b m from by rw [← hw1]; exact HS0.out)
 clear hw1 HS0 hm
 generalize w.heap.size + 1 + 1 + 1 = q at HS1 ⊢
 generalize w.heap.size + 1 + 1 = r at HS1 ⊢
 generalize w.heap.size + 1 = p at HS1 ⊢
 generalize w.heap.size = g at HS1 ⊢
 obtain ⟨⟨c0, c1⟩, _, _⟩ := HS1.out.cells
 go_wp2_with fail
 (with_reducible refine (HN.out _).mono ?_); rintro e w2 ⟨s1, b1, k1, rfl, ⟨l1, _⟩, b2⟩
 clear c0 c1 HN
 have HS2 := lh (HS1.out.next b2)
 obtain ⟨⟨c0, c1⟩, f0, f1⟩ := HS2.out.cells
 obtain ⟨d0, e0⟩ := (show ∀ W : World, W.heap[p]? = some (mgobj m) → (W.cell? ⟨p, 19, none⟩ = some (.int .i64 m.offset) ∧ W.frozen? ⟨p, 19, none⟩ = false) from fun W h => ⟨by rw [Lib.cell_of_heap h]; rfl, Lib.frozen_of_heap h _⟩) _ HS2.out.2.1
 have HS3 := lh ((HS2.out.setX (s' := s1) (b' := b1)).setM (m' := { m with offset := k1 }) 19 (.int .i64 k1) rfl)
 clear b2 HS1 HS2
 go_upto_region 39 with fail
 skip; try (rename (∀ (a : Act) (w : World), Code.wp _ _ _ a w → _) => ax1; have AX1 := lh ax1; clear ax1)
 generalize (((w2.setCell ⟨g, 0, none⟩ (.string (T s1))).setCell ⟨g, 1, none⟩ (.bool b1)).setCell ⟨p, 19, none⟩ (.int .i64 k1)) = w9 at *
 clear c0 c1 f0 f1 d0 e0
 have HOK := lh (show ({ m with offset := k1 } : Mg).ok from HOKM.out)
 have HFIN := lh (finOk_old (W := w9) (r := r) (q := q) (show MgIn w ({ m with offset := k1 } : Mg) ns qs from ⟨HM.out.1, HM.out.2.1, HM.out.2.2.1, HM.out.2.2.2.1, HM.out.2.2.2.2.1, HM.out.2.2.2.2.2.1, HM.out.2.2.2.2.2.2⟩))
 have HLE := lh (show s1.length ≤ s.length from l1)
 have HN12 := lh (show ({ m with offset := k1 } : Mg).names = m.names ∨ ((18 : Int) = 12 ∧ NewF w.heap.size ({ m with offset := k1 } : Mg).names) from Or.inl rfl)
 have HN13 := lh (show ({ m with offset := k1 } : Mg).qids = m.qids ∨ ((18 : Int) = 13 ∧ NewF w.heap.size ({ m with offset := k1 } : Mg).qids) from Or.inl rfl)
 clear HM HOKM
 generalize ({ m with offset := k1 } : Mg) = mx at *
 have HS := HS3
 clear HS3
 have HY := lh HS.out.1
 have hyr : r ≠ g := by have := HS.out.2.2.2.2.1; omega
 have hyq : q ≠ g := by have := HS.out.2.2.2.2.1; omega
 have hS0 := sx_start HS.out HY.out
 refine wp_region_held_drew (S := (Sx g p s1 b1 mx)) (by kernel_rfl) hS0 (fun hHeld => ?_)
 refine tk2 (v := .agg (inc s1 b1)) 0 159 ?_
 refine tkY (v := .agg mx.cs.toArray) 1 160 rfl (yM (by rfl) _ rfl (by rfl)) ?_
 refine rd_fin 2 3 HS.out HY.out hyr hyq HOK.out b1 (fun wb Y3 Y4 YB YG => ?_)
 clear hHeld hS0
 try have ax1 := AX1.out
 go_wp2_with fail
 exact rd_ret Tryz.results122 rfl rfl rfl Y3 Y4 ⟨HLE.out, HFIN.out _ YB YG, HN12.out, HN13.out⟩ YB
theorem rread_19 (s : List UInt8) (b : Bool) (m : Mg) (ns : List (List UInt8)) (qs : List (Int × Int × Int)) (w : World) (hm : MgIn w m ns qs) (hs : s.length ≤ 9000000000) : Calls Tryz.prog 122 #[.agg (inc s b), .agg m.cs.toArray, .int .i64 19] w (RdSay s.length 19 m w) := by
 have HN := lh (fun W => show Calls Tryz.prog 120 #[.agg (inc s b), .int .i64 4] W (InI s.length 4 W) from r9num_any s b 4 (by omega) (by omega) W hs)
 have HS0 := lh (RdSt.start w s b m)
 have HOKM := lh hm.ok
 have HM := lh hm
 go_enter Tryz.func122, Tryz.ntmps122
 go_upto_region 1 with fail
 generalize hw1 : World.alloc _ _ = w1
 have HS1 := lh (show RdSt w w1 w.heap.size (w.heap.size + 1) (w.heap.size + 1 + 1) (w.heap.size + 1 + 1 + 1) s b m from by rw [← hw1]; exact HS0.out)
 clear hw1 HS0 hm
 generalize w.heap.size + 1 + 1 + 1 = q at HS1 ⊢
 generalize w.heap.size + 1 + 1 = r at HS1 ⊢
 generalize w.heap.size + 1 = p at HS1 ⊢
 generalize w.heap.size = g at HS1 ⊢
 obtain ⟨⟨c0, c1⟩, _, _⟩ := HS1.out.cells
 go_wp2_with fail
 (with_reducible refine (HN.out _).mono ?_); rintro e w2 ⟨s1, b1, k1, rfl, ⟨l1, _⟩, b2⟩
 clear c0 c1 HN
 have HS2 := lh (HS1.out.next b2)
 obtain ⟨⟨c0, c1⟩, f0, f1⟩ := HS2.out.cells
 obtain ⟨d0, e0⟩ := (show ∀ W : World, W.heap[p]? = some (mgobj m) → (W.cell? ⟨p, 20, none⟩ = some (.int .i64 m.count) ∧ W.frozen? ⟨p, 20, none⟩ = false) from fun W h => ⟨by rw [Lib.cell_of_heap h]; rfl, Lib.frozen_of_heap h _⟩) _ HS2.out.2.1
 have HS3 := lh ((HS2.out.setX (s' := s1) (b' := b1)).setM (m' := { m with count := k1 }) 20 (.int .i64 k1) rfl)
 clear b2 HS1 HS2
 go_upto_region 39 with fail
 skip; try (rename (∀ (a : Act) (w : World), Code.wp _ _ _ a w → _) => ax1; have AX1 := lh ax1; clear ax1)
 generalize (((w2.setCell ⟨g, 0, none⟩ (.string (T s1))).setCell ⟨g, 1, none⟩ (.bool b1)).setCell ⟨p, 20, none⟩ (.int .i64 k1)) = w9 at *
 clear c0 c1 f0 f1 d0 e0
 have HOK := lh (show ({ m with count := k1 } : Mg).ok from HOKM.out)
 have HFIN := lh (finOk_old (W := w9) (r := r) (q := q) (show MgIn w ({ m with count := k1 } : Mg) ns qs from ⟨HM.out.1, HM.out.2.1, HM.out.2.2.1, HM.out.2.2.2.1, HM.out.2.2.2.2.1, HM.out.2.2.2.2.2.1, HM.out.2.2.2.2.2.2⟩))
 have HLE := lh (show s1.length ≤ s.length from l1)
 have HN12 := lh (show ({ m with count := k1 } : Mg).names = m.names ∨ ((19 : Int) = 12 ∧ NewF w.heap.size ({ m with count := k1 } : Mg).names) from Or.inl rfl)
 have HN13 := lh (show ({ m with count := k1 } : Mg).qids = m.qids ∨ ((19 : Int) = 13 ∧ NewF w.heap.size ({ m with count := k1 } : Mg).qids) from Or.inl rfl)
 clear HM HOKM
 generalize ({ m with count := k1 } : Mg) = mx at *
 have HS := HS3
 clear HS3
 have HY := lh HS.out.1
 have hyr : r ≠ g := by have := HS.out.2.2.2.2.1; omega
 have hyq : q ≠ g := by have := HS.out.2.2.2.2.1; omega
 have hS0 := sx_start HS.out HY.out
 refine wp_region_held_drew (S := (Sx g p s1 b1 mx)) (by kernel_rfl) hS0 (fun hHeld => ?_)
 refine tk2 (v := .agg (inc s1 b1)) 0 159 ?_
 refine tkY (v := .agg mx.cs.toArray) 1 160 rfl (yM (by rfl) _ rfl (by rfl)) ?_
 refine rd_fin 2 3 HS.out HY.out hyr hyq HOK.out b1 (fun wb Y3 Y4 YB YG => ?_)
 clear hHeld hS0
 try have ax1 := AX1.out
 go_wp2_with fail
 exact rd_ret Tryz.results122 rfl rfl rfl Y3 Y4 ⟨HLE.out, HFIN.out _ YB YG, HN12.out, HN13.out⟩ YB
theorem rread_22 (s : List UInt8) (b : Bool) (m : Mg) (ns : List (List UInt8)) (qs : List (Int × Int × Int)) (w : World) (hm : MgIn w m ns qs) (hs : s.length ≤ 9000000000) : Calls Tryz.prog 122 #[.agg (inc s b), .agg m.cs.toArray, .int .i64 22] w (RdSay s.length 22 m w) := by
 have HN := lh (fun W => show Calls Tryz.prog 120 #[.agg (inc s b), .int .i64 1] W (InI s.length 1 W) from r9num_any s b 1 (by omega) (by omega) W hs)
 have HS0 := lh (RdSt.start w s b m)
 have HOKM := lh hm.ok
 have HM := lh hm
 go_enter Tryz.func122, Tryz.ntmps122
 go_upto_region 1 with fail
 generalize hw1 : World.alloc _ _ = w1
 have HS1 := lh (show RdSt w w1 w.heap.size (w.heap.size + 1) (w.heap.size + 1 + 1) (w.heap.size + 1 + 1 + 1) s b m from by rw [← hw1]; exact HS0.out)
 clear hw1 HS0 hm
 generalize w.heap.size + 1 + 1 + 1 = q at HS1 ⊢
 generalize w.heap.size + 1 + 1 = r at HS1 ⊢
 generalize w.heap.size + 1 = p at HS1 ⊢
 generalize w.heap.size = g at HS1 ⊢
 obtain ⟨⟨c0, c1⟩, _, _⟩ := HS1.out.cells
 go_wp2_with fail
 (with_reducible refine (HN.out _).mono ?_); rintro e w2 ⟨s1, b1, k1, rfl, ⟨l1, _⟩, b2⟩
 clear c0 c1 HN
 have HS2 := lh (HS1.out.next b2)
 obtain ⟨⟨c0, c1⟩, f0, f1⟩ := HS2.out.cells
 obtain ⟨d0, e0⟩ := (show ∀ W : World, W.heap[p]? = some (mgobj m) → (W.cell? ⟨p, 36, none⟩ = some (.int .i64 m.lease) ∧ W.frozen? ⟨p, 36, none⟩ = false) from fun W h => ⟨by rw [Lib.cell_of_heap h]; rfl, Lib.frozen_of_heap h _⟩) _ HS2.out.2.1
 have HS3 := lh ((HS2.out.setX (s' := s1) (b' := b1)).setM (m' := { m with lease := k1 }) 36 (.int .i64 k1) rfl)
 clear b2 HS1 HS2
 go_upto_region 39 with fail
 skip; try (rename (∀ (a : Act) (w : World), Code.wp _ _ _ a w → _) => ax1; have AX1 := lh ax1; clear ax1)
 generalize (((w2.setCell ⟨g, 0, none⟩ (.string (T s1))).setCell ⟨g, 1, none⟩ (.bool b1)).setCell ⟨p, 36, none⟩ (.int .i64 k1)) = w9 at *
 clear c0 c1 f0 f1 d0 e0
 have HOK := lh (show ({ m with lease := k1 } : Mg).ok from HOKM.out)
 have HFIN := lh (finOk_old (W := w9) (r := r) (q := q) (show MgIn w ({ m with lease := k1 } : Mg) ns qs from ⟨HM.out.1, HM.out.2.1, HM.out.2.2.1, HM.out.2.2.2.1, HM.out.2.2.2.2.1, HM.out.2.2.2.2.2.1, HM.out.2.2.2.2.2.2⟩))
 have HLE := lh (show s1.length ≤ s.length from l1)
 have HN12 := lh (show ({ m with lease := k1 } : Mg).names = m.names ∨ ((22 : Int) = 12 ∧ NewF w.heap.size ({ m with lease := k1 } : Mg).names) from Or.inl rfl)
 have HN13 := lh (show ({ m with lease := k1 } : Mg).qids = m.qids ∨ ((22 : Int) = 13 ∧ NewF w.heap.size ({ m with lease := k1 } : Mg).qids) from Or.inl rfl)
 clear HM HOKM
 generalize ({ m with lease := k1 } : Mg) = mx at *
 have HS := HS3
 clear HS3
 have HY := lh HS.out.1
 have hyr : r ≠ g := by have := HS.out.2.2.2.2.1; omega
 have hyq : q ≠ g := by have := HS.out.2.2.2.2.1; omega
 have hS0 := sx_start HS.out HY.out
 refine wp_region_held_drew (S := (Sx g p s1 b1 mx)) (by kernel_rfl) hS0 (fun hHeld => ?_)
 refine tk2 (v := .agg (inc s1 b1)) 0 159 ?_
 refine tkY (v := .agg mx.cs.toArray) 1 160 rfl (yM (by rfl) _ rfl (by rfl)) ?_
 refine rd_fin 2 3 HS.out HY.out hyr hyq HOK.out b1 (fun wb Y3 Y4 YB YG => ?_)
 clear hHeld hS0
 try have ax1 := AX1.out
 go_wp2_with fail
 exact rd_ret Tryz.results122 rfl rfl rfl Y3 Y4 ⟨HLE.out, HFIN.out _ YB YG, HN12.out, HN13.out⟩ YB
theorem rread_23 (s : List UInt8) (b : Bool) (m : Mg) (ns : List (List UInt8)) (qs : List (Int × Int × Int)) (w : World) (hm : MgIn w m ns qs) (hs : s.length ≤ 9000000000) : Calls Tryz.prog 122 #[.agg (inc s b), .agg m.cs.toArray, .int .i64 23] w (RdSay s.length 23 m w) := by
 have HN := lh (fun W => show Calls Tryz.prog 120 #[.agg (inc s b), .int .i64 4] W (InI s.length 4 W) from r9num_any s b 4 (by omega) (by omega) W hs)
 have HS0 := lh (RdSt.start w s b m)
 have HOKM := lh hm.ok
 have HM := lh hm
 go_enter Tryz.func122, Tryz.ntmps122
 go_upto_region 1 with fail
 generalize hw1 : World.alloc _ _ = w1
 have HS1 := lh (show RdSt w w1 w.heap.size (w.heap.size + 1) (w.heap.size + 1 + 1) (w.heap.size + 1 + 1 + 1) s b m from by rw [← hw1]; exact HS0.out)
 clear hw1 HS0 hm
 generalize w.heap.size + 1 + 1 + 1 = q at HS1 ⊢
 generalize w.heap.size + 1 + 1 = r at HS1 ⊢
 generalize w.heap.size + 1 = p at HS1 ⊢
 generalize w.heap.size = g at HS1 ⊢
 obtain ⟨⟨c0, c1⟩, _, _⟩ := HS1.out.cells
 go_wp2_with fail
 (with_reducible refine (HN.out _).mono ?_); rintro e w2 ⟨s1, b1, k1, rfl, ⟨l1, _⟩, b2⟩
 clear c0 c1 HN
 have HS2 := lh (HS1.out.next b2)
 obtain ⟨⟨c0, c1⟩, f0, f1⟩ := HS2.out.cells
 obtain ⟨d0, e0⟩ := (show ∀ W : World, W.heap[p]? = some (mgobj m) → (W.cell? ⟨p, 37, none⟩ = some (.int .i64 m.term) ∧ W.frozen? ⟨p, 37, none⟩ = false) from fun W h => ⟨by rw [Lib.cell_of_heap h]; rfl, Lib.frozen_of_heap h _⟩) _ HS2.out.2.1
 have HS3 := lh ((HS2.out.setX (s' := s1) (b' := b1)).setM (m' := { m with term := k1 }) 37 (.int .i64 k1) rfl)
 clear b2 HS1 HS2
 go_upto_region 39 with fail
 skip; try (rename (∀ (a : Act) (w : World), Code.wp _ _ _ a w → _) => ax1; have AX1 := lh ax1; clear ax1)
 generalize (((w2.setCell ⟨g, 0, none⟩ (.string (T s1))).setCell ⟨g, 1, none⟩ (.bool b1)).setCell ⟨p, 37, none⟩ (.int .i64 k1)) = w9 at *
 clear c0 c1 f0 f1 d0 e0
 have HOK := lh (show ({ m with term := k1 } : Mg).ok from HOKM.out)
 have HFIN := lh (finOk_old (W := w9) (r := r) (q := q) (show MgIn w ({ m with term := k1 } : Mg) ns qs from ⟨HM.out.1, HM.out.2.1, HM.out.2.2.1, HM.out.2.2.2.1, HM.out.2.2.2.2.1, HM.out.2.2.2.2.2.1, HM.out.2.2.2.2.2.2⟩))
 have HLE := lh (show s1.length ≤ s.length from l1)
 have HN12 := lh (show ({ m with term := k1 } : Mg).names = m.names ∨ ((23 : Int) = 12 ∧ NewF w.heap.size ({ m with term := k1 } : Mg).names) from Or.inl rfl)
 have HN13 := lh (show ({ m with term := k1 } : Mg).qids = m.qids ∨ ((23 : Int) = 13 ∧ NewF w.heap.size ({ m with term := k1 } : Mg).qids) from Or.inl rfl)
 clear HM HOKM
 generalize ({ m with term := k1 } : Mg) = mx at *
 have HS := HS3
 clear HS3
 have HY := lh HS.out.1
 have hyr : r ≠ g := by have := HS.out.2.2.2.2.1; omega
 have hyq : q ≠ g := by have := HS.out.2.2.2.2.1; omega
 have hS0 := sx_start HS.out HY.out
 refine wp_region_held_drew (S := (Sx g p s1 b1 mx)) (by kernel_rfl) hS0 (fun hHeld => ?_)
 refine tk2 (v := .agg (inc s1 b1)) 0 159 ?_
 refine tkY (v := .agg mx.cs.toArray) 1 160 rfl (yM (by rfl) _ rfl (by rfl)) ?_
 refine rd_fin 2 3 HS.out HY.out hyr hyq HOK.out b1 (fun wb Y3 Y4 YB YG => ?_)
 clear hHeld hS0
 try have ax1 := AX1.out
 go_wp2_with fail
 exact rd_ret Tryz.results122 rfl rfl rfl Y3 Y4 ⟨HLE.out, HFIN.out _ YB YG, HN12.out, HN13.out⟩ YB
end Go.Proofs.YtfibaopngpfmjaaGreatDoor
