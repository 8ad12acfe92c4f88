/- msg.only, third part. Conditions: those that each theorem names. -/
import Derived.Test.YtfibaopngpfmjaaGreatDoorRzF1
import Derived.Test.YtfibaopngpfmjaaGreatDoorRzB6
import Derived.Test.YtfibaopngpfmjaaGreatDoorRzA1
set_option linter.unusedVariables false
set_option linter.unusedSimpArgs false
set_option maxRecDepth 100000
set_option maxHeartbeats 8000000
namespace Go.Proofs.YtfibaopngpfmjaaGreatDoor
open Go.RowKit Go.Proofs
theorem rest_116 (m : Mg) (hk : m.kind = 116) (hok : m.ok) (w : World) : Calls Tryz.prog 136 #[.agg m.cs.toArray, .agg ({ mg0 with kind := 116, tag := m.tag } : Mg).cs.toArray] w fun e w' => e = .returned (.agg (onl m).cs.toArray) ∧ Below w.heap.size w w' := by
 have ho : onl m = ({ mg0 with kind := 116, tag := m.tag, fid := m.fid, offset := m.offset, count := m.count } : Mg) := by simp [onl, hk]
 rw [ho]
 clear ho
 have h1 := heap_alloc_new w (mgobj m)
 have h2 := heap_alloc_new (w.alloc (mgobj m)) (mgobj ({ mg0 with kind := 116, tag := m.tag } : Mg))
 have h3 := heap_alloc_new ((w.alloc (mgobj m)).alloc (mgobj ({ mg0 with kind := 116, tag := m.tag } : Mg))) (mgobj mg0)
 rw [show (w.alloc (mgobj m)).heap.size = w.heap.size + 1 from by simp] at h2
 rw [show ((w.alloc (mgobj m)).alloc (mgobj ({ mg0 with kind := 116, tag := m.tag } : Mg))).heap.size = w.heap.size + 1 + 1 from by simp] at h3
 have HB := lh (bnext (bnext (alloc_below w (mgobj m)) (alloc_below _ (mgobj ({ mg0 with kind := 116, tag := m.tag } : Mg)))) (alloc_below _ (mgobj mg0)))
 have H1 := lh ((Lib.alloc_old _ (mgobj mg0) _ (by simp; omega)).trans ((Lib.alloc_old _ (mgobj ({ mg0 with kind := 116, tag := m.tag } : Mg)) _ (by simp)).trans h1))
 have H3 := lh ((Lib.alloc_old _ (mgobj mg0) _ (by simp)).trans h2)
 have H2 := lh h3
 clear h1 h2 h3
 have HC0 := lh (fun (W : World) (h : W.heap[w.heap.size]? = some (mgobj m)) => show W.cell? ⟨w.heap.size, 0, none⟩ = some (.int .i64 116) ∧ W.cell? ⟨w.heap.size, 1, none⟩ = some (.int .i64 m.tag) from ⟨by rw [Lib.cell_of_heap h, ← hk]; rfl, by rw [Lib.cell_of_heap h]; rfl⟩)
 have HCS := lh (fun (W : World) (h : W.heap[w.heap.size]? = some (mgobj m)) => show W.cell? ⟨w.heap.size, 2, none⟩ = some (.int .i64 m.fid) ∧ W.cell? ⟨w.heap.size, 19, none⟩ = some (.int .i64 m.offset) ∧ W.cell? ⟨w.heap.size, 20, none⟩ = some (.int .i64 m.count) from ⟨by rw [Lib.cell_of_heap h]; rfl, by rw [Lib.cell_of_heap h]; rfl, by rw [Lib.cell_of_heap h]; rfl⟩)
 have HDS := lh (fun (W : World) (b : Nat) (h : W.heap[b]? = some (mgobj ({ mg0 with kind := 116, tag := m.tag } : Mg))) => show (W.cell? ⟨b, 2, none⟩ = some (.int .i64 0) ∧ W.cell? ⟨b, 19, none⟩ = some (.int .i64 0) ∧ W.cell? ⟨b, 20, none⟩ = some (.int .i64 0)) ∧ (W.frozen? ⟨b, 2, none⟩ = false ∧ W.frozen? ⟨b, 19, none⟩ = false ∧ W.frozen? ⟨b, 20, none⟩ = false) ∧ (((W.setCell ⟨b, 2, none⟩ (.int .i64 m.fid)).setCell ⟨b, 19, none⟩ (.int .i64 m.offset)).setCell ⟨b, 20, none⟩ (.int .i64 m.count)).heap[b]? = some (mgobj ({ mg0 with kind := 116, tag := m.tag, fid := m.fid, offset := m.offset, count := m.count } : Mg)) from ⟨⟨by rw [Lib.cell_of_heap h]; rfl, by rw [Lib.cell_of_heap h]; rfl, by rw [Lib.cell_of_heap h]; rfl⟩, ⟨Lib.frozen_of_heap h _, Lib.frozen_of_heap h _, Lib.frozen_of_heap h _⟩, (mg_set (m := ({ mg0 with kind := 116, tag := m.tag, fid := m.fid, offset := m.offset } : Mg)) (m' := ({ mg0 with kind := 116, tag := m.tag, fid := m.fid, offset := m.offset, count := m.count } : Mg)) (mg_set (m := ({ mg0 with kind := 116, tag := m.tag, fid := m.fid } : Mg)) (m' := ({ mg0 with kind := 116, tag := m.tag, fid := m.fid, offset := m.offset } : Mg)) (mg_set (m := ({ mg0 with kind := 116, tag := m.tag } : Mg)) (m' := ({ mg0 with kind := 116, tag := m.tag, fid := m.fid } : Mg)) h 2 (.int .i64 m.fid) rfl) 19 (.int .i64 m.offset) rfl) 20 (.int .i64 m.count) rfl)⟩)
 have HU := lh (Tryz.underlying48)
 have HSZ0 := lh (mg_size ({ mg0 with kind := 116, tag := m.tag } : Mg))
 have HSZR := lh (mg_size ({ mg0 with kind := 116, tag := m.tag, fid := m.fid, offset := m.offset, count := m.count } : Mg))
 have HSZM := lh (mg_size m)
 have HSY0 : RowKit.Hid (mg0.cs.toArray.size = ({ mg0 with kind := 116, tag := m.tag } : Mg).cs.toArray.size) := lh rfl
 have HSYR : RowKit.Hid (mg0.cs.toArray.size = ({ mg0 with kind := 116, tag := m.tag, fid := m.fid, offset := m.offset, count := m.count } : Mg).cs.toArray.size) := lh rfl
 have HAL0 := lh (mg_all ({ mg0 with kind := 116, tag := m.tag } : Mg) ⟨⟨_, _, _, rfl⟩, ⟨_, _, _, rfl⟩⟩)
 have HALR := lh (mg_all ({ mg0 with kind := 116, tag := m.tag, fid := m.fid, offset := m.offset, count := m.count } : Mg) ⟨⟨_, _, _, rfl⟩, ⟨_, _, _, rfl⟩⟩)
 unfold mgobj at *
 clear hk hok
 generalize ({ mg0 with kind := 116, tag := m.tag, fid := m.fid, offset := m.offset, count := m.count } : Mg).cs.toArray = AR at *
 generalize ({ mg0 with kind := 116, tag := m.tag } : Mg).cs.toArray = A0 at *
 generalize m.cs.toArray = A1 at *
 generalize m.tag = tg at *
 generalize m.fid = x2 at *
 generalize m.offset = x19 at *
 generalize m.count = x20 at *
 go_enter Tryz.func136, Tryz.ntmps136
 go_upto_region 1 with fail
 generalize hw1 : World.alloc _ _ = w1
 have HB1 := lh (show Below w.heap.size w w1 from by rw [← hw1]; exact HB.out)
 have K1 := lh (show w1.heap[w.heap.size]? = some (.cells A1 48) from by rw [← hw1]; exact H1.out)
 have K2 := lh (show w1.heap[(w.heap.size + 1 + 1)]? = some (.cells mg0.cs.toArray 48) from by rw [← hw1]; exact H2.out)
 have K3 := lh (show w1.heap[(w.heap.size + 1)]? = some (.cells A0 48) from by rw [← hw1]; exact H3.out)
 clear H1 H2 H3 HB hw1
 obtain ⟨c0, c1⟩ := HC0.out _ K1.out
 have hlt : w.heap.size < w.heap.size + 1 := Nat.lt_succ_self _
 go_upto_region 3 with fail
 have J1 := lh (((below_drew1 w1).block _ (row_ltP K1.out)).trans K1.out)
 have J2 := lh K2.out
 obtain ⟨s2, s19, s20⟩ := HCS.out _ K1.out
 obtain ⟨⟨d2, d19, d20⟩, ⟨f2, f19, f20⟩, k3⟩ := HDS.out _ _ K3.out
 have L3 := lh ((below_drew1 _).block _ (row_ltP k3) |>.trans k3)
 clear k3 K1 K2 K3 c0 c1
 refine wp_region_held_drew (S := (fun W' => W'.cell? ⟨w.heap.size, 2, none⟩ = some (.int .i64 x2) ∧ W'.cell? ⟨w.heap.size, 19, none⟩ = some (.int .i64 x19) ∧ W'.cell? ⟨w.heap.size, 20, none⟩ = some (.int .i64 x20))) (by kernel_rfl) (HCS.out _ J1.out) (fun hHeld => ?_)
 refine tk 0 9 ?_
 refine tk 1 10 ?_
 refine tk 2 11 ?_
 refine tk 3 12 ?_
 refine tk 4 13 ?_
 refine tk 5 14 ?_
 refine tk 6 15 ?_
 refine rdy 7 (fun K hK => ?_)
 go_simp
 have bst := ((Below.refl (w.heap.size + 1) w1).setCell (p := ⟨(w.heap.size + 1), 2, none⟩) (Nat.le_refl _) (.int .i64 x2)).drew
 refine hK.out _ _ (⟨(bst.cell (p := ⟨w.heap.size, 2, none⟩) hlt).trans s2, (bst.cell (p := ⟨w.heap.size, 19, none⟩) hlt).trans s19, (bst.cell (p := ⟨w.heap.size, 20, none⟩) hlt).trans s20⟩) (fun hHeld => ?_)
 clear bst hK K
 try simp only [Act.put, px1, px2, px3]
 refine tk 8 16 ?_
 refine rdy 9 (fun K hK => ?_)
 go_simp
 have bst := (((Below.refl (w.heap.size + 1) w1).setCell (p := ⟨(w.heap.size + 1), 2, none⟩) (Nat.le_refl _) (.int .i64 x2)).setCell (p := ⟨(w.heap.size + 1), 19, none⟩) (Nat.le_refl _) (.int .i64 x19)).drew
 refine hK.out _ _ (⟨(bst.cell (p := ⟨w.heap.size, 2, none⟩) hlt).trans s2, (bst.cell (p := ⟨w.heap.size, 19, none⟩) hlt).trans s19, (bst.cell (p := ⟨w.heap.size, 20, none⟩) hlt).trans s20⟩) (fun hHeld => ?_)
 clear bst hK K
 try simp only [Act.put, px1, px2, px3]
 refine tk 10 17 ?_
 refine rdy 11 (fun K hK => ?_)
 go_simp
 have bst := ((((Below.refl (w.heap.size + 1) w1).setCell (p := ⟨(w.heap.size + 1), 2, none⟩) (Nat.le_refl _) (.int .i64 x2)).setCell (p := ⟨(w.heap.size + 1), 19, none⟩) (Nat.le_refl _) (.int .i64 x19)).setCell (p := ⟨(w.heap.size + 1), 20, none⟩) (Nat.le_refl _) (.int .i64 x20)).drew
 refine hK.out _ _ (⟨(bst.cell (p := ⟨w.heap.size, 2, none⟩) hlt).trans s2, (bst.cell (p := ⟨w.heap.size, 19, none⟩) hlt).trans s19, (bst.cell (p := ⟨w.heap.size, 20, none⟩) hlt).trans s20⟩) (fun hHeld => ?_)
 clear bst hK K
 try simp only [Act.put, px1, px2, px3]
 refine wpAnyH_done (by kernel_rfl) ?_ _
 clear hHeld
 have l2 := (Below.heap_setCell ((w1.setCell ⟨(w.heap.size + 1), 2, none⟩ (.int .i64 x2)).setCell ⟨(w.heap.size + 1), 19, none⟩ (.int .i64 x19)) ⟨(w.heap.size + 1), 20, none⟩ (.int .i64 x20) (w.heap.size + 1 + 1) (show (w.heap.size + 1 + 1) ≠ (w.heap.size + 1) by omega)).trans ((Below.heap_setCell (w1.setCell ⟨(w.heap.size + 1), 2, none⟩ (.int .i64 x2)) ⟨(w.heap.size + 1), 19, none⟩ (.int .i64 x19) (w.heap.size + 1 + 1) (show (w.heap.size + 1 + 1) ≠ (w.heap.size + 1) by omega)).trans ((Below.heap_setCell w1 ⟨(w.heap.size + 1), 2, none⟩ (.int .i64 x2) (w.heap.size + 1 + 1) (show (w.heap.size + 1 + 1) ≠ (w.heap.size + 1) by omega)).trans (J2.out)))
 have L2 := lh (((below_drew1 _).block _ (row_ltP l2)).trans l2)
 clear l2
 have HB2 := lh (((HB1.out.setCell (p := ⟨(w.heap.size + 1), 2, none⟩) (show w.heap.size ≤ (w.heap.size + 1) by omega) (.int .i64 x2)).setCell (p := ⟨(w.heap.size + 1), 19, none⟩) (show w.heap.size ≤ (w.heap.size + 1) by omega) (.int .i64 x19)).setCell (p := ⟨(w.heap.size + 1), 20, none⟩) (show w.heap.size ≤ (w.heap.size + 1) by omega) (.int .i64 x20)).drew
 clear s2 d2 f2 s19 d19 f19 s20 d20 f20 HCS HDS
 generalize (((w1.setCell ⟨(w.heap.size + 1), 2, none⟩ (.int .i64 x2)).setCell ⟨(w.heap.size + 1), 19, none⟩ (.int .i64 x19)).setCell ⟨(w.heap.size + 1), 20, none⟩ (.int .i64 x20)).drew = w2 at *
 generalize mg0.cs.toArray = A3 at *
 go_wp2_with (first | refine wpList_load_row rfl 48 _ rfl (w.heap.size + 1) rfl 48 AR (0, 0) _ L3.out HU.out rfl HSZR.out ?_ | refine wpList_store_row rfl 48 _ _ rfl (w.heap.size + 1 + 1) AR rfl rfl 48 A3 L2.out HSZR.out HSYR.out HALR.out ?_)
 refine bodyPost_ret (v := .agg AR) (results_cell_row Tryz.results136 _ _ (w.heap.size + 1 + 1) 48 AR (0, 0) _ rfl (heap_setRow_same L2.out) HU.out rfl HSZR.out) rfl ⟨rfl, below_setRow HB2.out (by omega) _⟩
theorem rest_118 (m : Mg) (hk : m.kind = 118) (hok : m.ok) (w : World) : Calls Tryz.prog 136 #[.agg m.cs.toArray, .agg ({ mg0 with kind := 118, tag := m.tag } : Mg).cs.toArray] w fun e w' => e = .returned (.agg (onl m).cs.toArray) ∧ Below w.heap.size w w' := by
 have ho : onl m = ({ mg0 with kind := 118, tag := m.tag, fid := m.fid, offset := m.offset, data := m.data } : Mg) := by simp [onl, hk]
 rw [ho]
 clear ho
 have h1 := heap_alloc_new w (mgobj m)
 have h2 := heap_alloc_new (w.alloc (mgobj m)) (mgobj ({ mg0 with kind := 118, tag := m.tag } : Mg))
 have h3 := heap_alloc_new ((w.alloc (mgobj m)).alloc (mgobj ({ mg0 with kind := 118, tag := m.tag } : Mg))) (mgobj mg0)
 rw [show (w.alloc (mgobj m)).heap.size = w.heap.size + 1 from by simp] at h2
 rw [show ((w.alloc (mgobj m)).alloc (mgobj ({ mg0 with kind := 118, tag := m.tag } : Mg))).heap.size = w.heap.size + 1 + 1 from by simp] at h3
 have HB := lh (bnext (bnext (alloc_below w (mgobj m)) (alloc_below _ (mgobj ({ mg0 with kind := 118, tag := m.tag } : Mg)))) (alloc_below _ (mgobj mg0)))
 have H1 := lh ((Lib.alloc_old _ (mgobj mg0) _ (by simp; omega)).trans ((Lib.alloc_old _ (mgobj ({ mg0 with kind := 118, tag := m.tag } : Mg)) _ (by simp)).trans h1))
 have H3 := lh ((Lib.alloc_old _ (mgobj mg0) _ (by simp)).trans h2)
 have H2 := lh h3
 clear h1 h2 h3
 have HC0 := lh (fun (W : World) (h : W.heap[w.heap.size]? = some (mgobj m)) => show W.cell? ⟨w.heap.size, 0, none⟩ = some (.int .i64 118) ∧ W.cell? ⟨w.heap.size, 1, none⟩ = some (.int .i64 m.tag) from ⟨by rw [Lib.cell_of_heap h, ← hk]; rfl, by rw [Lib.cell_of_heap h]; rfl⟩)
 have HCS := lh (fun (W : World) (h : W.heap[w.heap.size]? = some (mgobj m)) => show W.cell? ⟨w.heap.size, 2, none⟩ = some (.int .i64 m.fid) ∧ W.cell? ⟨w.heap.size, 19, none⟩ = some (.int .i64 m.offset) ∧ W.cell? ⟨w.heap.size, 21, none⟩ = some (.string (T m.data)) from ⟨by rw [Lib.cell_of_heap h]; rfl, by rw [Lib.cell_of_heap h]; rfl, by rw [Lib.cell_of_heap h]; rfl⟩)
 have HDS := lh (fun (W : World) (b : Nat) (h : W.heap[b]? = some (mgobj ({ mg0 with kind := 118, tag := m.tag } : Mg))) => show (W.cell? ⟨b, 2, none⟩ = some (.int .i64 0) ∧ W.cell? ⟨b, 19, none⟩ = some (.int .i64 0) ∧ W.cell? ⟨b, 21, none⟩ = some (.string (T []))) ∧ (W.frozen? ⟨b, 2, none⟩ = false ∧ W.frozen? ⟨b, 19, none⟩ = false ∧ W.frozen? ⟨b, 21, none⟩ = false) ∧ (((W.setCell ⟨b, 2, none⟩ (.int .i64 m.fid)).setCell ⟨b, 19, none⟩ (.int .i64 m.offset)).setCell ⟨b, 21, none⟩ (.string (T m.data))).heap[b]? = some (mgobj ({ mg0 with kind := 118, tag := m.tag, fid := m.fid, offset := m.offset, data := m.data } : Mg)) from ⟨⟨by rw [Lib.cell_of_heap h]; rfl, by rw [Lib.cell_of_heap h]; rfl, by rw [Lib.cell_of_heap h]; rfl⟩, ⟨Lib.frozen_of_heap h _, Lib.frozen_of_heap h _, Lib.frozen_of_heap h _⟩, (mg_set (m := ({ mg0 with kind := 118, tag := m.tag, fid := m.fid, offset := m.offset } : Mg)) (m' := ({ mg0 with kind := 118, tag := m.tag, fid := m.fid, offset := m.offset, data := m.data } : Mg)) (mg_set (m := ({ mg0 with kind := 118, tag := m.tag, fid := m.fid } : Mg)) (m' := ({ mg0 with kind := 118, tag := m.tag, fid := m.fid, offset := m.offset } : Mg)) (mg_set (m := ({ mg0 with kind := 118, tag := m.tag } : Mg)) (m' := ({ mg0 with kind := 118, tag := m.tag, fid := m.fid } : Mg)) h 2 (.int .i64 m.fid) rfl) 19 (.int .i64 m.offset) rfl) 21 (.string (T m.data)) rfl)⟩)
 have HU := lh (Tryz.underlying48)
 have HSZ0 := lh (mg_size ({ mg0 with kind := 118, tag := m.tag } : Mg))
 have HSZR := lh (mg_size ({ mg0 with kind := 118, tag := m.tag, fid := m.fid, offset := m.offset, data := m.data } : Mg))
 have HSZM := lh (mg_size m)
 have HSY0 : RowKit.Hid (mg0.cs.toArray.size = ({ mg0 with kind := 118, tag := m.tag } : Mg).cs.toArray.size) := lh rfl
 have HSYR : RowKit.Hid (mg0.cs.toArray.size = ({ mg0 with kind := 118, tag := m.tag, fid := m.fid, offset := m.offset, data := m.data } : Mg).cs.toArray.size) := lh rfl
 have HAL0 := lh (mg_all ({ mg0 with kind := 118, tag := m.tag } : Mg) ⟨⟨_, _, _, rfl⟩, ⟨_, _, _, rfl⟩⟩)
 have HALR := lh (mg_all ({ mg0 with kind := 118, tag := m.tag, fid := m.fid, offset := m.offset, data := m.data } : Mg) ⟨⟨_, _, _, rfl⟩, ⟨_, _, _, rfl⟩⟩)
 unfold mgobj at *
 clear hk hok
 generalize ({ mg0 with kind := 118, tag := m.tag, fid := m.fid, offset := m.offset, data := m.data } : Mg).cs.toArray = AR at *
 generalize ({ mg0 with kind := 118, tag := m.tag } : Mg).cs.toArray = A0 at *
 generalize m.cs.toArray = A1 at *
 generalize m.tag = tg at *
 generalize m.fid = x2 at *
 generalize m.offset = x19 at *
 generalize m.data = x21 at *
 go_enter Tryz.func136, Tryz.ntmps136
 go_upto_region 1 with fail
 generalize hw1 : World.alloc _ _ = w1
 have HB1 := lh (show Below w.heap.size w w1 from by rw [← hw1]; exact HB.out)
 have K1 := lh (show w1.heap[w.heap.size]? = some (.cells A1 48) from by rw [← hw1]; exact H1.out)
 have K2 := lh (show w1.heap[(w.heap.size + 1 + 1)]? = some (.cells mg0.cs.toArray 48) from by rw [← hw1]; exact H2.out)
 have K3 := lh (show w1.heap[(w.heap.size + 1)]? = some (.cells A0 48) from by rw [← hw1]; exact H3.out)
 clear H1 H2 H3 HB hw1
 obtain ⟨c0, c1⟩ := HC0.out _ K1.out
 have hlt : w.heap.size < w.heap.size + 1 := Nat.lt_succ_self _
 go_upto_region 7 with fail
 have J1 := lh (((below_drew1 w1).block _ (row_ltP K1.out)).trans K1.out)
 have J2 := lh K2.out
 obtain ⟨s2, s19, s21⟩ := HCS.out _ K1.out
 obtain ⟨⟨d2, d19, d21⟩, ⟨f2, f19, f21⟩, k3⟩ := HDS.out _ _ K3.out
 have L3 := lh ((below_drew1 _).block _ (row_ltP k3) |>.trans k3)
 clear k3 K1 K2 K3 c0 c1
 refine wp_region_held_drew (S := (fun W' => W'.cell? ⟨w.heap.size, 2, none⟩ = some (.int .i64 x2) ∧ W'.cell? ⟨w.heap.size, 19, none⟩ = some (.int .i64 x19) ∧ W'.cell? ⟨w.heap.size, 21, none⟩ = some (.string (T x21)))) (by kernel_rfl) (HCS.out _ J1.out) (fun hHeld => ?_)
 refine tk 0 25 ?_
 refine tk 1 26 ?_
 refine tk 2 27 ?_
 refine tk 3 28 ?_
 refine tk 4 29 ?_
 refine tk 5 30 ?_
 refine tk 6 31 ?_
 refine rdy 7 (fun K hK => ?_)
 go_simp
 have bst := ((Below.refl (w.heap.size + 1) w1).setCell (p := ⟨(w.heap.size + 1), 2, none⟩) (Nat.le_refl _) (.int .i64 x2)).drew
 refine hK.out _ _ (⟨(bst.cell (p := ⟨w.heap.size, 2, none⟩) hlt).trans s2, (bst.cell (p := ⟨w.heap.size, 19, none⟩) hlt).trans s19, (bst.cell (p := ⟨w.heap.size, 21, none⟩) hlt).trans s21⟩) (fun hHeld => ?_)
 clear bst hK K
 try simp only [Act.put, px1, px2, px3]
 refine tk 8 32 ?_
 refine rdy 9 (fun K hK => ?_)
 go_simp
 have bst := (((Below.refl (w.heap.size + 1) w1).setCell (p := ⟨(w.heap.size + 1), 2, none⟩) (Nat.le_refl _) (.int .i64 x2)).setCell (p := ⟨(w.heap.size + 1), 19, none⟩) (Nat.le_refl _) (.int .i64 x19)).drew
 refine hK.out _ _ (⟨(bst.cell (p := ⟨w.heap.size, 2, none⟩) hlt).trans s2, (bst.cell (p := ⟨w.heap.size, 19, none⟩) hlt).trans s19, (bst.cell (p := ⟨w.heap.size, 21, none⟩) hlt).trans s21⟩) (fun hHeld => ?_)
 clear bst hK K
 try simp only [Act.put, px1, px2, px3]
 refine tk 10 33 ?_
 refine rdy 11 (fun K hK => ?_)
 go_simp
 have bst := ((((Below.refl (w.heap.size + 1) w1).setCell (p := ⟨(w.heap.size + 1), 2, none⟩) (Nat.le_refl _) (.int .i64 x2)).setCell (p := ⟨(w.heap.size + 1), 19, none⟩) (Nat.le_refl _) (.int .i64 x19)).setCell (p := ⟨(w.heap.size + 1), 21, none⟩) (Nat.le_refl _) (.string (T x21))).drew
 refine hK.out _ _ (⟨(bst.cell (p := ⟨w.heap.size, 2, none⟩) hlt).trans s2, (bst.cell (p := ⟨w.heap.size, 19, none⟩) hlt).trans s19, (bst.cell (p := ⟨w.heap.size, 21, none⟩) hlt).trans s21⟩) (fun hHeld => ?_)
 clear bst hK K
 try simp only [Act.put, px1, px2, px3]
 refine wpAnyH_done (by kernel_rfl) ?_ _
 clear hHeld
 have l2 := (Below.heap_setCell ((w1.setCell ⟨(w.heap.size + 1), 2, none⟩ (.int .i64 x2)).setCell ⟨(w.heap.size + 1), 19, none⟩ (.int .i64 x19)) ⟨(w.heap.size + 1), 21, none⟩ (.string (T x21)) (w.heap.size + 1 + 1) (show (w.heap.size + 1 + 1) ≠ (w.heap.size + 1) by omega)).trans ((Below.heap_setCell (w1.setCell ⟨(w.heap.size + 1), 2, none⟩ (.int .i64 x2)) ⟨(w.heap.size + 1), 19, none⟩ (.int .i64 x19) (w.heap.size + 1 + 1) (show (w.heap.size + 1 + 1) ≠ (w.heap.size + 1) by omega)).trans ((Below.heap_setCell w1 ⟨(w.heap.size + 1), 2, none⟩ (.int .i64 x2) (w.heap.size + 1 + 1) (show (w.heap.size + 1 + 1) ≠ (w.heap.size + 1) by omega)).trans (J2.out)))
 have L2 := lh (((below_drew1 _).block _ (row_ltP l2)).trans l2)
 clear l2
 have HB2 := lh (((HB1.out.setCell (p := ⟨(w.heap.size + 1), 2, none⟩) (show w.heap.size ≤ (w.heap.size + 1) by omega) (.int .i64 x2)).setCell (p := ⟨(w.heap.size + 1), 19, none⟩) (show w.heap.size ≤ (w.heap.size + 1) by omega) (.int .i64 x19)).setCell (p := ⟨(w.heap.size + 1), 21, none⟩) (show w.heap.size ≤ (w.heap.size + 1) by omega) (.string (T x21))).drew
 clear s2 d2 f2 s19 d19 f19 s21 d21 f21 HCS HDS
 generalize (((w1.setCell ⟨(w.heap.size + 1), 2, none⟩ (.int .i64 x2)).setCell ⟨(w.heap.size + 1), 19, none⟩ (.int .i64 x19)).setCell ⟨(w.heap.size + 1), 21, none⟩ (.string (T x21))).drew = w2 at *
 generalize mg0.cs.toArray = A3 at *
 go_wp2_with (first | refine wpList_load_row rfl 48 _ rfl (w.heap.size + 1) rfl 48 AR (0, 0) _ L3.out HU.out rfl HSZR.out ?_ | refine wpList_store_row rfl 48 _ _ rfl (w.heap.size + 1 + 1) AR rfl rfl 48 A3 L2.out HSZR.out HSYR.out HALR.out ?_)
 refine bodyPost_ret (v := .agg AR) (results_cell_row Tryz.results136 _ _ (w.heap.size + 1 + 1) 48 AR (0, 0) _ rfl (heap_setRow_same L2.out) HU.out rfl HSZR.out) rfl ⟨rfl, below_setRow HB2.out (by omega) _⟩
theorem rest_120 (m : Mg) (hk : m.kind = 120) (hok : m.ok) (w : World) : Calls Tryz.prog 136 #[.agg m.cs.toArray, .agg ({ mg0 with kind := 120, tag := m.tag } : Mg).cs.toArray] w fun e w' => e = .returned (.agg (onl m).cs.toArray) ∧ Below w.heap.size w w' := by
 have ho : onl m = ({ mg0 with kind := 120, tag := m.tag, fid := m.fid } : Mg) := by simp [onl, hk]
 rw [ho]
 clear ho
 have h1 := heap_alloc_new w (mgobj m)
 have h2 := heap_alloc_new (w.alloc (mgobj m)) (mgobj ({ mg0 with kind := 120, tag := m.tag } : Mg))
 have h3 := heap_alloc_new ((w.alloc (mgobj m)).alloc (mgobj ({ mg0 with kind := 120, tag := m.tag } : Mg))) (mgobj mg0)
 rw [show (w.alloc (mgobj m)).heap.size = w.heap.size + 1 from by simp] at h2
 rw [show ((w.alloc (mgobj m)).alloc (mgobj ({ mg0 with kind := 120, tag := m.tag } : Mg))).heap.size = w.heap.size + 1 + 1 from by simp] at h3
 have HB := lh (bnext (bnext (alloc_below w (mgobj m)) (alloc_below _ (mgobj ({ mg0 with kind := 120, tag := m.tag } : Mg)))) (alloc_below _ (mgobj mg0)))
 have H1 := lh ((Lib.alloc_old _ (mgobj mg0) _ (by simp; omega)).trans ((Lib.alloc_old _ (mgobj ({ mg0 with kind := 120, tag := m.tag } : Mg)) _ (by simp)).trans h1))
 have H3 := lh ((Lib.alloc_old _ (mgobj mg0) _ (by simp)).trans h2)
 have H2 := lh h3
 clear h1 h2 h3
 have HC0 := lh (fun (W : World) (h : W.heap[w.heap.size]? = some (mgobj m)) => show W.cell? ⟨w.heap.size, 0, none⟩ = some (.int .i64 120) ∧ W.cell? ⟨w.heap.size, 1, none⟩ = some (.int .i64 m.tag) from ⟨by rw [Lib.cell_of_heap h, ← hk]; rfl, by rw [Lib.cell_of_heap h]; rfl⟩)
 have HCS := lh (fun (W : World) (h : W.heap[w.heap.size]? = some (mgobj m)) => show W.cell? ⟨w.heap.size, 2, none⟩ = some (.int .i64 m.fid) from by rw [Lib.cell_of_heap h]; rfl)
 have HDS := lh (fun (W : World) (b : Nat) (h : W.heap[b]? = some (mgobj ({ mg0 with kind := 120, tag := m.tag } : Mg))) => show (W.cell? ⟨b, 2, none⟩ = some (.int .i64 0)) ∧ (W.frozen? ⟨b, 2, none⟩ = false) ∧ (W.setCell ⟨b, 2, none⟩ (.int .i64 m.fid)).heap[b]? = some (mgobj ({ mg0 with kind := 120, tag := m.tag, fid := m.fid } : Mg)) from ⟨by rw [Lib.cell_of_heap h]; rfl, Lib.frozen_of_heap h _, (mg_set (m := ({ mg0 with kind := 120, tag := m.tag } : Mg)) (m' := ({ mg0 with kind := 120, tag := m.tag, fid := m.fid } : Mg)) h 2 (.int .i64 m.fid) rfl)⟩)
 have HU := lh (Tryz.underlying48)
 have HSZ0 := lh (mg_size ({ mg0 with kind := 120, tag := m.tag } : Mg))
 have HSZR := lh (mg_size ({ mg0 with kind := 120, tag := m.tag, fid := m.fid } : Mg))
 have HSZM := lh (mg_size m)
 have HSY0 : RowKit.Hid (mg0.cs.toArray.size = ({ mg0 with kind := 120, tag := m.tag } : Mg).cs.toArray.size) := lh rfl
 have HSYR : RowKit.Hid (mg0.cs.toArray.size = ({ mg0 with kind := 120, tag := m.tag, fid := m.fid } : Mg).cs.toArray.size) := lh rfl
 have HAL0 := lh (mg_all ({ mg0 with kind := 120, tag := m.tag } : Mg) ⟨⟨_, _, _, rfl⟩, ⟨_, _, _, rfl⟩⟩)
 have HALR := lh (mg_all ({ mg0 with kind := 120, tag := m.tag, fid := m.fid } : Mg) ⟨⟨_, _, _, rfl⟩, ⟨_, _, _, rfl⟩⟩)
 unfold mgobj at *
 clear hk hok
 generalize ({ mg0 with kind := 120, tag := m.tag, fid := m.fid } : Mg).cs.toArray = AR at *
 generalize ({ mg0 with kind := 120, tag := m.tag } : Mg).cs.toArray = A0 at *
 generalize m.cs.toArray = A1 at *
 generalize m.tag = tg at *
 generalize m.fid = x2 at *
 go_enter Tryz.func136, Tryz.ntmps136
 go_upto_region 1 with fail
 generalize hw1 : World.alloc _ _ = w1
 have HB1 := lh (show Below w.heap.size w w1 from by rw [← hw1]; exact HB.out)
 have K1 := lh (show w1.heap[w.heap.size]? = some (.cells A1 48) from by rw [← hw1]; exact H1.out)
 have K2 := lh (show w1.heap[(w.heap.size + 1 + 1)]? = some (.cells mg0.cs.toArray 48) from by rw [← hw1]; exact H2.out)
 have K3 := lh (show w1.heap[(w.heap.size + 1)]? = some (.cells A0 48) from by rw [← hw1]; exact H3.out)
 clear H1 H2 H3 HB hw1
 obtain ⟨c0, c1⟩ := HC0.out _ K1.out
 have hlt : w.heap.size < w.heap.size + 1 := Nat.lt_succ_self _
 have s2 := HCS.out _ K1.out
 obtain ⟨d2, f2, k3⟩ := HDS.out _ _ K3.out
 have L3 := lh k3
 have L2 := lh ((Below.heap_setCell w1 ⟨(w.heap.size + 1), 2, none⟩ (.int .i64 x2) (w.heap.size + 1 + 1) (show (w.heap.size + 1 + 1) ≠ (w.heap.size + 1) by omega)).trans K2.out)
 have HB2 := lh (HB1.out.setCell (p := ⟨(w.heap.size + 1), 2, none⟩) (show w.heap.size ≤ (w.heap.size + 1) by omega) (.int .i64 x2))
 clear k3
 go_upto_region 24 with fail
 generalize World.setCell w1 ⟨(w.heap.size + 1), 2, none⟩ (.int .i64 x2) = w2 at *
 clear s2 d2 f2 c0 c1 HCS HDS
 generalize mg0.cs.toArray = A3 at *
 go_wp2_with (first | refine wpList_load_row rfl 48 _ rfl (w.heap.size + 1) rfl 48 AR (0, 0) _ L3.out HU.out rfl HSZR.out ?_ | refine wpList_store_row rfl 48 _ _ rfl (w.heap.size + 1 + 1) AR rfl rfl 48 A3 L2.out HSZR.out HSYR.out HALR.out ?_)
 refine bodyPost_ret (v := .agg AR) (results_cell_row Tryz.results136 _ _ (w.heap.size + 1 + 1) 48 AR (0, 0) _ rfl (heap_setRow_same L2.out) HU.out rfl HSZR.out) rfl ⟨rfl, below_setRow HB2.out (by omega) _⟩
theorem rest_122 (m : Mg) (hk : m.kind = 122) (hok : m.ok) (w : World) : Calls Tryz.prog 136 #[.agg m.cs.toArray, .agg ({ mg0 with kind := 122, tag := m.tag } : Mg).cs.toArray] w fun e w' => e = .returned (.agg (onl m).cs.toArray) ∧ Below w.heap.size w w' := by
 have ho : onl m = ({ mg0 with kind := 122, tag := m.tag, fid := m.fid } : Mg) := by simp [onl, hk]
 rw [ho]
 clear ho
 have h1 := heap_alloc_new w (mgobj m)
 have h2 := heap_alloc_new (w.alloc (mgobj m)) (mgobj ({ mg0 with kind := 122, tag := m.tag } : Mg))
 have h3 := heap_alloc_new ((w.alloc (mgobj m)).alloc (mgobj ({ mg0 with kind := 122, tag := m.tag } : Mg))) (mgobj mg0)
 rw [show (w.alloc (mgobj m)).heap.size = w.heap.size + 1 from by simp] at h2
 rw [show ((w.alloc (mgobj m)).alloc (mgobj ({ mg0 with kind := 122, tag := m.tag } : Mg))).heap.size = w.heap.size + 1 + 1 from by simp] at h3
 have HB := lh (bnext (bnext (alloc_below w (mgobj m)) (alloc_below _ (mgobj ({ mg0 with kind := 122, tag := m.tag } : Mg)))) (alloc_below _ (mgobj mg0)))
 have H1 := lh ((Lib.alloc_old _ (mgobj mg0) _ (by simp; omega)).trans ((Lib.alloc_old _ (mgobj ({ mg0 with kind := 122, tag := m.tag } : Mg)) _ (by simp)).trans h1))
 have H3 := lh ((Lib.alloc_old _ (mgobj mg0) _ (by simp)).trans h2)
 have H2 := lh h3
 clear h1 h2 h3
 have HC0 := lh (fun (W : World) (h : W.heap[w.heap.size]? = some (mgobj m)) => show W.cell? ⟨w.heap.size, 0, none⟩ = some (.int .i64 122) ∧ W.cell? ⟨w.heap.size, 1, none⟩ = some (.int .i64 m.tag) from ⟨by rw [Lib.cell_of_heap h, ← hk]; rfl, by rw [Lib.cell_of_heap h]; rfl⟩)
 have HCS := lh (fun (W : World) (h : W.heap[w.heap.size]? = some (mgobj m)) => show W.cell? ⟨w.heap.size, 2, none⟩ = some (.int .i64 m.fid) from by rw [Lib.cell_of_heap h]; rfl)
 have HDS := lh (fun (W : World) (b : Nat) (h : W.heap[b]? = some (mgobj ({ mg0 with kind := 122, tag := m.tag } : Mg))) => show (W.cell? ⟨b, 2, none⟩ = some (.int .i64 0)) ∧ (W.frozen? ⟨b, 2, none⟩ = false) ∧ (W.setCell ⟨b, 2, none⟩ (.int .i64 m.fid)).heap[b]? = some (mgobj ({ mg0 with kind := 122, tag := m.tag, fid := m.fid } : Mg)) from ⟨by rw [Lib.cell_of_heap h]; rfl, Lib.frozen_of_heap h _, (mg_set (m := ({ mg0 with kind := 122, tag := m.tag } : Mg)) (m' := ({ mg0 with kind := 122, tag := m.tag, fid := m.fid } : Mg)) h 2 (.int .i64 m.fid) rfl)⟩)
 have HU := lh (Tryz.underlying48)
 have HSZ0 := lh (mg_size ({ mg0 with kind := 122, tag := m.tag } : Mg))
 have HSZR := lh (mg_size ({ mg0 with kind := 122, tag := m.tag, fid := m.fid } : Mg))
 have HSZM := lh (mg_size m)
 have HSY0 : RowKit.Hid (mg0.cs.toArray.size = ({ mg0 with kind := 122, tag := m.tag } : Mg).cs.toArray.size) := lh rfl
 have HSYR : RowKit.Hid (mg0.cs.toArray.size = ({ mg0 with kind := 122, tag := m.tag, fid := m.fid } : Mg).cs.toArray.size) := lh rfl
 have HAL0 := lh (mg_all ({ mg0 with kind := 122, tag := m.tag } : Mg) ⟨⟨_, _, _, rfl⟩, ⟨_, _, _, rfl⟩⟩)
 have HALR := lh (mg_all ({ mg0 with kind := 122, tag := m.tag, fid := m.fid } : Mg) ⟨⟨_, _, _, rfl⟩, ⟨_, _, _, rfl⟩⟩)
 unfold mgobj at *
 clear hk hok
 generalize ({ mg0 with kind := 122, tag := m.tag, fid := m.fid } : Mg).cs.toArray = AR at *
 generalize ({ mg0 with kind := 122, tag := m.tag } : Mg).cs.toArray = A0 at *
 generalize m.cs.toArray = A1 at *
 generalize m.tag = tg at *
 generalize m.fid = x2 at *
 go_enter Tryz.func136, Tryz.ntmps136
 go_upto_region 1 with fail
 generalize hw1 : World.alloc _ _ = w1
 have HB1 := lh (show Below w.heap.size w w1 from by rw [← hw1]; exact HB.out)
 have K1 := lh (show w1.heap[w.heap.size]? = some (.cells A1 48) from by rw [← hw1]; exact H1.out)
 have K2 := lh (show w1.heap[(w.heap.size + 1 + 1)]? = some (.cells mg0.cs.toArray 48) from by rw [← hw1]; exact H2.out)
 have K3 := lh (show w1.heap[(w.heap.size + 1)]? = some (.cells A0 48) from by rw [← hw1]; exact H3.out)
 clear H1 H2 H3 HB hw1
 obtain ⟨c0, c1⟩ := HC0.out _ K1.out
 have hlt : w.heap.size < w.heap.size + 1 := Nat.lt_succ_self _
 have s2 := HCS.out _ K1.out
 obtain ⟨d2, f2, k3⟩ := HDS.out _ _ K3.out
 have L3 := lh k3
 have L2 := lh ((Below.heap_setCell w1 ⟨(w.heap.size + 1), 2, none⟩ (.int .i64 x2) (w.heap.size + 1 + 1) (show (w.heap.size + 1 + 1) ≠ (w.heap.size + 1) by omega)).trans K2.out)
 have HB2 := lh (HB1.out.setCell (p := ⟨(w.heap.size + 1), 2, none⟩) (show w.heap.size ≤ (w.heap.size + 1) by omega) (.int .i64 x2))
 clear k3
 go_upto_region 24 with fail
 generalize World.setCell w1 ⟨(w.heap.size + 1), 2, none⟩ (.int .i64 x2) = w2 at *
 clear s2 d2 f2 c0 c1 HCS HDS
 generalize mg0.cs.toArray = A3 at *
 go_wp2_with (first | refine wpList_load_row rfl 48 _ rfl (w.heap.size + 1) rfl 48 AR (0, 0) _ L3.out HU.out rfl HSZR.out ?_ | refine wpList_store_row rfl 48 _ _ rfl (w.heap.size + 1 + 1) AR rfl rfl 48 A3 L2.out HSZR.out HSYR.out HALR.out ?_)
 refine bodyPost_ret (v := .agg AR) (results_cell_row Tryz.results136 _ _ (w.heap.size + 1 + 1) 48 AR (0, 0) _ rfl (heap_setRow_same L2.out) HU.out rfl HSZR.out) rfl ⟨rfl, below_setRow HB2.out (by omega) _⟩
theorem rest_124 (m : Mg) (hk : m.kind = 124) (hok : m.ok) (w : World) : Calls Tryz.prog 136 #[.agg m.cs.toArray, .agg ({ mg0 with kind := 124, tag := m.tag } : Mg).cs.toArray] w fun e w' => e = .returned (.agg (onl m).cs.toArray) ∧ Below w.heap.size w w' := by
 have ho : onl m = ({ mg0 with kind := 124, tag := m.tag, fid := m.fid } : Mg) := by simp [onl, hk]
 rw [ho]
 clear ho
 have h1 := heap_alloc_new w (mgobj m)
 have h2 := heap_alloc_new (w.alloc (mgobj m)) (mgobj ({ mg0 with kind := 124, tag := m.tag } : Mg))
 have h3 := heap_alloc_new ((w.alloc (mgobj m)).alloc (mgobj ({ mg0 with kind := 124, tag := m.tag } : Mg))) (mgobj mg0)
 rw [show (w.alloc (mgobj m)).heap.size = w.heap.size + 1 from by simp] at h2
 rw [show ((w.alloc (mgobj m)).alloc (mgobj ({ mg0 with kind := 124, tag := m.tag } : Mg))).heap.size = w.heap.size + 1 + 1 from by simp] at h3
 have HB := lh (bnext (bnext (alloc_below w (mgobj m)) (alloc_below _ (mgobj ({ mg0 with kind := 124, tag := m.tag } : Mg)))) (alloc_below _ (mgobj mg0)))
 have H1 := lh ((Lib.alloc_old _ (mgobj mg0) _ (by simp; omega)).trans ((Lib.alloc_old _ (mgobj ({ mg0 with kind := 124, tag := m.tag } : Mg)) _ (by simp)).trans h1))
 have H3 := lh ((Lib.alloc_old _ (mgobj mg0) _ (by simp)).trans h2)
 have H2 := lh h3
 clear h1 h2 h3
 have HC0 := lh (fun (W : World) (h : W.heap[w.heap.size]? = some (mgobj m)) => show W.cell? ⟨w.heap.size, 0, none⟩ = some (.int .i64 124) ∧ W.cell? ⟨w.heap.size, 1, none⟩ = some (.int .i64 m.tag) from ⟨by rw [Lib.cell_of_heap h, ← hk]; rfl, by rw [Lib.cell_of_heap h]; rfl⟩)
 have HCS := lh (fun (W : World) (h : W.heap[w.heap.size]? = some (mgobj m)) => show W.cell? ⟨w.heap.size, 2, none⟩ = some (.int .i64 m.fid) from by rw [Lib.cell_of_heap h]; rfl)
 have HDS := lh (fun (W : World) (b : Nat) (h : W.heap[b]? = some (mgobj ({ mg0 with kind := 124, tag := m.tag } : Mg))) => show (W.cell? ⟨b, 2, none⟩ = some (.int .i64 0)) ∧ (W.frozen? ⟨b, 2, none⟩ = false) ∧ (W.setCell ⟨b, 2, none⟩ (.int .i64 m.fid)).heap[b]? = some (mgobj ({ mg0 with kind := 124, tag := m.tag, fid := m.fid } : Mg)) from ⟨by rw [Lib.cell_of_heap h]; rfl, Lib.frozen_of_heap h _, (mg_set (m := ({ mg0 with kind := 124, tag := m.tag } : Mg)) (m' := ({ mg0 with kind := 124, tag := m.tag, fid := m.fid } : Mg)) h 2 (.int .i64 m.fid) rfl)⟩)
 have HU := lh (Tryz.underlying48)
 have HSZ0 := lh (mg_size ({ mg0 with kind := 124, tag := m.tag } : Mg))
 have HSZR := lh (mg_size ({ mg0 with kind := 124, tag := m.tag, fid := m.fid } : Mg))
 have HSZM := lh (mg_size m)
 have HSY0 : RowKit.Hid (mg0.cs.toArray.size = ({ mg0 with kind := 124, tag := m.tag } : Mg).cs.toArray.size) := lh rfl
 have HSYR : RowKit.Hid (mg0.cs.toArray.size = ({ mg0 with kind := 124, tag := m.tag, fid := m.fid } : Mg).cs.toArray.size) := lh rfl
 have HAL0 := lh (mg_all ({ mg0 with kind := 124, tag := m.tag } : Mg) ⟨⟨_, _, _, rfl⟩, ⟨_, _, _, rfl⟩⟩)
 have HALR := lh (mg_all ({ mg0 with kind := 124, tag := m.tag, fid := m.fid } : Mg) ⟨⟨_, _, _, rfl⟩, ⟨_, _, _, rfl⟩⟩)
 unfold mgobj at *
 clear hk hok
 generalize ({ mg0 with kind := 124, tag := m.tag, fid := m.fid } : Mg).cs.toArray = AR at *
 generalize ({ mg0 with kind := 124, tag := m.tag } : Mg).cs.toArray = A0 at *
 generalize m.cs.toArray = A1 at *
 generalize m.tag = tg at *
 generalize m.fid = x2 at *
 go_enter Tryz.func136, Tryz.ntmps136
 go_upto_region 1 with fail
 generalize hw1 : World.alloc _ _ = w1
 have HB1 := lh (show Below w.heap.size w w1 from by rw [← hw1]; exact HB.out)
 have K1 := lh (show w1.heap[w.heap.size]? = some (.cells A1 48) from by rw [← hw1]; exact H1.out)
 have K2 := lh (show w1.heap[(w.heap.size + 1 + 1)]? = some (.cells mg0.cs.toArray 48) from by rw [← hw1]; exact H2.out)
 have K3 := lh (show w1.heap[(w.heap.size + 1)]? = some (.cells A0 48) from by rw [← hw1]; exact H3.out)
 clear H1 H2 H3 HB hw1
 obtain ⟨c0, c1⟩ := HC0.out _ K1.out
 have hlt : w.heap.size < w.heap.size + 1 := Nat.lt_succ_self _
 have s2 := HCS.out _ K1.out
 obtain ⟨d2, f2, k3⟩ := HDS.out _ _ K3.out
 have L3 := lh k3
 have L2 := lh ((Below.heap_setCell w1 ⟨(w.heap.size + 1), 2, none⟩ (.int .i64 x2) (w.heap.size + 1 + 1) (show (w.heap.size + 1 + 1) ≠ (w.heap.size + 1) by omega)).trans K2.out)
 have HB2 := lh (HB1.out.setCell (p := ⟨(w.heap.size + 1), 2, none⟩) (show w.heap.size ≤ (w.heap.size + 1) by omega) (.int .i64 x2))
 clear k3
 go_upto_region 24 with fail
 generalize World.setCell w1 ⟨(w.heap.size + 1), 2, none⟩ (.int .i64 x2) = w2 at *
 clear s2 d2 f2 c0 c1 HCS HDS
 generalize mg0.cs.toArray = A3 at *
 go_wp2_with (first | refine wpList_load_row rfl 48 _ rfl (w.heap.size + 1) rfl 48 AR (0, 0) _ L3.out HU.out rfl HSZR.out ?_ | refine wpList_store_row rfl 48 _ _ rfl (w.heap.size + 1 + 1) AR rfl rfl 48 A3 L2.out HSZR.out HSYR.out HALR.out ?_)
 refine bodyPost_ret (v := .agg AR) (results_cell_row Tryz.results136 _ _ (w.heap.size + 1 + 1) 48 AR (0, 0) _ rfl (heap_setRow_same L2.out) HU.out rfl HSZR.out) rfl ⟨rfl, below_setRow HB2.out (by omega) _⟩
end Go.Proofs.YtfibaopngpfmjaaGreatDoor
