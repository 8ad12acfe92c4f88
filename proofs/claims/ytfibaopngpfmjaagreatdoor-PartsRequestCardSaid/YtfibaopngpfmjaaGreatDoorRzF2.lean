/- msg.only, second part. Conditions: those that each theorem names. -/
import Derived.Test.YtfibaopngpfmjaaGreatDoorRzF1
import Derived.Test.YtfibaopngpfmjaaGreatDoorRzB6
import Derived.Test.YtfibaopngpfmjaaGreatDoorRzA1
set_option linter.unusedVariables false
set_option linter.unusedSimpArgs false
set_option maxRecDepth 100000
set_option maxHeartbeats 8000000
namespace Go.Proofs.YtfibaopngpfmjaaGreatDoor
open Go.RowKit Go.Proofs
theorem only_110 (m : Mg) (hk : m.kind = 110) (hok : m.ok) (w : World) : Calls Tryz.prog 81 #[.agg m.cs.toArray] w fun e w' => e = .returned (.agg (onl m).cs.toArray) ∧ Below w.heap.size w w' := by
 have ho : onl m = ({ mg0 with kind := 110, tag := m.tag, fid := m.fid, newFid := m.newFid, names := m.names } : Mg) := by simp [onl, hk]
 rw [ho]
 clear ho
 have h1 := heap_alloc_new w (mgobj m)
 have h2 := heap_alloc_new (w.alloc (mgobj m)) (mgobj mg0)
 rw [show (w.alloc (mgobj m)).heap.size = w.heap.size + 1 from by simp] at h2
 have HB := lh (bnext (alloc_below w (mgobj m)) (alloc_below _ (mgobj mg0)))
 have H1 := lh ((Lib.alloc_old _ (mgobj mg0) _ (by simp)).trans h1)
 have H2 := lh h2
 clear h1 h2
 have HC0 := lh (fun (W : World) (h : W.heap[w.heap.size]? = some (mgobj m)) => show W.cell? ⟨w.heap.size, 0, none⟩ = some (.int .i64 110) ∧ W.cell? ⟨w.heap.size, 1, none⟩ = some (.int .i64 m.tag) from ⟨by rw [Lib.cell_of_heap h, ← hk]; rfl, by rw [Lib.cell_of_heap h]; rfl⟩)
 have HCS := lh (fun (W : World) (h : W.heap[w.heap.size]? = some (mgobj m)) => show W.cell? ⟨w.heap.size, 2, none⟩ = some (.int .i64 m.fid) ∧ W.cell? ⟨w.heap.size, 3, none⟩ = some (.int .i64 m.newFid) ∧ W.cell? ⟨w.heap.size, 10, none⟩ = some (m.names) from ⟨by rw [Lib.cell_of_heap h]; rfl, by rw [Lib.cell_of_heap h]; rfl, by rw [Lib.cell_of_heap h]; rfl⟩)
 have HDS := lh (fun (W : World) (b : Nat) (h : W.heap[b]? = some (mgobj ({ mg0 with kind := 110, tag := m.tag } : Mg))) => show (W.cell? ⟨b, 2, none⟩ = some (.int .i64 0) ∧ W.cell? ⟨b, 3, none⟩ = some (.int .i64 0) ∧ W.cell? ⟨b, 10, none⟩ = some (.slice none 0 0)) ∧ (W.frozen? ⟨b, 2, none⟩ = false ∧ W.frozen? ⟨b, 3, none⟩ = false ∧ W.frozen? ⟨b, 10, none⟩ = false) ∧ (((W.setCell ⟨b, 2, none⟩ (.int .i64 m.fid)).setCell ⟨b, 3, none⟩ (.int .i64 m.newFid)).setCell ⟨b, 10, none⟩ (m.names)).heap[b]? = some (mgobj ({ mg0 with kind := 110, tag := m.tag, fid := m.fid, newFid := m.newFid, names := m.names } : Mg)) from ⟨⟨by rw [Lib.cell_of_heap h]; rfl, by rw [Lib.cell_of_heap h]; rfl, by rw [Lib.cell_of_heap h]; rfl⟩, ⟨Lib.frozen_of_heap h _, Lib.frozen_of_heap h _, Lib.frozen_of_heap h _⟩, (mg_set (m := ({ mg0 with kind := 110, tag := m.tag, fid := m.fid, newFid := m.newFid } : Mg)) (m' := ({ mg0 with kind := 110, tag := m.tag, fid := m.fid, newFid := m.newFid, names := m.names } : Mg)) (mg_set (m := ({ mg0 with kind := 110, tag := m.tag, fid := m.fid } : Mg)) (m' := ({ mg0 with kind := 110, tag := m.tag, fid := m.fid, newFid := m.newFid } : Mg)) (mg_set (m := ({ mg0 with kind := 110, tag := m.tag } : Mg)) (m' := ({ mg0 with kind := 110, tag := m.tag, fid := m.fid } : Mg)) h 2 (.int .i64 m.fid) rfl) 3 (.int .i64 m.newFid) rfl) 10 (m.names) rfl)⟩)
 have HU := lh (Tryz.underlying48)
 have HSZ0 := lh (mg_size ({ mg0 with kind := 110, tag := m.tag } : Mg))
 have HSZR := lh (mg_size ({ mg0 with kind := 110, tag := m.tag, fid := m.fid, newFid := m.newFid, names := m.names } : Mg))
 have HSZM := lh (mg_size m)
 have HSY0 : RowKit.Hid (mg0.cs.toArray.size = ({ mg0 with kind := 110, tag := m.tag } : Mg).cs.toArray.size) := lh rfl
 have HSYR : RowKit.Hid (mg0.cs.toArray.size = ({ mg0 with kind := 110, tag := m.tag, fid := m.fid, newFid := m.newFid, names := m.names } : Mg).cs.toArray.size) := lh rfl
 have HAL0 := lh (mg_all ({ mg0 with kind := 110, tag := m.tag } : Mg) ⟨⟨_, _, _, rfl⟩, ⟨_, _, _, rfl⟩⟩)
 have HALR := lh (mg_all ({ mg0 with kind := 110, tag := m.tag, fid := m.fid, newFid := m.newFid, names := m.names } : Mg) ⟨hok.1, ⟨_, _, _, rfl⟩⟩)
 have HBU : RowKit.Hid (Tryz.prog.built 48 [(0, .int .i64 110), (1, .int .i64 m.tag)] = some ({ mg0 with kind := 110, tag := m.tag } : Mg).cs.toArray) := lh (by kernel_rfl)
 unfold mgobj at *
 generalize ({ mg0 with kind := 110, tag := m.tag, fid := m.fid, newFid := m.newFid, names := m.names } : Mg).cs.toArray = AR at *
 obtain ⟨⟨an, nn, cn, hn⟩, _⟩ := hok
 rw [hn] at HCS HDS
 clear hn
 clear hk
 generalize ({ mg0 with kind := 110, tag := m.tag } : Mg).cs.toArray = A0 at *
 generalize m.cs.toArray = A1 at *
 generalize m.tag = tg at *
 generalize m.fid = x2 at *
 generalize m.newFid = x3 at *
 go_enter Tryz.func81, Tryz.ntmps81
 go_upto_region 1 with fail
 generalize hw1 : World.alloc _ _ = w1
 have HB1 := lh (show Below w.heap.size w w1 from by rw [← hw1]; exact HB.out)
 have K1 := lh (show w1.heap[w.heap.size]? = some (.cells A1 48) from by rw [← hw1]; exact H1.out)
 have K2 := lh (show w1.heap[(w.heap.size + 1)]? = some (.cells mg0.cs.toArray 48) from by rw [← hw1]; exact H2.out)
 clear H1 H2 HB hw1
 obtain ⟨c0, c1⟩ := HC0.out _ K1.out
 have hz1 := heap_alloc_new w1 (mgobj mg0)
 go_upto_region 2 with (first | refine wpList_build_at rfl 48 _ rfl A0 (by simp only [List.map_toArray, List.map_cons, List.map_nil]; exact HBU.out) ?_ | refine wpList_store_row rfl 48 _ _ rfl w1.heap.size A0 rfl rfl 48 mg0.cs.toArray hz1 HSZ0.out HSY0.out HAL0.out ?_)
 generalize hwx : World.setRow _ _ _ = wx
 have bx := (show Below w1.heap.size w1 wx from by rw [← hwx]; exact below_setRow (alloc_below w1 _) (Nat.le_refl _) _)
 have K3 := lh (show wx.heap[w1.heap.size]? = some (.cells A0 48) from by rw [← hwx]; exact heap_setRow_same (heap_alloc_new w1 _))
 clear hz1
 have hlt : w.heap.size < w1.heap.size := row_ltP K1.out
 have hlt2 : w.heap.size + 1 < w1.heap.size := row_ltP K2.out
 have K1 := lh ((bx.block _ (row_ltP K1.out)).trans K1.out)
 have K2 := lh ((bx.block _ (row_ltP K2.out)).trans K2.out)
 have HB1 := lh (bnext HB1.out bx)
 clear bx hwx c0 c1
 generalize w1.heap.size = b3 at *
 obtain ⟨c0, c1⟩ := HC0.out _ K1.out
 go_upto_region 20 with fail
 have J1 := lh (((below_drew1 wx).block _ (row_ltP K1.out)).trans K1.out)
 have J2 := lh K2.out
 obtain ⟨s2, s3, s10⟩ := HCS.out _ K1.out
 obtain ⟨⟨d2, d3, d10⟩, ⟨f2, f3, f10⟩, k3⟩ := HDS.out _ _ K3.out
 have L3 := lh ((below_drew1 _).block _ (row_ltP k3) |>.trans k3)
 clear k3 K1 K2 K3 c0 c1
 refine wp_region_held_drew (S := (fun W' => W'.cell? ⟨w.heap.size, 2, none⟩ = some (.int .i64 x2) ∧ W'.cell? ⟨w.heap.size, 3, none⟩ = some (.int .i64 x3) ∧ W'.cell? ⟨w.heap.size, 10, none⟩ = some (.slice an nn cn))) (by kernel_rfl) (HCS.out _ J1.out) (fun hHeld => ?_)
 refine tk 0 76 ?_
 refine tk 1 77 ?_
 refine tk 2 78 ?_
 refine tk 3 79 ?_
 refine tk 4 80 ?_
 refine tk 5 81 ?_
 refine tk 6 82 ?_
 refine rdy 7 (fun K hK => ?_)
 go_simp
 have bst := ((Below.refl b3 wx).setCell (p := ⟨b3, 2, none⟩) (Nat.le_refl _) (.int .i64 x2)).drew
 refine hK.out _ _ (⟨(bst.cell (p := ⟨w.heap.size, 2, none⟩) hlt).trans s2, (bst.cell (p := ⟨w.heap.size, 3, none⟩) hlt).trans s3, (bst.cell (p := ⟨w.heap.size, 10, none⟩) hlt).trans s10⟩) (fun hHeld => ?_)
 clear bst hK K
 try simp only [Act.put, px1, px2, px3]
 refine tk 8 83 ?_
 refine rdy 9 (fun K hK => ?_)
 go_simp
 have bst := (((Below.refl b3 wx).setCell (p := ⟨b3, 2, none⟩) (Nat.le_refl _) (.int .i64 x2)).setCell (p := ⟨b3, 3, none⟩) (Nat.le_refl _) (.int .i64 x3)).drew
 refine hK.out _ _ (⟨(bst.cell (p := ⟨w.heap.size, 2, none⟩) hlt).trans s2, (bst.cell (p := ⟨w.heap.size, 3, none⟩) hlt).trans s3, (bst.cell (p := ⟨w.heap.size, 10, none⟩) hlt).trans s10⟩) (fun hHeld => ?_)
 clear bst hK K
 try simp only [Act.put, px1, px2, px3]
 refine tk 10 84 ?_
 refine rdy 11 (fun K hK => ?_)
 go_simp
 have bst := ((((Below.refl b3 wx).setCell (p := ⟨b3, 2, none⟩) (Nat.le_refl _) (.int .i64 x2)).setCell (p := ⟨b3, 3, none⟩) (Nat.le_refl _) (.int .i64 x3)).setCell (p := ⟨b3, 10, none⟩) (Nat.le_refl _) (.slice an nn cn)).drew
 refine hK.out _ _ (⟨(bst.cell (p := ⟨w.heap.size, 2, none⟩) hlt).trans s2, (bst.cell (p := ⟨w.heap.size, 3, none⟩) hlt).trans s3, (bst.cell (p := ⟨w.heap.size, 10, none⟩) hlt).trans s10⟩) (fun hHeld => ?_)
 clear bst hK K
 try simp only [Act.put, px1, px2, px3]
 refine wpAnyH_done (by kernel_rfl) ?_ _
 clear hHeld
 have l2 := (Below.heap_setCell ((wx.setCell ⟨b3, 2, none⟩ (.int .i64 x2)).setCell ⟨b3, 3, none⟩ (.int .i64 x3)) ⟨b3, 10, none⟩ (.slice an nn cn) (w.heap.size + 1) (show (w.heap.size + 1) ≠ b3 by omega)).trans ((Below.heap_setCell (wx.setCell ⟨b3, 2, none⟩ (.int .i64 x2)) ⟨b3, 3, none⟩ (.int .i64 x3) (w.heap.size + 1) (show (w.heap.size + 1) ≠ b3 by omega)).trans ((Below.heap_setCell wx ⟨b3, 2, none⟩ (.int .i64 x2) (w.heap.size + 1) (show (w.heap.size + 1) ≠ b3 by omega)).trans (J2.out)))
 have L2 := lh (((below_drew1 _).block _ (row_ltP l2)).trans l2)
 clear l2
 have HB2 := lh (((HB1.out.setCell (p := ⟨b3, 2, none⟩) (show w.heap.size ≤ b3 by omega) (.int .i64 x2)).setCell (p := ⟨b3, 3, none⟩) (show w.heap.size ≤ b3 by omega) (.int .i64 x3)).setCell (p := ⟨b3, 10, none⟩) (show w.heap.size ≤ b3 by omega) (.slice an nn cn)).drew
 clear s2 d2 f2 s3 d3 f3 s10 d10 f10 HCS HDS
 generalize (((wx.setCell ⟨b3, 2, none⟩ (.int .i64 x2)).setCell ⟨b3, 3, none⟩ (.int .i64 x3)).setCell ⟨b3, 10, none⟩ (.slice an nn cn)).drew = w2 at *
 generalize mg0.cs.toArray = A3 at *
 go_wp2_with (first | refine wpList_load_row rfl 48 _ rfl b3 rfl 48 AR (0, 0) _ L3.out HU.out rfl HSZR.out ?_ | refine wpList_store_row rfl 48 _ _ rfl (w.heap.size + 1) AR rfl rfl 48 A3 L2.out HSZR.out HSYR.out HALR.out ?_)
 refine bodyPost_ret (v := .agg AR) (results_cell_row Tryz.results81 _ _ (w.heap.size + 1) 48 AR (0, 0) _ rfl (heap_setRow_same L2.out) HU.out rfl HSZR.out) rfl ⟨rfl, below_setRow HB2.out (by omega) _⟩
theorem only_112 (m : Mg) (hk : m.kind = 112) (hok : m.ok) (w : World) : Calls Tryz.prog 81 #[.agg m.cs.toArray] w fun e w' => e = .returned (.agg (onl m).cs.toArray) ∧ Below w.heap.size w w' := by
 have ho : onl m = ({ mg0 with kind := 112, tag := m.tag, fid := m.fid, mode := m.mode } : Mg) := by simp [onl, hk]
 rw [ho]
 clear ho
 have h1 := heap_alloc_new w (mgobj m)
 have h2 := heap_alloc_new (w.alloc (mgobj m)) (mgobj mg0)
 rw [show (w.alloc (mgobj m)).heap.size = w.heap.size + 1 from by simp] at h2
 have HB := lh (bnext (alloc_below w (mgobj m)) (alloc_below _ (mgobj mg0)))
 have H1 := lh ((Lib.alloc_old _ (mgobj mg0) _ (by simp)).trans h1)
 have H2 := lh h2
 clear h1 h2
 have HC0 := lh (fun (W : World) (h : W.heap[w.heap.size]? = some (mgobj m)) => show W.cell? ⟨w.heap.size, 0, none⟩ = some (.int .i64 112) ∧ W.cell? ⟨w.heap.size, 1, none⟩ = some (.int .i64 m.tag) from ⟨by rw [Lib.cell_of_heap h, ← hk]; rfl, by rw [Lib.cell_of_heap h]; rfl⟩)
 have HCS := lh (fun (W : World) (h : W.heap[w.heap.size]? = some (mgobj m)) => show W.cell? ⟨w.heap.size, 2, none⟩ = some (.int .i64 m.fid) ∧ W.cell? ⟨w.heap.size, 16, none⟩ = some (.int .i64 m.mode) from ⟨by rw [Lib.cell_of_heap h]; rfl, by rw [Lib.cell_of_heap h]; rfl⟩)
 have HDS := lh (fun (W : World) (b : Nat) (h : W.heap[b]? = some (mgobj ({ mg0 with kind := 112, tag := m.tag } : Mg))) => show (W.cell? ⟨b, 2, none⟩ = some (.int .i64 0) ∧ W.cell? ⟨b, 16, none⟩ = some (.int .i64 0)) ∧ (W.frozen? ⟨b, 2, none⟩ = false ∧ W.frozen? ⟨b, 16, none⟩ = false) ∧ ((W.setCell ⟨b, 2, none⟩ (.int .i64 m.fid)).setCell ⟨b, 16, none⟩ (.int .i64 m.mode)).heap[b]? = some (mgobj ({ mg0 with kind := 112, tag := m.tag, fid := m.fid, mode := m.mode } : Mg)) from ⟨⟨by rw [Lib.cell_of_heap h]; rfl, by rw [Lib.cell_of_heap h]; rfl⟩, ⟨Lib.frozen_of_heap h _, Lib.frozen_of_heap h _⟩, (mg_set (m := ({ mg0 with kind := 112, tag := m.tag, fid := m.fid } : Mg)) (m' := ({ mg0 with kind := 112, tag := m.tag, fid := m.fid, mode := m.mode } : Mg)) (mg_set (m := ({ mg0 with kind := 112, tag := m.tag } : Mg)) (m' := ({ mg0 with kind := 112, tag := m.tag, fid := m.fid } : Mg)) h 2 (.int .i64 m.fid) rfl) 16 (.int .i64 m.mode) rfl)⟩)
 have HU := lh (Tryz.underlying48)
 have HSZ0 := lh (mg_size ({ mg0 with kind := 112, tag := m.tag } : Mg))
 have HSZR := lh (mg_size ({ mg0 with kind := 112, tag := m.tag, fid := m.fid, mode := m.mode } : Mg))
 have HSZM := lh (mg_size m)
 have HSY0 : RowKit.Hid (mg0.cs.toArray.size = ({ mg0 with kind := 112, tag := m.tag } : Mg).cs.toArray.size) := lh rfl
 have HSYR : RowKit.Hid (mg0.cs.toArray.size = ({ mg0 with kind := 112, tag := m.tag, fid := m.fid, mode := m.mode } : Mg).cs.toArray.size) := lh rfl
 have HAL0 := lh (mg_all ({ mg0 with kind := 112, tag := m.tag } : Mg) ⟨⟨_, _, _, rfl⟩, ⟨_, _, _, rfl⟩⟩)
 have HALR := lh (mg_all ({ mg0 with kind := 112, tag := m.tag, fid := m.fid, mode := m.mode } : Mg) ⟨⟨_, _, _, rfl⟩, ⟨_, _, _, rfl⟩⟩)
 have HBU : RowKit.Hid (Tryz.prog.built 48 [(0, .int .i64 112), (1, .int .i64 m.tag)] = some ({ mg0 with kind := 112, tag := m.tag } : Mg).cs.toArray) := lh (by kernel_rfl)
 unfold mgobj at *
 clear hk hok
 generalize ({ mg0 with kind := 112, tag := m.tag, fid := m.fid, mode := m.mode } : Mg).cs.toArray = AR at *
 generalize ({ mg0 with kind := 112, tag := m.tag } : Mg).cs.toArray = A0 at *
 generalize m.cs.toArray = A1 at *
 generalize m.tag = tg at *
 generalize m.fid = x2 at *
 generalize m.mode = x16 at *
 go_enter Tryz.func81, Tryz.ntmps81
 go_upto_region 1 with fail
 generalize hw1 : World.alloc _ _ = w1
 have HB1 := lh (show Below w.heap.size w w1 from by rw [← hw1]; exact HB.out)
 have K1 := lh (show w1.heap[w.heap.size]? = some (.cells A1 48) from by rw [← hw1]; exact H1.out)
 have K2 := lh (show w1.heap[(w.heap.size + 1)]? = some (.cells mg0.cs.toArray 48) from by rw [← hw1]; exact H2.out)
 clear H1 H2 HB hw1
 obtain ⟨c0, c1⟩ := HC0.out _ K1.out
 have hz1 := heap_alloc_new w1 (mgobj mg0)
 go_upto_region 2 with (first | refine wpList_build_at rfl 48 _ rfl A0 (by simp only [List.map_toArray, List.map_cons, List.map_nil]; exact HBU.out) ?_ | refine wpList_store_row rfl 48 _ _ rfl w1.heap.size A0 rfl rfl 48 mg0.cs.toArray hz1 HSZ0.out HSY0.out HAL0.out ?_)
 generalize hwx : World.setRow _ _ _ = wx
 have bx := (show Below w1.heap.size w1 wx from by rw [← hwx]; exact below_setRow (alloc_below w1 _) (Nat.le_refl _) _)
 have K3 := lh (show wx.heap[w1.heap.size]? = some (.cells A0 48) from by rw [← hwx]; exact heap_setRow_same (heap_alloc_new w1 _))
 clear hz1
 have hlt : w.heap.size < w1.heap.size := row_ltP K1.out
 have hlt2 : w.heap.size + 1 < w1.heap.size := row_ltP K2.out
 have K1 := lh ((bx.block _ (row_ltP K1.out)).trans K1.out)
 have K2 := lh ((bx.block _ (row_ltP K2.out)).trans K2.out)
 have HB1 := lh (bnext HB1.out bx)
 clear bx hwx c0 c1
 generalize w1.heap.size = b3 at *
 obtain ⟨c0, c1⟩ := HC0.out _ K1.out
 go_upto_region 24 with fail
 have J1 := lh (((below_drew1 wx).block _ (row_ltP K1.out)).trans K1.out)
 have J2 := lh K2.out
 obtain ⟨s2, s16⟩ := HCS.out _ K1.out
 obtain ⟨⟨d2, d16⟩, ⟨f2, f16⟩, k3⟩ := HDS.out _ _ K3.out
 have L3 := lh ((below_drew1 _).block _ (row_ltP k3) |>.trans k3)
 clear k3 K1 K2 K3 c0 c1
 refine wp_region_held_drew (S := (fun W' => W'.cell? ⟨w.heap.size, 2, none⟩ = some (.int .i64 x2) ∧ W'.cell? ⟨w.heap.size, 16, none⟩ = some (.int .i64 x16))) (by kernel_rfl) (HCS.out _ J1.out) (fun hHeld => ?_)
 refine tk 0 92 ?_
 refine tk 1 93 ?_
 refine tk 2 94 ?_
 refine tk 3 95 ?_
 refine tk 4 96 ?_
 refine rdy 5 (fun K hK => ?_)
 go_simp
 have bst := ((Below.refl b3 wx).setCell (p := ⟨b3, 2, none⟩) (Nat.le_refl _) (.int .i64 x2)).drew
 refine hK.out _ _ (⟨(bst.cell (p := ⟨w.heap.size, 2, none⟩) hlt).trans s2, (bst.cell (p := ⟨w.heap.size, 16, none⟩) hlt).trans s16⟩) (fun hHeld => ?_)
 clear bst hK K
 try simp only [Act.put, px1, px2, px3]
 refine tk 6 97 ?_
 refine rdy 7 (fun K hK => ?_)
 go_simp
 have bst := (((Below.refl b3 wx).setCell (p := ⟨b3, 2, none⟩) (Nat.le_refl _) (.int .i64 x2)).setCell (p := ⟨b3, 16, none⟩) (Nat.le_refl _) (.int .i64 x16)).drew
 refine hK.out _ _ (⟨(bst.cell (p := ⟨w.heap.size, 2, none⟩) hlt).trans s2, (bst.cell (p := ⟨w.heap.size, 16, none⟩) hlt).trans s16⟩) (fun hHeld => ?_)
 clear bst hK K
 try simp only [Act.put, px1, px2, px3]
 refine wpAnyH_done (by kernel_rfl) ?_ _
 clear hHeld
 have l2 := (Below.heap_setCell (wx.setCell ⟨b3, 2, none⟩ (.int .i64 x2)) ⟨b3, 16, none⟩ (.int .i64 x16) (w.heap.size + 1) (show (w.heap.size + 1) ≠ b3 by omega)).trans ((Below.heap_setCell wx ⟨b3, 2, none⟩ (.int .i64 x2) (w.heap.size + 1) (show (w.heap.size + 1) ≠ b3 by omega)).trans (J2.out))
 have L2 := lh (((below_drew1 _).block _ (row_ltP l2)).trans l2)
 clear l2
 have HB2 := lh ((HB1.out.setCell (p := ⟨b3, 2, none⟩) (show w.heap.size ≤ b3 by omega) (.int .i64 x2)).setCell (p := ⟨b3, 16, none⟩) (show w.heap.size ≤ b3 by omega) (.int .i64 x16)).drew
 clear s2 d2 f2 s16 d16 f16 HCS HDS
 generalize ((wx.setCell ⟨b3, 2, none⟩ (.int .i64 x2)).setCell ⟨b3, 16, none⟩ (.int .i64 x16)).drew = w2 at *
 generalize mg0.cs.toArray = A3 at *
 go_wp2_with (first | refine wpList_load_row rfl 48 _ rfl b3 rfl 48 AR (0, 0) _ L3.out HU.out rfl HSZR.out ?_ | refine wpList_store_row rfl 48 _ _ rfl (w.heap.size + 1) AR rfl rfl 48 A3 L2.out HSZR.out HSYR.out HALR.out ?_)
 refine bodyPost_ret (v := .agg AR) (results_cell_row Tryz.results81 _ _ (w.heap.size + 1) 48 AR (0, 0) _ rfl (heap_setRow_same L2.out) HU.out rfl HSZR.out) rfl ⟨rfl, below_setRow HB2.out (by omega) _⟩
theorem only_114 (m : Mg) (hk : m.kind = 114) (hok : m.ok) (w : World) : Calls Tryz.prog 81 #[.agg m.cs.toArray] w fun e w' => e = .returned (.agg (onl m).cs.toArray) ∧ Below w.heap.size w w' := by
 have ho : onl m = ({ mg0 with kind := 114, tag := m.tag, fid := m.fid, name := m.name, perm := m.perm, mode := m.mode } : Mg) := by simp [onl, hk]
 rw [ho]
 clear ho
 have h1 := heap_alloc_new w (mgobj m)
 have h2 := heap_alloc_new (w.alloc (mgobj m)) (mgobj mg0)
 rw [show (w.alloc (mgobj m)).heap.size = w.heap.size + 1 from by simp] at h2
 have HB := lh (bnext (alloc_below w (mgobj m)) (alloc_below _ (mgobj mg0)))
 have H1 := lh ((Lib.alloc_old _ (mgobj mg0) _ (by simp)).trans h1)
 have H2 := lh h2
 clear h1 h2
 have HC0 := lh (fun (W : World) (h : W.heap[w.heap.size]? = some (mgobj m)) => show W.cell? ⟨w.heap.size, 0, none⟩ = some (.int .i64 114) ∧ W.cell? ⟨w.heap.size, 1, none⟩ = some (.int .i64 m.tag) from ⟨by rw [Lib.cell_of_heap h, ← hk]; rfl, by rw [Lib.cell_of_heap h]; rfl⟩)
 have HCS := lh (fun (W : World) (h : W.heap[w.heap.size]? = some (mgobj m)) => show W.cell? ⟨w.heap.size, 2, none⟩ = some (.int .i64 m.fid) ∧ W.cell? ⟨w.heap.size, 18, none⟩ = some (.string (T m.name)) ∧ W.cell? ⟨w.heap.size, 17, none⟩ = some (.int .i64 m.perm) ∧ W.cell? ⟨w.heap.size, 16, none⟩ = some (.int .i64 m.mode) from ⟨by rw [Lib.cell_of_heap h]; rfl, by rw [Lib.cell_of_heap h]; rfl, by rw [Lib.cell_of_heap h]; rfl, by rw [Lib.cell_of_heap h]; rfl⟩)
 have HDS := lh (fun (W : World) (b : Nat) (h : W.heap[b]? = some (mgobj ({ mg0 with kind := 114, tag := m.tag } : Mg))) => show (W.cell? ⟨b, 2, none⟩ = some (.int .i64 0) ∧ W.cell? ⟨b, 18, none⟩ = some (.string (T [])) ∧ W.cell? ⟨b, 17, none⟩ = some (.int .i64 0) ∧ W.cell? ⟨b, 16, none⟩ = some (.int .i64 0)) ∧ (W.frozen? ⟨b, 2, none⟩ = false ∧ W.frozen? ⟨b, 18, none⟩ = false ∧ W.frozen? ⟨b, 17, none⟩ = false ∧ W.frozen? ⟨b, 16, none⟩ = false) ∧ ((((W.setCell ⟨b, 2, none⟩ (.int .i64 m.fid)).setCell ⟨b, 18, none⟩ (.string (T m.name))).setCell ⟨b, 17, none⟩ (.int .i64 m.perm)).setCell ⟨b, 16, none⟩ (.int .i64 m.mode)).heap[b]? = some (mgobj ({ mg0 with kind := 114, tag := m.tag, fid := m.fid, name := m.name, perm := m.perm, mode := m.mode } : Mg)) from ⟨⟨by rw [Lib.cell_of_heap h]; rfl, by rw [Lib.cell_of_heap h]; rfl, by rw [Lib.cell_of_heap h]; rfl, by rw [Lib.cell_of_heap h]; rfl⟩, ⟨Lib.frozen_of_heap h _, Lib.frozen_of_heap h _, Lib.frozen_of_heap h _, Lib.frozen_of_heap h _⟩, (mg_set (m := ({ mg0 with kind := 114, tag := m.tag, fid := m.fid, name := m.name, perm := m.perm } : Mg)) (m' := ({ mg0 with kind := 114, tag := m.tag, fid := m.fid, name := m.name, perm := m.perm, mode := m.mode } : Mg)) (mg_set (m := ({ mg0 with kind := 114, tag := m.tag, fid := m.fid, name := m.name } : Mg)) (m' := ({ mg0 with kind := 114, tag := m.tag, fid := m.fid, name := m.name, perm := m.perm } : Mg)) (mg_set (m := ({ mg0 with kind := 114, tag := m.tag, fid := m.fid } : Mg)) (m' := ({ mg0 with kind := 114, tag := m.tag, fid := m.fid, name := m.name } : Mg)) (mg_set (m := ({ mg0 with kind := 114, tag := m.tag } : Mg)) (m' := ({ mg0 with kind := 114, tag := m.tag, fid := m.fid } : Mg)) h 2 (.int .i64 m.fid) rfl) 18 (.string (T m.name)) rfl) 17 (.int .i64 m.perm) rfl) 16 (.int .i64 m.mode) rfl)⟩)
 have HU := lh (Tryz.underlying48)
 have HSZ0 := lh (mg_size ({ mg0 with kind := 114, tag := m.tag } : Mg))
 have HSZR := lh (mg_size ({ mg0 with kind := 114, tag := m.tag, fid := m.fid, name := m.name, perm := m.perm, mode := m.mode } : Mg))
 have HSZM := lh (mg_size m)
 have HSY0 : RowKit.Hid (mg0.cs.toArray.size = ({ mg0 with kind := 114, tag := m.tag } : Mg).cs.toArray.size) := lh rfl
 have HSYR : RowKit.Hid (mg0.cs.toArray.size = ({ mg0 with kind := 114, tag := m.tag, fid := m.fid, name := m.name, perm := m.perm, mode := m.mode } : Mg).cs.toArray.size) := lh rfl
 have HAL0 := lh (mg_all ({ mg0 with kind := 114, tag := m.tag } : Mg) ⟨⟨_, _, _, rfl⟩, ⟨_, _, _, rfl⟩⟩)
 have HALR := lh (mg_all ({ mg0 with kind := 114, tag := m.tag, fid := m.fid, name := m.name, perm := m.perm, mode := m.mode } : Mg) ⟨⟨_, _, _, rfl⟩, ⟨_, _, _, rfl⟩⟩)
 have HBU : RowKit.Hid (Tryz.prog.built 48 [(0, .int .i64 114), (1, .int .i64 m.tag)] = some ({ mg0 with kind := 114, tag := m.tag } : Mg).cs.toArray) := lh (by kernel_rfl)
 unfold mgobj at *
 clear hk hok
 generalize ({ mg0 with kind := 114, tag := m.tag, fid := m.fid, name := m.name, perm := m.perm, mode := m.mode } : Mg).cs.toArray = AR at *
 generalize ({ mg0 with kind := 114, tag := m.tag } : Mg).cs.toArray = A0 at *
 generalize m.cs.toArray = A1 at *
 generalize m.tag = tg at *
 generalize m.fid = x2 at *
 generalize m.name = x18 at *
 generalize m.perm = x17 at *
 generalize m.mode = x16 at *
 go_enter Tryz.func81, Tryz.ntmps81
 go_upto_region 1 with fail
 generalize hw1 : World.alloc _ _ = w1
 have HB1 := lh (show Below w.heap.size w w1 from by rw [← hw1]; exact HB.out)
 have K1 := lh (show w1.heap[w.heap.size]? = some (.cells A1 48) from by rw [← hw1]; exact H1.out)
 have K2 := lh (show w1.heap[(w.heap.size + 1)]? = some (.cells mg0.cs.toArray 48) from by rw [← hw1]; exact H2.out)
 clear H1 H2 HB hw1
 obtain ⟨c0, c1⟩ := HC0.out _ K1.out
 have hz1 := heap_alloc_new w1 (mgobj mg0)
 go_upto_region 2 with (first | refine wpList_build_at rfl 48 _ rfl A0 (by simp only [List.map_toArray, List.map_cons, List.map_nil]; exact HBU.out) ?_ | refine wpList_store_row rfl 48 _ _ rfl w1.heap.size A0 rfl rfl 48 mg0.cs.toArray hz1 HSZ0.out HSY0.out HAL0.out ?_)
 generalize hwx : World.setRow _ _ _ = wx
 have bx := (show Below w1.heap.size w1 wx from by rw [← hwx]; exact below_setRow (alloc_below w1 _) (Nat.le_refl _) _)
 have K3 := lh (show wx.heap[w1.heap.size]? = some (.cells A0 48) from by rw [← hwx]; exact heap_setRow_same (heap_alloc_new w1 _))
 clear hz1
 have hlt : w.heap.size < w1.heap.size := row_ltP K1.out
 have hlt2 : w.heap.size + 1 < w1.heap.size := row_ltP K2.out
 have K1 := lh ((bx.block _ (row_ltP K1.out)).trans K1.out)
 have K2 := lh ((bx.block _ (row_ltP K2.out)).trans K2.out)
 have HB1 := lh (bnext HB1.out bx)
 clear bx hwx c0 c1
 generalize w1.heap.size = b3 at *
 obtain ⟨c0, c1⟩ := HC0.out _ K1.out
 go_upto_region 29 with fail
 have J1 := lh (((below_drew1 wx).block _ (row_ltP K1.out)).trans K1.out)
 have J2 := lh K2.out
 obtain ⟨s2, s18, s17, s16⟩ := HCS.out _ K1.out
 obtain ⟨⟨d2, d18, d17, d16⟩, ⟨f2, f18, f17, f16⟩, k3⟩ := HDS.out _ _ K3.out
 have L3 := lh ((below_drew1 _).block _ (row_ltP k3) |>.trans k3)
 clear k3 K1 K2 K3 c0 c1
 refine wp_region_held_drew (S := (fun W' => W'.cell? ⟨w.heap.size, 2, none⟩ = some (.int .i64 x2) ∧ W'.cell? ⟨w.heap.size, 18, none⟩ = some (.string (T x18)) ∧ W'.cell? ⟨w.heap.size, 17, none⟩ = some (.int .i64 x17) ∧ W'.cell? ⟨w.heap.size, 16, none⟩ = some (.int .i64 x16))) (by kernel_rfl) (HCS.out _ J1.out) (fun hHeld => ?_)
 refine tk 0 109 ?_
 refine tk 1 110 ?_
 refine tk 2 111 ?_
 refine tk 3 112 ?_
 refine tk 4 113 ?_
 refine tk 5 114 ?_
 refine tk 6 115 ?_
 refine tk 7 116 ?_
 refine tk 8 117 ?_
 refine rdy 9 (fun K hK => ?_)
 go_simp
 have bst := ((Below.refl b3 wx).setCell (p := ⟨b3, 2, none⟩) (Nat.le_refl _) (.int .i64 x2)).drew
 refine hK.out _ _ (⟨(bst.cell (p := ⟨w.heap.size, 2, none⟩) hlt).trans s2, (bst.cell (p := ⟨w.heap.size, 18, none⟩) hlt).trans s18, (bst.cell (p := ⟨w.heap.size, 17, none⟩) hlt).trans s17, (bst.cell (p := ⟨w.heap.size, 16, none⟩) hlt).trans s16⟩) (fun hHeld => ?_)
 clear bst hK K
 try simp only [Act.put, px1, px2, px3]
 refine tk 10 118 ?_
 refine rdy 11 (fun K hK => ?_)
 go_simp
 have bst := (((Below.refl b3 wx).setCell (p := ⟨b3, 2, none⟩) (Nat.le_refl _) (.int .i64 x2)).setCell (p := ⟨b3, 18, none⟩) (Nat.le_refl _) (.string (T x18))).drew
 refine hK.out _ _ (⟨(bst.cell (p := ⟨w.heap.size, 2, none⟩) hlt).trans s2, (bst.cell (p := ⟨w.heap.size, 18, none⟩) hlt).trans s18, (bst.cell (p := ⟨w.heap.size, 17, none⟩) hlt).trans s17, (bst.cell (p := ⟨w.heap.size, 16, none⟩) hlt).trans s16⟩) (fun hHeld => ?_)
 clear bst hK K
 try simp only [Act.put, px1, px2, px3]
 refine tk 12 119 ?_
 refine rdy 13 (fun K hK => ?_)
 go_simp
 have bst := ((((Below.refl b3 wx).setCell (p := ⟨b3, 2, none⟩) (Nat.le_refl _) (.int .i64 x2)).setCell (p := ⟨b3, 18, none⟩) (Nat.le_refl _) (.string (T x18))).setCell (p := ⟨b3, 17, none⟩) (Nat.le_refl _) (.int .i64 x17)).drew
 refine hK.out _ _ (⟨(bst.cell (p := ⟨w.heap.size, 2, none⟩) hlt).trans s2, (bst.cell (p := ⟨w.heap.size, 18, none⟩) hlt).trans s18, (bst.cell (p := ⟨w.heap.size, 17, none⟩) hlt).trans s17, (bst.cell (p := ⟨w.heap.size, 16, none⟩) hlt).trans s16⟩) (fun hHeld => ?_)
 clear bst hK K
 try simp only [Act.put, px1, px2, px3]
 refine tk 14 120 ?_
 refine rdy 15 (fun K hK => ?_)
 go_simp
 have bst := (((((Below.refl b3 wx).setCell (p := ⟨b3, 2, none⟩) (Nat.le_refl _) (.int .i64 x2)).setCell (p := ⟨b3, 18, none⟩) (Nat.le_refl _) (.string (T x18))).setCell (p := ⟨b3, 17, none⟩) (Nat.le_refl _) (.int .i64 x17)).setCell (p := ⟨b3, 16, none⟩) (Nat.le_refl _) (.int .i64 x16)).drew
 refine hK.out _ _ (⟨(bst.cell (p := ⟨w.heap.size, 2, none⟩) hlt).trans s2, (bst.cell (p := ⟨w.heap.size, 18, none⟩) hlt).trans s18, (bst.cell (p := ⟨w.heap.size, 17, none⟩) hlt).trans s17, (bst.cell (p := ⟨w.heap.size, 16, none⟩) hlt).trans s16⟩) (fun hHeld => ?_)
 clear bst hK K
 try simp only [Act.put, px1, px2, px3]
 refine wpAnyH_done (by kernel_rfl) ?_ _
 clear hHeld
 have l2 := (Below.heap_setCell (((wx.setCell ⟨b3, 2, none⟩ (.int .i64 x2)).setCell ⟨b3, 18, none⟩ (.string (T x18))).setCell ⟨b3, 17, none⟩ (.int .i64 x17)) ⟨b3, 16, none⟩ (.int .i64 x16) (w.heap.size + 1) (show (w.heap.size + 1) ≠ b3 by omega)).trans ((Below.heap_setCell ((wx.setCell ⟨b3, 2, none⟩ (.int .i64 x2)).setCell ⟨b3, 18, none⟩ (.string (T x18))) ⟨b3, 17, none⟩ (.int .i64 x17) (w.heap.size + 1) (show (w.heap.size + 1) ≠ b3 by omega)).trans ((Below.heap_setCell (wx.setCell ⟨b3, 2, none⟩ (.int .i64 x2)) ⟨b3, 18, none⟩ (.string (T x18)) (w.heap.size + 1) (show (w.heap.size + 1) ≠ b3 by omega)).trans ((Below.heap_setCell wx ⟨b3, 2, none⟩ (.int .i64 x2) (w.heap.size + 1) (show (w.heap.size + 1) ≠ b3 by omega)).trans (J2.out))))
 have L2 := lh (((below_drew1 _).block _ (row_ltP l2)).trans l2)
 clear l2
 have HB2 := lh ((((HB1.out.setCell (p := ⟨b3, 2, none⟩) (show w.heap.size ≤ b3 by omega) (.int .i64 x2)).setCell (p := ⟨b3, 18, none⟩) (show w.heap.size ≤ b3 by omega) (.string (T x18))).setCell (p := ⟨b3, 17, none⟩) (show w.heap.size ≤ b3 by omega) (.int .i64 x17)).setCell (p := ⟨b3, 16, none⟩) (show w.heap.size ≤ b3 by omega) (.int .i64 x16)).drew
 clear s2 d2 f2 s18 d18 f18 s17 d17 f17 s16 d16 f16 HCS HDS
 generalize ((((wx.setCell ⟨b3, 2, none⟩ (.int .i64 x2)).setCell ⟨b3, 18, none⟩ (.string (T x18))).setCell ⟨b3, 17, none⟩ (.int .i64 x17)).setCell ⟨b3, 16, none⟩ (.int .i64 x16)).drew = w2 at *
 generalize mg0.cs.toArray = A3 at *
 go_wp2_with (first | refine wpList_load_row rfl 48 _ rfl b3 rfl 48 AR (0, 0) _ L3.out HU.out rfl HSZR.out ?_ | refine wpList_store_row rfl 48 _ _ rfl (w.heap.size + 1) AR rfl rfl 48 A3 L2.out HSZR.out HSYR.out HALR.out ?_)
 refine bodyPost_ret (v := .agg AR) (results_cell_row Tryz.results81 _ _ (w.heap.size + 1) 48 AR (0, 0) _ rfl (heap_setRow_same L2.out) HU.out rfl HSZR.out) rfl ⟨rfl, below_setRow HB2.out (by omega) _⟩
end Go.Proofs.YtfibaopngpfmjaaGreatDoor
