/- msg.fields, second part. Conditions: those that each theorem names. -/
import Derived.Test.YtfibaopngpfmjaaGreatDoorRzG2
import Derived.Test.YtfibaopngpfmjaaGreatDoorRzC1
import Derived.Test.YtfibaopngpfmjaaGreatDoorRzA1
import Derived.Deep.MidRow
set_option linter.unusedVariables false
set_option linter.unusedSimpArgs false
set_option maxRecDepth 100000
set_option maxHeartbeats 8000000
namespace Go.Proofs.YtfibaopngpfmjaaGreatDoor
open Go.RowKit Go.Proofs
theorem fields_112 (m : Mg) (ns : List (List UInt8)) (qs : List (Int × Int × Int)) (w : World) (hk : m.kind = 112) (hm : MgIn w m ns qs) : Calls Tryz.prog 82 #[.agg m.cs.toArray] w (RetI (fun e => e = 0 ↔ Flds m ns) w) := by
 have HB := lh (alloc_below w (mgobj m))
 have H1 := lh (heap_alloc_new w (mgobj m))
 have HC0 := lh (fun (W : World) (h : W.heap[w.heap.size]? = some (mgobj m)) => show W.cell? ⟨w.heap.size, 0, none⟩ = some (.int .i64 112) from by rw [Lib.cell_of_heap h, ← hk]; rfl)
 have HC := lh (fun (W : World) (h : W.heap[w.heap.size]? = some (mgobj m)) => show W.cell? ⟨w.heap.size, 2, none⟩ = some (.int .i64 m.fid) ∧ W.cell? ⟨w.heap.size, 16, none⟩ = some (.int .i64 m.mode) from ⟨by rw [Lib.cell_of_heap h]; rfl, by rw [Lib.cell_of_heap h]; rfl⟩)
 have HQ := lh (show Flds m ns ↔ (0 ≤ m.fid ∧ m.fid ≤ 4294967294) ∧ (0 ≤ m.mode ∧ m.mode ≤ 255) from by simp [Flds, hk])
 have HI := lh (fun n lo hi W => in_any n lo hi W)
 have HFI := lh (fun n W => fidx_any n W)
 have HF2 := lh (fun a b W => first2 a b W)
 have HD2 := lh (fun a b W => firstD2 a b W)
 unfold mgobj at *
 clear hm hk
 generalize m.cs = cs at *
 generalize Flds m ns = Q at *
 generalize m.fid = x2 at *
 generalize m.mode = x16 at *
 go_enter Tryz.func82, Tryz.ntmps82
 go_upto_region 1 with fail
 generalize World.alloc _ _ = w1 at *
 have c0 := HC0.out _ H1.out
 go_upto_region 23 with fail
 have H4 := lh (((below_drew1 w1).block _ (row_ltP H1.out)).trans H1.out)
 have HB4 := lh (bnext HB.out (below_drew1 w1))
 clear c0
 refine wp_region_held_drew (S := (fun W' => W'.cell? ⟨w.heap.size, 2, none⟩ = some (.int .i64 x2) ∧ W'.cell? ⟨w.heap.size, 16, none⟩ = some (.int .i64 x16))) (by kernel_rfl) (HC.out _ H4.out) (fun hHeld => ?_)
 refine tk 0 91 ?_
 refine tk 1 92 ?_
 refine tk 3 94 ?_
 refine tk 4 95 ?_
 refine rdy 2 (fun K hK => ?_)
 go_simp
 go_wp2_with (go_at_call 140; (with_reducible refine (HFI.out _ _).mono ?_); rintro e wx ⟨k1, rfl, hk, rfl⟩)
 have HK1 := lh hk
 clear hk
 refine hK.out _ _ hHeld (fun hHeld => ?_)
 clear hK K
 try simp only [Act.put, px1, px2, px3]
 refine rdy 5 (fun K hK => ?_)
 go_simp
 go_wp2_with (go_at_call 138; (with_reducible refine (HI.out _ _ _ _).mono ?_); rintro e wx ⟨k2, rfl, hk, rfl⟩)
 have HK2 := lh hk
 clear hk
 refine hK.out _ _ hHeld (fun hHeld => ?_)
 clear hK K
 try simp only [Act.put, px1, px2, px3]
 refine rdy 6 (fun K hK => ?_)
 go_simp
 refine hK.out _ _ (HC.out _ ((Lib.alloc_old _ _ _ (row_ltP H4.out)).trans H4.out)) (fun hHeld => ?_)
 clear hK K
 try simp only [Act.put, px1, px2, px3]
 refine rdy 7 (fun K hK => ?_)
 go_simp
 go_wp2_with (go_at_call 137; (with_reducible refine (HD2.out _ _ _).mono ?_); rintro e wx ⟨k, rfl, hk, rfl⟩)
 have HK := lh hk
 clear hk
 refine hK.out _ _ hHeld (fun hHeld => ?_)
 clear hK K
 try simp only [Act.put, px1, px2, px3]
 refine tk 8 2 ?_
 refine wpAnyH_done (by kernel_rfl) ?_ _
 clear hHeld
 go_wp2_with fail
 go_ret
 exact ⟨_, rfl, HK.out.trans ((and_congr HK1.out HK2.out).trans HQ.out.symm), bnext HB.out (bnext (alloc_below _ _) (below_drew1 _))⟩
theorem fields_114 (m : Mg) (ns : List (List UInt8)) (qs : List (Int × Int × Int)) (w : World) (hk : m.kind = 114) (hm : MgIn w m ns qs) : Calls Tryz.prog 82 #[.agg m.cs.toArray] w (RetI (fun e => e = 0 ↔ Flds m ns) w) := by
 have HB := lh (alloc_below w (mgobj m))
 have H1 := lh (heap_alloc_new w (mgobj m))
 have HC0 := lh (fun (W : World) (h : W.heap[w.heap.size]? = some (mgobj m)) => show W.cell? ⟨w.heap.size, 0, none⟩ = some (.int .i64 114) from by rw [Lib.cell_of_heap h, ← hk]; rfl)
 have HC := lh (fun (W : World) (h : W.heap[w.heap.size]? = some (mgobj m)) => show W.cell? ⟨w.heap.size, 2, none⟩ = some (.int .i64 m.fid) ∧ W.cell? ⟨w.heap.size, 18, none⟩ = some (.string (T m.name)) ∧ W.cell? ⟨w.heap.size, 17, none⟩ = some (.int .i64 m.perm) ∧ W.cell? ⟨w.heap.size, 16, none⟩ = some (.int .i64 m.mode) from ⟨by rw [Lib.cell_of_heap h]; rfl, by rw [Lib.cell_of_heap h]; rfl, by rw [Lib.cell_of_heap h]; rfl, by rw [Lib.cell_of_heap h]; rfl⟩)
 have HQ := lh (show Flds m ns ↔ (0 ≤ m.fid ∧ m.fid ≤ 4294967294) ∧ NameOk m.name ∧ (0 ≤ m.perm ∧ m.perm ≤ 4294967295) ∧ (0 ≤ m.mode ∧ m.mode ≤ 255) from by simp [Flds, hk])
 have HI := lh (fun n lo hi W => in_any n lo hi W)
 have HFI := lh (fun n W => fidx_any n W)
 have HF4 := lh (fun a b c d W => first4 a b c d W)
 have HD4 := lh (fun a b c d W => firstD4 a b c d W)
 have HNM := lh (fun W => named_any m.name W hm.2.2.2.2.2.1)
 unfold mgobj at *
 clear hm hk
 generalize m.cs = cs at *
 generalize Flds m ns = Q at *
 generalize NameOk m.name = QN at *
 generalize m.fid = x2 at *
 generalize m.name = x18 at *
 generalize m.perm = x17 at *
 generalize m.mode = x16 at *
 go_enter Tryz.func82, Tryz.ntmps82
 go_upto_region 1 with fail
 generalize World.alloc _ _ = w1 at *
 have c0 := HC0.out _ H1.out
 go_upto_region 25 with fail
 have H4 := lh (((below_drew1 w1).block _ (row_ltP H1.out)).trans H1.out)
 have HB4 := lh (bnext HB.out (below_drew1 w1))
 clear c0
 refine wp_region_held_drew (S := (fun W' => W'.cell? ⟨w.heap.size, 2, none⟩ = some (.int .i64 x2) ∧ W'.cell? ⟨w.heap.size, 18, none⟩ = some (.string (T x18)) ∧ W'.cell? ⟨w.heap.size, 17, none⟩ = some (.int .i64 x17) ∧ W'.cell? ⟨w.heap.size, 16, none⟩ = some (.int .i64 x16))) (by kernel_rfl) (HC.out _ H4.out) (fun hHeld => ?_)
 refine tk 0 101 ?_
 refine tk 1 102 ?_
 refine tk 3 104 ?_
 refine tk 4 105 ?_
 refine tk 6 107 ?_
 refine tk 7 108 ?_
 refine tk 9 110 ?_
 refine tk 10 111 ?_
 refine rdy 2 (fun K hK => ?_)
 go_simp
 go_wp2_with (go_at_call 140; (with_reducible refine (HFI.out _ _).mono ?_); rintro e wx ⟨k1, rfl, hk, rfl⟩)
 have HK1 := lh hk
 clear hk
 refine hK.out _ _ hHeld (fun hHeld => ?_)
 clear hK K
 try simp only [Act.put, px1, px2, px3]
 refine rdy 5 (fun K hK => ?_)
 go_simp
 go_wp2_with (go_at_call 144; (with_reducible refine (HNM.out _).mono ?_); rintro e wx ⟨k2, rfl, hk, rfl⟩)
 have HK2 := lh hk
 clear hk
 refine hK.out _ _ hHeld (fun hHeld => ?_)
 clear hK K
 try simp only [Act.put, px1, px2, px3]
 refine rdy 8 (fun K hK => ?_)
 go_simp
 go_wp2_with (go_at_call 138; (with_reducible refine (HI.out _ _ _ _).mono ?_); rintro e wx ⟨k3, rfl, hk, rfl⟩)
 have HK3 := lh hk
 clear hk
 refine hK.out _ _ hHeld (fun hHeld => ?_)
 clear hK K
 try simp only [Act.put, px1, px2, px3]
 refine rdy 11 (fun K hK => ?_)
 go_simp
 go_wp2_with (go_at_call 138; (with_reducible refine (HI.out _ _ _ _).mono ?_); rintro e wx ⟨k4, rfl, hk, rfl⟩)
 have HK4 := lh hk
 clear hk
 refine hK.out _ _ hHeld (fun hHeld => ?_)
 clear hK K
 try simp only [Act.put, px1, px2, px3]
 refine rdy 12 (fun K hK => ?_)
 go_simp
 refine hK.out _ _ (HC.out _ ((Lib.alloc_old _ _ _ (row_ltP H4.out)).trans H4.out)) (fun hHeld => ?_)
 clear hK K
 try simp only [Act.put, px1, px2, px3]
 refine rdy 13 (fun K hK => ?_)
 go_simp
 go_wp2_with (go_at_call 137; (with_reducible refine (HD4.out _ _ _ _ _).mono ?_); rintro e wx ⟨k, rfl, hk, rfl⟩)
 have HK := lh hk
 clear hk
 refine hK.out _ _ hHeld (fun hHeld => ?_)
 clear hK K
 try simp only [Act.put, px1, px2, px3]
 refine tk 14 2 ?_
 refine wpAnyH_done (by kernel_rfl) ?_ _
 clear hHeld
 go_wp2_with fail
 go_ret
 exact ⟨_, rfl, HK.out.trans ((and_congr HK1.out (and_congr HK2.out (and_congr HK3.out HK4.out))).trans HQ.out.symm), bnext HB.out (bnext (alloc_below _ _) (below_drew1 _))⟩
theorem fields_116 (m : Mg) (ns : List (List UInt8)) (qs : List (Int × Int × Int)) (w : World) (hk : m.kind = 116) (hm : MgIn w m ns qs) : Calls Tryz.prog 82 #[.agg m.cs.toArray] w (RetI (fun e => e = 0 ↔ Flds m ns) w) := by
 have HB := lh (alloc_below w (mgobj m))
 have H1 := lh (heap_alloc_new w (mgobj m))
 have HC0 := lh (fun (W : World) (h : W.heap[w.heap.size]? = some (mgobj m)) => show W.cell? ⟨w.heap.size, 0, none⟩ = some (.int .i64 116) from by rw [Lib.cell_of_heap h, ← hk]; rfl)
 have HC := lh (fun (W : World) (h : W.heap[w.heap.size]? = some (mgobj m)) => show W.cell? ⟨w.heap.size, 2, none⟩ = some (.int .i64 m.fid) ∧ W.cell? ⟨w.heap.size, 19, none⟩ = some (.int .i64 m.offset) ∧ W.cell? ⟨w.heap.size, 20, none⟩ = some (.int .i64 m.count) ∧ W.cell? ⟨w.heap.size, 21, none⟩ = some (.string (T m.data)) from ⟨by rw [Lib.cell_of_heap h]; rfl, by rw [Lib.cell_of_heap h]; rfl, by rw [Lib.cell_of_heap h]; rfl, by rw [Lib.cell_of_heap h]; rfl⟩)
 have HQ := lh (show Flds m ns ↔ (0 ≤ m.fid ∧ m.fid ≤ 4294967294) ∧ (0 ≤ m.offset ∧ m.offset ≤ 9007199254740991) ∧ (0 ≤ m.count ∧ m.count ≤ 8192) ∧ m.data.length ≤ 8168 from by simp [Flds, hk])
 have HI := lh (fun n lo hi W => in_any n lo hi W)
 have HFI := lh (fun n W => fidx_any n W)
 have HS8168 := lh (fun s W => short_nat s 8168 8168 rfl W)
 have HF4 := lh (fun a b c d W => first4 a b c d W)
 have HD4 := lh (fun a b c d W => firstD4 a b c d W)
 unfold mgobj at *
 clear hm hk
 generalize m.cs = cs at *
 generalize Flds m ns = Q at *
 generalize m.fid = x2 at *
 generalize m.offset = x19 at *
 generalize m.count = x20 at *
 generalize m.data = x21 at *
 go_enter Tryz.func82, Tryz.ntmps82
 go_upto_region 1 with fail
 generalize World.alloc _ _ = w1 at *
 have c0 := HC0.out _ H1.out
 go_upto_region 30 with fail
 have H4 := lh (((below_drew1 w1).block _ (row_ltP H1.out)).trans H1.out)
 have HB4 := lh (bnext HB.out (below_drew1 w1))
 clear c0
 refine wp_region_held_drew (S := (fun W' => W'.cell? ⟨w.heap.size, 2, none⟩ = some (.int .i64 x2) ∧ W'.cell? ⟨w.heap.size, 19, none⟩ = some (.int .i64 x19) ∧ W'.cell? ⟨w.heap.size, 20, none⟩ = some (.int .i64 x20) ∧ W'.cell? ⟨w.heap.size, 21, none⟩ = some (.string (T x21)))) (by kernel_rfl) (HC.out _ H4.out) (fun hHeld => ?_)
 refine tk 0 120 ?_
 refine tk 1 121 ?_
 refine tk 3 123 ?_
 refine tk 4 124 ?_
 refine tk 6 126 ?_
 refine tk 7 127 ?_
 refine tk 9 129 ?_
 refine tk 10 130 ?_
 refine rdy 2 (fun K hK => ?_)
 go_simp
 go_wp2_with (go_at_call 140; (with_reducible refine (HFI.out _ _).mono ?_); rintro e wx ⟨k1, rfl, hk, rfl⟩)
 have HK1 := lh hk
 clear hk
 refine hK.out _ _ hHeld (fun hHeld => ?_)
 clear hK K
 try simp only [Act.put, px1, px2, px3]
 refine rdy 5 (fun K hK => ?_)
 go_simp
 go_wp2_with (go_at_call 138; (with_reducible refine (HI.out _ _ _ _).mono ?_); rintro e wx ⟨k2, rfl, hk, rfl⟩)
 have HK2 := lh hk
 clear hk
 refine hK.out _ _ hHeld (fun hHeld => ?_)
 clear hK K
 try simp only [Act.put, px1, px2, px3]
 refine rdy 8 (fun K hK => ?_)
 go_simp
 go_wp2_with (go_at_call 138; (with_reducible refine (HI.out _ _ _ _).mono ?_); rintro e wx ⟨k3, rfl, hk, rfl⟩)
 have HK3 := lh hk
 clear hk
 refine hK.out _ _ hHeld (fun hHeld => ?_)
 clear hK K
 try simp only [Act.put, px1, px2, px3]
 refine rdy 11 (fun K hK => ?_)
 go_simp
 go_wp2_with (go_at_call 139; (with_reducible refine (HS8168.out _ _).mono ?_); rintro e wx ⟨k4, rfl, hk, rfl⟩)
 have HK4 := lh hk
 clear hk
 refine hK.out _ _ hHeld (fun hHeld => ?_)
 clear hK K
 try simp only [Act.put, px1, px2, px3]
 refine rdy 12 (fun K hK => ?_)
 go_simp
 refine hK.out _ _ (HC.out _ ((Lib.alloc_old _ _ _ (row_ltP H4.out)).trans H4.out)) (fun hHeld => ?_)
 clear hK K
 try simp only [Act.put, px1, px2, px3]
 refine rdy 13 (fun K hK => ?_)
 go_simp
 go_wp2_with (go_at_call 137; (with_reducible refine (HD4.out _ _ _ _ _).mono ?_); rintro e wx ⟨k, rfl, hk, rfl⟩)
 have HK := lh hk
 clear hk
 refine hK.out _ _ hHeld (fun hHeld => ?_)
 clear hK K
 try simp only [Act.put, px1, px2, px3]
 refine tk 14 2 ?_
 refine wpAnyH_done (by kernel_rfl) ?_ _
 clear hHeld
 go_wp2_with fail
 go_ret
 exact ⟨_, rfl, HK.out.trans ((and_congr HK1.out (and_congr HK2.out (and_congr HK3.out HK4.out))).trans HQ.out.symm), bnext HB.out (bnext (alloc_below _ _) (below_drew1 _))⟩
theorem fields_118 (m : Mg) (ns : List (List UInt8)) (qs : List (Int × Int × Int)) (w : World) (hk : m.kind = 118) (hm : MgIn w m ns qs) : Calls Tryz.prog 82 #[.agg m.cs.toArray] w (RetI (fun e => e = 0 ↔ Flds m ns) w) := by
 have HB := lh (alloc_below w (mgobj m))
 have H1 := lh (heap_alloc_new w (mgobj m))
 have HC0 := lh (fun (W : World) (h : W.heap[w.heap.size]? = some (mgobj m)) => show W.cell? ⟨w.heap.size, 0, none⟩ = some (.int .i64 118) from by rw [Lib.cell_of_heap h, ← hk]; rfl)
 have HC := lh (fun (W : World) (h : W.heap[w.heap.size]? = some (mgobj m)) => show W.cell? ⟨w.heap.size, 2, none⟩ = some (.int .i64 m.fid) ∧ W.cell? ⟨w.heap.size, 19, none⟩ = some (.int .i64 m.offset) ∧ W.cell? ⟨w.heap.size, 20, none⟩ = some (.int .i64 m.count) ∧ W.cell? ⟨w.heap.size, 21, none⟩ = some (.string (T m.data)) from ⟨by rw [Lib.cell_of_heap h]; rfl, by rw [Lib.cell_of_heap h]; rfl, by rw [Lib.cell_of_heap h]; rfl, by rw [Lib.cell_of_heap h]; rfl⟩)
 have HQ := lh (show Flds m ns ↔ (0 ≤ m.fid ∧ m.fid ≤ 4294967294) ∧ (0 ≤ m.offset ∧ m.offset ≤ 9007199254740991) ∧ (0 ≤ m.count ∧ m.count ≤ 8192) ∧ m.data.length ≤ 8168 from by simp [Flds, hk])
 have HI := lh (fun n lo hi W => in_any n lo hi W)
 have HFI := lh (fun n W => fidx_any n W)
 have HS8168 := lh (fun s W => short_nat s 8168 8168 rfl W)
 have HF4 := lh (fun a b c d W => first4 a b c d W)
 have HD4 := lh (fun a b c d W => firstD4 a b c d W)
 unfold mgobj at *
 clear hm hk
 generalize m.cs = cs at *
 generalize Flds m ns = Q at *
 generalize m.fid = x2 at *
 generalize m.offset = x19 at *
 generalize m.count = x20 at *
 generalize m.data = x21 at *
 go_enter Tryz.func82, Tryz.ntmps82
 go_upto_region 1 with fail
 generalize World.alloc _ _ = w1 at *
 have c0 := HC0.out _ H1.out
 go_upto_region 30 with fail
 have H4 := lh (((below_drew1 w1).block _ (row_ltP H1.out)).trans H1.out)
 have HB4 := lh (bnext HB.out (below_drew1 w1))
 clear c0
 refine wp_region_held_drew (S := (fun W' => W'.cell? ⟨w.heap.size, 2, none⟩ = some (.int .i64 x2) ∧ W'.cell? ⟨w.heap.size, 19, none⟩ = some (.int .i64 x19) ∧ W'.cell? ⟨w.heap.size, 20, none⟩ = some (.int .i64 x20) ∧ W'.cell? ⟨w.heap.size, 21, none⟩ = some (.string (T x21)))) (by kernel_rfl) (HC.out _ H4.out) (fun hHeld => ?_)
 refine tk 0 120 ?_
 refine tk 1 121 ?_
 refine tk 3 123 ?_
 refine tk 4 124 ?_
 refine tk 6 126 ?_
 refine tk 7 127 ?_
 refine tk 9 129 ?_
 refine tk 10 130 ?_
 refine rdy 2 (fun K hK => ?_)
 go_simp
 go_wp2_with (go_at_call 140; (with_reducible refine (HFI.out _ _).mono ?_); rintro e wx ⟨k1, rfl, hk, rfl⟩)
 have HK1 := lh hk
 clear hk
 refine hK.out _ _ hHeld (fun hHeld => ?_)
 clear hK K
 try simp only [Act.put, px1, px2, px3]
 refine rdy 5 (fun K hK => ?_)
 go_simp
 go_wp2_with (go_at_call 138; (with_reducible refine (HI.out _ _ _ _).mono ?_); rintro e wx ⟨k2, rfl, hk, rfl⟩)
 have HK2 := lh hk
 clear hk
 refine hK.out _ _ hHeld (fun hHeld => ?_)
 clear hK K
 try simp only [Act.put, px1, px2, px3]
 refine rdy 8 (fun K hK => ?_)
 go_simp
 go_wp2_with (go_at_call 138; (with_reducible refine (HI.out _ _ _ _).mono ?_); rintro e wx ⟨k3, rfl, hk, rfl⟩)
 have HK3 := lh hk
 clear hk
 refine hK.out _ _ hHeld (fun hHeld => ?_)
 clear hK K
 try simp only [Act.put, px1, px2, px3]
 refine rdy 11 (fun K hK => ?_)
 go_simp
 go_wp2_with (go_at_call 139; (with_reducible refine (HS8168.out _ _).mono ?_); rintro e wx ⟨k4, rfl, hk, rfl⟩)
 have HK4 := lh hk
 clear hk
 refine hK.out _ _ hHeld (fun hHeld => ?_)
 clear hK K
 try simp only [Act.put, px1, px2, px3]
 refine rdy 12 (fun K hK => ?_)
 go_simp
 refine hK.out _ _ (HC.out _ ((Lib.alloc_old _ _ _ (row_ltP H4.out)).trans H4.out)) (fun hHeld => ?_)
 clear hK K
 try simp only [Act.put, px1, px2, px3]
 refine rdy 13 (fun K hK => ?_)
 go_simp
 go_wp2_with (go_at_call 137; (with_reducible refine (HD4.out _ _ _ _ _).mono ?_); rintro e wx ⟨k, rfl, hk, rfl⟩)
 have HK := lh hk
 clear hk
 refine hK.out _ _ hHeld (fun hHeld => ?_)
 clear hK K
 try simp only [Act.put, px1, px2, px3]
 refine tk 14 2 ?_
 refine wpAnyH_done (by kernel_rfl) ?_ _
 clear hHeld
 go_wp2_with fail
 go_ret
 exact ⟨_, rfl, HK.out.trans ((and_congr HK1.out (and_congr HK2.out (and_congr HK3.out HK4.out))).trans HQ.out.symm), bnext HB.out (bnext (alloc_below _ _) (below_drew1 _))⟩
end Go.Proofs.YtfibaopngpfmjaaGreatDoor
