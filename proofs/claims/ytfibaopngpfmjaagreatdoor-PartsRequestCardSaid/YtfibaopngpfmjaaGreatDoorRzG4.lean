/- msg.fields, the rest. Conditions: those that each theorem names. -/
import Derived.Test.YtfibaopngpfmjaaGreatDoorRzG2
import Derived.Test.YtfibaopngpfmjaaGreatDoorRzC1
import Derived.Test.YtfibaopngpfmjaaGreatDoorRzA1
import Derived.Deep.MidRow
import Derived.Test.YtfibaopngpfmjaaGreatDoorRzG3
set_option linter.unusedVariables false
set_option linter.unusedSimpArgs false
set_option maxRecDepth 100000
set_option maxHeartbeats 8000000
namespace Go.Proofs.YtfibaopngpfmjaaGreatDoor
open Go.RowKit Go.Proofs
theorem fields_120 (m : Mg) (ns : List (List UInt8)) (qs : List (Int × Int × Int)) (w : World) (hk : m.kind = 120) (hm : MgIn w m ns qs) : Calls Tryz.prog 82 #[.agg m.cs.toArray] w (RetI (fun e => e = 0 ↔ Flds m ns) w) := by
 have HB := lh (alloc_below w (mgobj m))
 have H1 := lh (heap_alloc_new w (mgobj m))
 have HC0 := lh (fun (W : World) (h : W.heap[w.heap.size]? = some (mgobj m)) => show W.cell? ⟨w.heap.size, 0, none⟩ = some (.int .i64 120) from by rw [Lib.cell_of_heap h, ← hk]; rfl)
 have HC := lh (fun (W : World) (h : W.heap[w.heap.size]? = some (mgobj m)) => show W.cell? ⟨w.heap.size, 2, none⟩ = some (.int .i64 m.fid) from by rw [Lib.cell_of_heap h]; rfl)
 have HQ := lh (show Flds m ns ↔ (0 ≤ m.fid ∧ m.fid ≤ 4294967294) from by simp [Flds, hk])
 have HI := lh (fun n lo hi W => in_any n lo hi W)
 have HFI := lh (fun n W => fidx_any n W)
 unfold mgobj at *
 clear hm hk
 generalize m.cs = cs at *
 generalize Flds m ns = Q at *
 generalize m.fid = x2 at *
 go_enter Tryz.func82, Tryz.ntmps82
 go_upto_region 1 with fail
 generalize World.alloc _ _ = w1 at *
 have c0 := HC0.out _ H1.out
 have c1 := HC.out _ H1.out
 go_wp2_with fail
 (with_reducible refine (HFI.out _ _).mono ?_); rintro e wx ⟨k, rfl, hk, rfl⟩
 have HK := lh hk
 clear hk
 go_wp2_with fail
 go_ret
 exact ⟨_, rfl, HK.out.trans HQ.out.symm, HB.out⟩
theorem fields_122 (m : Mg) (ns : List (List UInt8)) (qs : List (Int × Int × Int)) (w : World) (hk : m.kind = 122) (hm : MgIn w m ns qs) : Calls Tryz.prog 82 #[.agg m.cs.toArray] w (RetI (fun e => e = 0 ↔ Flds m ns) w) := by
 have HB := lh (alloc_below w (mgobj m))
 have H1 := lh (heap_alloc_new w (mgobj m))
 have HC0 := lh (fun (W : World) (h : W.heap[w.heap.size]? = some (mgobj m)) => show W.cell? ⟨w.heap.size, 0, none⟩ = some (.int .i64 122) from by rw [Lib.cell_of_heap h, ← hk]; rfl)
 have HC := lh (fun (W : World) (h : W.heap[w.heap.size]? = some (mgobj m)) => show W.cell? ⟨w.heap.size, 2, none⟩ = some (.int .i64 m.fid) from by rw [Lib.cell_of_heap h]; rfl)
 have HQ := lh (show Flds m ns ↔ (0 ≤ m.fid ∧ m.fid ≤ 4294967294) from by simp [Flds, hk])
 have HI := lh (fun n lo hi W => in_any n lo hi W)
 have HFI := lh (fun n W => fidx_any n W)
 unfold mgobj at *
 clear hm hk
 generalize m.cs = cs at *
 generalize Flds m ns = Q at *
 generalize m.fid = x2 at *
 go_enter Tryz.func82, Tryz.ntmps82
 go_upto_region 1 with fail
 generalize World.alloc _ _ = w1 at *
 have c0 := HC0.out _ H1.out
 have c1 := HC.out _ H1.out
 go_wp2_with fail
 (with_reducible refine (HFI.out _ _).mono ?_); rintro e wx ⟨k, rfl, hk, rfl⟩
 have HK := lh hk
 clear hk
 go_wp2_with fail
 go_ret
 exact ⟨_, rfl, HK.out.trans HQ.out.symm, HB.out⟩
theorem fields_124 (m : Mg) (ns : List (List UInt8)) (qs : List (Int × Int × Int)) (w : World) (hk : m.kind = 124) (hm : MgIn w m ns qs) : Calls Tryz.prog 82 #[.agg m.cs.toArray] w (RetI (fun e => e = 0 ↔ Flds m ns) w) := by
 have HB := lh (alloc_below w (mgobj m))
 have H1 := lh (heap_alloc_new w (mgobj m))
 have HC0 := lh (fun (W : World) (h : W.heap[w.heap.size]? = some (mgobj m)) => show W.cell? ⟨w.heap.size, 0, none⟩ = some (.int .i64 124) from by rw [Lib.cell_of_heap h, ← hk]; rfl)
 have HC := lh (fun (W : World) (h : W.heap[w.heap.size]? = some (mgobj m)) => show W.cell? ⟨w.heap.size, 2, none⟩ = some (.int .i64 m.fid) from by rw [Lib.cell_of_heap h]; rfl)
 have HQ := lh (show Flds m ns ↔ (0 ≤ m.fid ∧ m.fid ≤ 4294967294) from by simp [Flds, hk])
 have HI := lh (fun n lo hi W => in_any n lo hi W)
 have HFI := lh (fun n W => fidx_any n W)
 unfold mgobj at *
 clear hm hk
 generalize m.cs = cs at *
 generalize Flds m ns = Q at *
 generalize m.fid = x2 at *
 go_enter Tryz.func82, Tryz.ntmps82
 go_upto_region 1 with fail
 generalize World.alloc _ _ = w1 at *
 have c0 := HC0.out _ H1.out
 have c1 := HC.out _ H1.out
 go_wp2_with fail
 (with_reducible refine (HFI.out _ _).mono ?_); rintro e wx ⟨k, rfl, hk, rfl⟩
 have HK := lh hk
 clear hk
 go_wp2_with fail
 go_ret
 exact ⟨_, rfl, HK.out.trans HQ.out.symm, HB.out⟩
theorem fields_126 (m : Mg) (ns : List (List UInt8)) (qs : List (Int × Int × Int)) (w : World) (hk : m.kind = 126) (hm : MgIn w m ns qs) : Calls Tryz.prog 82 #[.agg m.cs.toArray] w (RetI (fun e => e = 0 ↔ Flds m ns) w) := by
 have HB := lh (alloc_below w (mgobj m))
 have H1 := lh (heap_alloc_new w (mgobj m))
 have HC0 := lh (fun (W : World) (h : W.heap[w.heap.size]? = some (mgobj m)) => show W.cell? ⟨w.heap.size, 0, none⟩ = some (.int .i64 126) from by rw [Lib.cell_of_heap h, ← hk]; rfl)
 have HC := lh (fun (W : World) (h : W.heap[w.heap.size]? = some (mgobj m)) => show W.rangeAt w.heap.size 22 m.ds ∧ W.cell? ⟨w.heap.size, 2, none⟩ = some (.int .i64 m.fid) from ⟨rng_ds h, by rw [Lib.cell_of_heap h]; rfl⟩)
 have HQ := lh (show Flds m ns ↔ (0 ≤ m.fid ∧ m.fid ≤ 4294967294) ∧ DirOk m from by simp [Flds, hk])
 have HI := lh (fun n lo hi W => in_any n lo hi W)
 have HFI := lh (fun n W => fidx_any n W)
 have HF2 := lh (fun a b W => first2 a b W)
 have HD2 := lh (fun a b W => firstD2 a b W)
 have HDC := lh (fun W => dcheck_any m hm.2.2.2.2.2.2 W)
 have HU := lh (And.intro (Tryz.underlying46) (show (Tryz.prog.info? 46).map (·.size) = some m.ds.length from by show _ = some 13; kernel_rfl))
 unfold mgobj at *
 clear hm hk
 generalize m.cs = cs at *
 generalize Flds m ns = Q at *
 generalize m.ds = ds at *
 generalize DirOk m = QD at *
 generalize m.fid = x2 at *
 go_enter Tryz.func82, Tryz.ntmps82
 go_upto_region 1 with fail
 generalize World.alloc _ _ = w1 at *
 have c0 := HC0.out _ H1.out
 go_upto_region 33 with fail
 have H4 := lh (((below_drew1 w1).block _ (row_ltP H1.out)).trans H1.out)
 have HB4 := lh (bnext HB.out (below_drew1 w1))
 clear c0
 refine wp_region_held_drew (S := (fun W' => W'.rangeAt w.heap.size 22 ds ∧ W'.cell? ⟨w.heap.size, 2, none⟩ = some (.int .i64 x2))) (by kernel_rfl) (HC.out _ H4.out) (fun hHeld => ?_)
 refine tk 0 137 ?_
 refine tk 1 138 ?_
 refine tk 3 140 ?_
 refine tkY (v := .agg ds.toArray) 4 141 rfl (yieldsIf_load_mid (by rfl) 46 (.tmp 140) rfl w.heap.size 22 (by rfl) ds _ (fun _ h => h.1) HU.out.1 rfl HU.out.2) ?_
 refine rdy 2 (fun K hK => ?_)
 go_simp
 go_wp2_with (go_at_call 140; (with_reducible refine (HFI.out _ _).mono ?_); rintro e wx ⟨k1, rfl, hk, rfl⟩)
 have HK1 := lh hk
 clear hk
 refine hK.out _ _ hHeld (fun hHeld => ?_)
 clear hK K
 try simp only [Act.put, px1, px2, px3]
 refine rdy 5 (fun K hK => ?_)
 go_simp
 go_wp2_with (go_at_call 145; (with_reducible refine (HDC.out _).mono ?_); rintro e w5 ⟨k2, rfl, hk, bk⟩)
 have HK2 := lh hk
 have H5 := lh ((bk.block _ (row_ltP H4.out)).trans H4.out)
 have HB5 := lh (bnext HB4.out bk)
 clear hk bk
 refine hK.out _ _ (HC.out _ H5.out) (fun hHeld => ?_)
 clear hK K
 try simp only [Act.put, px1, px2, px3]
 refine rdy 6 (fun K hK => ?_)
 go_simp
 refine hK.out _ _ (HC.out _ ((Lib.alloc_old _ _ _ (row_ltP H5.out)).trans H5.out)) (fun hHeld => ?_)
 clear hK K
 try simp only [Act.put, px1, px2, px3]
 refine rdy 7 (fun K hK => ?_)
 go_simp
 go_wp2_with (go_at_call 137; (with_reducible refine (HF2.out _ _ _).mono ?_); rintro e wx ⟨k, rfl, hk, rfl⟩)
 have HK := lh hk
 clear hk
 refine hK.out _ _ hHeld (fun hHeld => ?_)
 clear hK K
 try simp only [Act.put, px1, px2, px3]
 refine tk 8 2 ?_
 refine wpAnyH_done (by kernel_rfl) ?_ _
 clear hHeld
 go_wp2_with fail
 go_ret
 exact ⟨_, rfl, HK.out.trans ((and_congr HK1.out HK2.out).trans HQ.out.symm), bnext HB5.out (alloc_below _ _)⟩
theorem fields_128 (m : Mg) (ns : List (List UInt8)) (qs : List (Int × Int × Int)) (w : World) (hk : m.kind = 128) (hm : MgIn w m ns qs) : Calls Tryz.prog 82 #[.agg m.cs.toArray] w (RetI (fun e => e = 0 ↔ Flds m ns) w) := by
 have HB := lh (alloc_below w (mgobj m))
 have H1 := lh (heap_alloc_new w (mgobj m))
 have HC0 := lh (fun (W : World) (h : W.heap[w.heap.size]? = some (mgobj m)) => show W.cell? ⟨w.heap.size, 0, none⟩ = some (.int .i64 128) from by rw [Lib.cell_of_heap h, ← hk]; rfl)
 have HC := lh (fun (W : World) (h : W.heap[w.heap.size]? = some (mgobj m)) => show W.cell? ⟨w.heap.size, 2, none⟩ = some (.int .i64 m.fid) ∧ W.cell? ⟨w.heap.size, 12, none⟩ = some (.int .i64 m.q0) ∧ W.cell? ⟨w.heap.size, 13, none⟩ = some (.int .i64 m.q1) ∧ W.cell? ⟨w.heap.size, 14, none⟩ = some (.int .i64 m.q2) ∧ W.cell? ⟨w.heap.size, 36, none⟩ = some (.int .i64 m.lease) ∧ W.cell? ⟨w.heap.size, 37, none⟩ = some (.int .i64 m.term) from ⟨by rw [Lib.cell_of_heap h]; rfl, by rw [Lib.cell_of_heap h]; rfl, by rw [Lib.cell_of_heap h]; rfl, by rw [Lib.cell_of_heap h]; rfl, by rw [Lib.cell_of_heap h]; rfl, by rw [Lib.cell_of_heap h]; rfl⟩)
 have HQ := lh (show Flds m ns ↔ (0 ≤ m.fid ∧ m.fid ≤ 4294967294) ∧ QidOk m.q0 m.q1 m.q2 ∧ (0 ≤ m.lease ∧ m.lease ≤ 2) ∧ (0 ≤ m.term ∧ m.term ≤ 1048576) from by simp [Flds, hk])
 have HI := lh (fun n lo hi W => in_any n lo hi W)
 have HFI := lh (fun n W => fidx_any n W)
 have HF4 := lh (fun a b c d W => first4 a b c d W)
 have HD4 := lh (fun a b c d W => firstD4 a b c d W)
 have HQI := lh (fun W => qid_any m.q0 m.q1 m.q2 W)
 unfold mgobj at *
 clear hm hk
 generalize m.cs = cs at *
 generalize Flds m ns = Q at *
 generalize QidOk m.q0 m.q1 m.q2 = QN at *
 generalize m.fid = x2 at *
 generalize m.q0 = x12 at *
 generalize m.q1 = x13 at *
 generalize m.q2 = x14 at *
 generalize m.lease = x36 at *
 generalize m.term = x37 at *
 go_enter Tryz.func82, Tryz.ntmps82
 go_upto_region 1 with fail
 generalize World.alloc _ _ = w1 at *
 have c0 := HC0.out _ H1.out
 go_upto_region 36 with fail
 have H4 := lh (((below_drew1 w1).block _ (row_ltP H1.out)).trans H1.out)
 have HB4 := lh (bnext HB.out (below_drew1 w1))
 clear c0
 refine wp_region_held_drew (S := (fun W' => W'.cell? ⟨w.heap.size, 2, none⟩ = some (.int .i64 x2) ∧ W'.cell? ⟨w.heap.size, 12, none⟩ = some (.int .i64 x12) ∧ W'.cell? ⟨w.heap.size, 13, none⟩ = some (.int .i64 x13) ∧ W'.cell? ⟨w.heap.size, 14, none⟩ = some (.int .i64 x14) ∧ W'.cell? ⟨w.heap.size, 36, none⟩ = some (.int .i64 x36) ∧ W'.cell? ⟨w.heap.size, 37, none⟩ = some (.int .i64 x37))) (by kernel_rfl) (HC.out _ H4.out) (fun hHeld => ?_)
 refine tk 0 148 ?_
 refine tk 1 149 ?_
 refine tk 3 151 ?_
 refine tk 4 152 ?_
 refine tk 6 154 ?_
 refine tk 7 155 ?_
 refine tk 9 157 ?_
 refine tk 10 158 ?_
 refine rdy 2 (fun K hK => ?_)
 go_simp
 go_wp2_with (go_at_call 140; (with_reducible refine (HFI.out _ _).mono ?_); rintro e wx ⟨k1, rfl, hk, rfl⟩)
 have HK1 := lh hk
 clear hk
 refine hK.out _ _ hHeld (fun hHeld => ?_)
 clear hK K
 try simp only [Act.put, px1, px2, px3]
 refine rdy 5 (fun K hK => ?_)
 go_simp
 go_wp2_with (go_at_call 141; (with_reducible refine (HQI.out _).mono ?_); rintro e w5 ⟨k2, rfl, hk, bk⟩)
 have HK2 := lh hk
 have H5 := lh ((bk.block _ (row_ltP H4.out)).trans H4.out)
 have HB5 := lh (bnext HB4.out bk)
 clear hk bk
 refine hK.out _ _ (HC.out _ H5.out) (fun hHeld => ?_)
 clear hK K
 try simp only [Act.put, px1, px2, px3]
 refine rdy 8 (fun K hK => ?_)
 go_simp
 go_wp2_with (go_at_call 138; (with_reducible refine (HI.out _ _ _ _).mono ?_); rintro e wx ⟨k3, rfl, hk, rfl⟩)
 have HK3 := lh hk
 clear hk
 refine hK.out _ _ hHeld (fun hHeld => ?_)
 clear hK K
 try simp only [Act.put, px1, px2, px3]
 refine rdy 11 (fun K hK => ?_)
 go_simp
 go_wp2_with (go_at_call 138; (with_reducible refine (HI.out _ _ _ _).mono ?_); rintro e wx ⟨k4, rfl, hk, rfl⟩)
 have HK4 := lh hk
 clear hk
 refine hK.out _ _ hHeld (fun hHeld => ?_)
 clear hK K
 try simp only [Act.put, px1, px2, px3]
 refine rdy 12 (fun K hK => ?_)
 go_simp
 refine hK.out _ _ (HC.out _ ((Lib.alloc_old _ _ _ (row_ltP H5.out)).trans H5.out)) (fun hHeld => ?_)
 clear hK K
 try simp only [Act.put, px1, px2, px3]
 refine rdy 13 (fun K hK => ?_)
 go_simp
 go_wp2_with (go_at_call 137; (with_reducible refine (HF4.out _ _ _ _ _).mono ?_); rintro e wx ⟨k, rfl, hk, rfl⟩)
 have HK := lh hk
 clear hk
 refine hK.out _ _ hHeld (fun hHeld => ?_)
 clear hK K
 try simp only [Act.put, px1, px2, px3]
 refine tk 14 2 ?_
 refine wpAnyH_done (by kernel_rfl) ?_ _
 clear hHeld
 go_wp2_with fail
 go_ret
 exact ⟨_, rfl, HK.out.trans ((and_congr HK1.out (and_congr HK2.out (and_congr HK3.out HK4.out))).trans HQ.out.symm), bnext HB5.out (alloc_below _ _)⟩
theorem fields_130 (m : Mg) (ns : List (List UInt8)) (qs : List (Int × Int × Int)) (w : World) (hk : m.kind = 130) (hm : MgIn w m ns qs) : Calls Tryz.prog 82 #[.agg m.cs.toArray] w (RetI (fun e => e = 0 ↔ Flds m ns) w) := by
 have HB := lh (alloc_below w (mgobj m))
 have H1 := lh (heap_alloc_new w (mgobj m))
 have HC0 := lh (fun (W : World) (h : W.heap[w.heap.size]? = some (mgobj m)) => show W.cell? ⟨w.heap.size, 0, none⟩ = some (.int .i64 130) from by rw [Lib.cell_of_heap h, ← hk]; rfl)
 have HC := lh (fun (W : World) (h : W.heap[w.heap.size]? = some (mgobj m)) => show W.cell? ⟨w.heap.size, 38, none⟩ = some (.string (T m.session)) from by rw [Lib.cell_of_heap h]; rfl)
 have HQ := lh (show Flds m ns ↔ m.session.length ≤ 64 from by simp [Flds, hk])
 have HI := lh (fun n lo hi W => in_any n lo hi W)
 have HFI := lh (fun n W => fidx_any n W)
 have HS64 := lh (fun s W => short_nat s 64 64 rfl W)
 unfold mgobj at *
 clear hm hk
 generalize m.cs = cs at *
 generalize Flds m ns = Q at *
 generalize m.session = x38 at *
 go_enter Tryz.func82, Tryz.ntmps82
 go_upto_region 1 with fail
 generalize World.alloc _ _ = w1 at *
 have c0 := HC0.out _ H1.out
 have c1 := HC.out _ H1.out
 go_wp2_with fail
 (with_reducible refine (HS64.out _ _).mono ?_); rintro e wx ⟨k, rfl, hk, rfl⟩
 have HK := lh hk
 clear hk
 go_wp2_with fail
 go_ret
 exact ⟨_, rfl, HK.out.trans HQ.out.symm, HB.out⟩
theorem fields_any (m : Mg) (ns : List (List UInt8)) (qs : List (Int × Int × Int)) (w : World) (hk : IsReq m.kind) (hm : MgIn w m ns qs) : Calls Tryz.prog 82 #[.agg m.cs.toArray] w (RetI (fun e => e = 0 ↔ Flds m ns) w) := by
 rcases hk with h | h | h | h | h | h | h | h | h | h | h | h | h | h
 ·exact fields_100 m ns qs w h hm
 ·exact fields_102 m ns qs w h hm
 ·exact fields_104 m ns qs w h hm
 ·exact fields_110 m ns qs w h hm
 ·exact fields_112 m ns qs w h hm
 ·exact fields_114 m ns qs w h hm
 ·exact fields_116 m ns qs w h hm
 ·exact fields_118 m ns qs w h hm
 ·exact fields_120 m ns qs w h hm
 ·exact fields_122 m ns qs w h hm
 ·exact fields_124 m ns qs w h hm
 ·exact fields_126 m ns qs w h hm
 ·exact fields_128 m ns qs w h hm
 ·exact fields_130 m ns qs w h hm
end Go.Proofs.YtfibaopngpfmjaaGreatDoor
