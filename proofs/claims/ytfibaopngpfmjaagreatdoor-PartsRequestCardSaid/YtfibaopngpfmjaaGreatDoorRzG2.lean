/- msg.fields, first part. Conditions: those that each theorem names. -/
import Derived.Test.YtfibaopngpfmjaaGreatDoorRzG1
import Derived.Test.YtfibaopngpfmjaaGreatDoorRzC1
import Derived.Test.YtfibaopngpfmjaaGreatDoorRzA1
import Derived.Deep.MidRow
set_option linter.unusedVariables false
set_option linter.unusedSimpArgs false
set_option maxRecDepth 100000
set_option maxHeartbeats 8000000
namespace Go.Proofs.YtfibaopngpfmjaaGreatDoor
open Go.RowKit Go.Proofs
theorem short_nat (s : List UInt8) (k : Nat) (K : Int) (h : K = k) (w : World) : Calls Tryz.prog 139 #[.string (T s), .int .i64 K] w (SayI (s.length ≤ k) w) := by
 subst h
 refine (short_any s k w).mono fun e w' h => ?_
 obtain ⟨x, h1, h2, h3⟩ := h
 exact ⟨x, h1, h2.trans ⟨fun h => by omega, fun h => by omega⟩, h3⟩
theorem firstD2 (a b : Int) (W : World) : Calls Tryz.prog 137 #[.slice (some ⟨W.heap.size, 0, none⟩) 2 2] ((W.alloc (.cells #[.int .i64 a, .int .i64 b] 24)).drew) (SayI (a = 0 ∧ b = 0) ((W.alloc (.cells #[.int .i64 a, .int .i64 b] 24)).drew)) := by
 refine first_any _ [a, b] _ ⟨fun h j hj => ?_, fun h => ⟨h 0 (by simp), h 1 (by simp)⟩⟩ _ ((nums_alloc [a, b] W 24).below (below_drew1 _)) (by simp)
 match j, hj with
 | 0, _ => exact h.1
 | 1, _ => exact h.2
theorem firstD3 (a b c : Int) (W : World) : Calls Tryz.prog 137 #[.slice (some ⟨W.heap.size, 0, none⟩) 3 3] ((W.alloc (.cells #[.int .i64 a, .int .i64 b, .int .i64 c] 24)).drew) (SayI (a = 0 ∧ b = 0 ∧ c = 0) ((W.alloc (.cells #[.int .i64 a, .int .i64 b, .int .i64 c] 24)).drew)) := by
 refine first_any _ [a, b, c] _ ⟨fun h j hj => ?_, fun h => ⟨h 0 (by simp), h 1 (by simp), h 2 (by simp)⟩⟩ _ ((nums_alloc [a, b, c] W 24).below (below_drew1 _)) (by simp)
 match j, hj with
 | 0, _ => exact h.1
 | 1, _ => exact h.2.1
 | 2, _ => exact h.2.2
theorem firstD4 (a b c d : Int) (W : World) : Calls Tryz.prog 137 #[.slice (some ⟨W.heap.size, 0, none⟩) 4 4] ((W.alloc (.cells #[.int .i64 a, .int .i64 b, .int .i64 c, .int .i64 d] 24)).drew) (SayI (a = 0 ∧ b = 0 ∧ c = 0 ∧ d = 0) ((W.alloc (.cells #[.int .i64 a, .int .i64 b, .int .i64 c, .int .i64 d] 24)).drew)) := by
 refine first_any _ [a, b, c, d] _ ⟨fun h j hj => ?_, fun h => ⟨h 0 (by simp), h 1 (by simp), h 2 (by simp), h 3 (by simp)⟩⟩ _ ((nums_alloc [a, b, c, d] W 24).below (below_drew1 _)) (by simp)
 match j, hj with
 | 0, _ => exact h.1
 | 1, _ => exact h.2.1
 | 2, _ => exact h.2.2.1
 | 3, _ => exact h.2.2.2
theorem qid_any (a b c : Int) (w : World) : Calls Tryz.prog 141 #[.agg #[.int .i64 a, .int .i64 b, .int .i64 c]] w (RetI (fun e => e = 0 ↔ QidOk a b c) w) := by
 have HB := lh (alloc_below w (.cells #[.int .i64 a, .int .i64 b, .int .i64 c] 44))
 have H1 := lh (heap_alloc_new w (.cells #[.int .i64 a, .int .i64 b, .int .i64 c] 44))
 have HC := lh (fun (W : World) (h : W.heap[w.heap.size]? = some (.cells #[.int .i64 a, .int .i64 b, .int .i64 c] 44)) => show W.cell? ⟨w.heap.size, 1, none⟩ = some (.int .i64 b) ∧ W.cell? ⟨w.heap.size, 2, none⟩ = some (.int .i64 c) from ⟨by rw [Lib.cell_of_heap h]; rfl, by rw [Lib.cell_of_heap h]; rfl⟩)
 have HI := lh (fun n lo hi W => in_any n lo hi W)
 have HD2 := lh (fun a b W => firstD2 a b W)
 have HQ := lh (show QidOk a b c ↔ (0 ≤ a ∧ bits .andNot .i64 a 232 = 0) ∧ (0 ≤ b ∧ b ≤ 2147483647) ∧ (0 ≤ c ∧ c ≤ 1099511627776) from Iff.rfl)
 generalize QidOk a b c = Q at *
 go_enter Tryz.func141, Tryz.ntmps141
 go_upto_region 1 with fail
 generalize World.alloc _ _ = w1 at *
 have c0 : w1.cell? ⟨w.heap.size, 0, none⟩ = some (.int .i64 a) := by rw [Lib.cell_of_heap H1.out]; rfl
 have c1 : w1.cell? ⟨w.heap.size, 1, none⟩ = some (.int .i64 b) := by rw [Lib.cell_of_heap H1.out]; rfl
 have c2 : w1.cell? ⟨w.heap.size, 2, none⟩ = some (.int .i64 c) := by rw [Lib.cell_of_heap H1.out]; rfl
 by_cases h1 : 0 ≤ a
 rotate_left
 ·have k1 : a < 0 := by omega
  have HF := lh (show ¬ Q from fun h => h1 (HQ.out.1 h).1.1)
  clear HQ h1
  go_wp2_with fail
  go_ret
  exact retE _ (by omega) HF.out HB.out
 have k1 : decide (a < 0) = false := decide_eq_false (by omega)
 by_cases h2 : bits .andNot .i64 a 232 = 0
 rotate_left
 ·have k2 : (bits .andNot .i64 a 232 != 0) = true := by simp [h2]
  have HF := lh (show ¬ Q from fun h => h2 (HQ.out.1 h).1.2)
  clear HQ h1 h2
  go_wp2_with fail
  go_ret
  exact retE _ (by omega) HF.out HB.out
 have k2 : (bits .andNot .i64 a 232 != 0) = false := by simp [h2]
 have HQ1 := lh (show Q ↔ (0 ≤ b ∧ b ≤ 2147483647) ∧ (0 ≤ c ∧ c ≤ 1099511627776) from by rw [HQ.out]; simp [h1, h2])
 clear HQ h1 h2
 go_upto_region 3 with fail
 have H4 := lh (((below_drew1 w1).block _ (row_ltP H1.out)).trans H1.out)
 have HB4 := lh (bnext HB.out (below_drew1 w1))
 refine wp_region_held_drew (S := (fun W' => W'.cell? ⟨w.heap.size, 1, none⟩ = some (.int .i64 b) ∧ W'.cell? ⟨w.heap.size, 2, none⟩ = some (.int .i64 c))) (by kernel_rfl) (HC.out _ H4.out) (fun hHeld => ?_)
 refine tk 0 12 ?_
 refine tk 1 13 ?_
 refine tk 3 15 ?_
 refine tk 4 16 ?_
 refine rdy 2 (fun K hK => ?_)
 go_simp
 go_wp2_with (go_at_call 138; (with_reducible refine (HI.out _ _ _ _).mono ?_); rintro e wx ⟨k1, rfl, hk, rfl⟩)
 have HK1 := lh hk
 clear hk
 refine hK.out _ _ hHeld (fun hHeld => ?_)
 clear hK K
 try simp only [Act.put, px1, px2, px3]
 refine rdy 5 (fun K hK => ?_)
 go_simp
 go_wp2_with (go_at_call 138; (with_reducible refine (HI.out _ _ _ _).mono ?_); rintro e wx ⟨k2, rfl, hk, rfl⟩)
 have HK2 := lh hk
 clear hk
 refine hK.out _ _ hHeld (fun hHeld => ?_)
 clear hK K
 try simp only [Act.put, px1, px2, px3]
 refine rdy 6 (fun K hK => ?_)
 go_simp
 refine hK.out _ _ (HC.out _ ((Lib.alloc_old _ _ _ (row_ltP H4.out)).trans H4.out)) (fun hHeld => ?_)
 clear hK K
 try simp only [Act.put, px1, px2, px3]
 refine rdy 7 (fun K hK => ?_)
 go_simp
 go_wp2_with (go_at_call 137; (with_reducible refine (HD2.out _ _ _).mono ?_); rintro e wx ⟨k, rfl, hk, rfl⟩)
 have HK := lh hk
 clear hk
 refine hK.out _ _ hHeld (fun hHeld => ?_)
 clear hK K
 try simp only [Act.put, px1, px2, px3]
 refine tk 8 2 ?_
 refine wpAnyH_done (by kernel_rfl) ?_ _
 clear hHeld
 go_wp2_with fail
 go_ret
 exact ⟨_, rfl, HK.out.trans ((and_congr HK1.out HK2.out).trans HQ1.out.symm), bnext HB.out (bnext (alloc_below _ _) (below_drew1 _))⟩
theorem fields_100 (m : Mg) (ns : List (List UInt8)) (qs : List (Int × Int × Int)) (w : World) (hk : m.kind = 100) (hm : MgIn w m ns qs) : Calls Tryz.prog 82 #[.agg m.cs.toArray] w (RetI (fun e => e = 0 ↔ Flds m ns) w) := by
 have HB := lh (alloc_below w (mgobj m))
 have H1 := lh (heap_alloc_new w (mgobj m))
 have HC0 := lh (fun (W : World) (h : W.heap[w.heap.size]? = some (mgobj m)) => show W.cell? ⟨w.heap.size, 0, none⟩ = some (.int .i64 100) from by rw [Lib.cell_of_heap h, ← hk]; rfl)
 have HC := lh (fun (W : World) (h : W.heap[w.heap.size]? = some (mgobj m)) => show W.cell? ⟨w.heap.size, 6, none⟩ = some (.int .i64 m.msize) ∧ W.cell? ⟨w.heap.size, 7, none⟩ = some (.string (T m.version)) ∧ W.cell? ⟨w.heap.size, 38, none⟩ = some (.string (T m.session)) from ⟨by rw [Lib.cell_of_heap h]; rfl, by rw [Lib.cell_of_heap h]; rfl, by rw [Lib.cell_of_heap h]; rfl⟩)
 have HQ := lh (show Flds m ns ↔ (0 ≤ m.msize ∧ m.msize ≤ 4294967295) ∧ m.version.length ≤ 64 ∧ m.session.length ≤ 64 from by simp [Flds, hk])
 have HI := lh (fun n lo hi W => in_any n lo hi W)
 have HFI := lh (fun n W => fidx_any n W)
 have HS64 := lh (fun s W => short_nat s 64 64 rfl W)
 have HF3 := lh (fun a b c W => first3 a b c W)
 have HD3 := lh (fun a b c W => firstD3 a b c W)
 unfold mgobj at *
 clear hm hk
 generalize m.cs = cs at *
 generalize Flds m ns = Q at *
 generalize m.msize = x6 at *
 generalize m.version = x7 at *
 generalize m.session = x38 at *
 go_enter Tryz.func82, Tryz.ntmps82
 go_upto_region 1 with fail
 generalize World.alloc _ _ = w1 at *
 have c0 := HC0.out _ H1.out
 go_upto_region 4 with fail
 have H4 := lh (((below_drew1 w1).block _ (row_ltP H1.out)).trans H1.out)
 have HB4 := lh (bnext HB.out (below_drew1 w1))
 clear c0
 refine wp_region_held_drew (S := (fun W' => W'.cell? ⟨w.heap.size, 6, none⟩ = some (.int .i64 x6) ∧ W'.cell? ⟨w.heap.size, 7, none⟩ = some (.string (T x7)) ∧ W'.cell? ⟨w.heap.size, 38, none⟩ = some (.string (T x38)))) (by kernel_rfl) (HC.out _ H4.out) (fun hHeld => ?_)
 refine tk 0 8 ?_
 refine tk 1 9 ?_
 refine tk 3 11 ?_
 refine tk 4 12 ?_
 refine tk 6 14 ?_
 refine tk 7 15 ?_
 refine rdy 2 (fun K hK => ?_)
 go_simp
 go_wp2_with (go_at_call 138; (with_reducible refine (HI.out _ _ _ _).mono ?_); rintro e wx ⟨k1, rfl, hk, rfl⟩)
 have HK1 := lh hk
 clear hk
 refine hK.out _ _ hHeld (fun hHeld => ?_)
 clear hK K
 try simp only [Act.put, px1, px2, px3]
 refine rdy 5 (fun K hK => ?_)
 go_simp
 go_wp2_with (go_at_call 139; (with_reducible refine (HS64.out _ _).mono ?_); rintro e wx ⟨k2, rfl, hk, rfl⟩)
 have HK2 := lh hk
 clear hk
 refine hK.out _ _ hHeld (fun hHeld => ?_)
 clear hK K
 try simp only [Act.put, px1, px2, px3]
 refine rdy 8 (fun K hK => ?_)
 go_simp
 go_wp2_with (go_at_call 139; (with_reducible refine (HS64.out _ _).mono ?_); rintro e wx ⟨k3, rfl, hk, rfl⟩)
 have HK3 := lh hk
 clear hk
 refine hK.out _ _ hHeld (fun hHeld => ?_)
 clear hK K
 try simp only [Act.put, px1, px2, px3]
 refine rdy 9 (fun K hK => ?_)
 go_simp
 refine hK.out _ _ (HC.out _ ((Lib.alloc_old _ _ _ (row_ltP H4.out)).trans H4.out)) (fun hHeld => ?_)
 clear hK K
 try simp only [Act.put, px1, px2, px3]
 refine rdy 10 (fun K hK => ?_)
 go_simp
 go_wp2_with (go_at_call 137; (with_reducible refine (HD3.out _ _ _ _).mono ?_); rintro e wx ⟨k, rfl, hk, rfl⟩)
 have HK := lh hk
 clear hk
 refine hK.out _ _ hHeld (fun hHeld => ?_)
 clear hK K
 try simp only [Act.put, px1, px2, px3]
 refine tk 11 2 ?_
 refine wpAnyH_done (by kernel_rfl) ?_ _
 clear hHeld
 go_wp2_with fail
 go_ret
 exact ⟨_, rfl, HK.out.trans ((and_congr HK1.out (and_congr HK2.out HK3.out)).trans HQ.out.symm), bnext HB.out (bnext (alloc_below _ _) (below_drew1 _))⟩
theorem fields_102 (m : Mg) (ns : List (List UInt8)) (qs : List (Int × Int × Int)) (w : World) (hk : m.kind = 102) (hm : MgIn w m ns qs) : Calls Tryz.prog 82 #[.agg m.cs.toArray] w (RetI (fun e => e = 0 ↔ Flds m ns) w) := by
 have HB := lh (alloc_below w (mgobj m))
 have H1 := lh (heap_alloc_new w (mgobj m))
 have HC0 := lh (fun (W : World) (h : W.heap[w.heap.size]? = some (mgobj m)) => show W.cell? ⟨w.heap.size, 0, none⟩ = some (.int .i64 102) from by rw [Lib.cell_of_heap h, ← hk]; rfl)
 have HC := lh (fun (W : World) (h : W.heap[w.heap.size]? = some (mgobj m)) => show W.cell? ⟨w.heap.size, 4, none⟩ = some (.int .i64 m.authFid) ∧ W.cell? ⟨w.heap.size, 8, none⟩ = some (.string (T m.user)) ∧ W.cell? ⟨w.heap.size, 9, none⟩ = some (.string (T m.attach)) from ⟨by rw [Lib.cell_of_heap h]; rfl, by rw [Lib.cell_of_heap h]; rfl, by rw [Lib.cell_of_heap h]; rfl⟩)
 have HQ := lh (show Flds m ns ↔ (0 ≤ m.authFid ∧ m.authFid ≤ 4294967294) ∧ m.user.length ≤ 32 ∧ m.attach.length ≤ 1024 from by simp [Flds, hk])
 have HI := lh (fun n lo hi W => in_any n lo hi W)
 have HFI := lh (fun n W => fidx_any n W)
 have HS32 := lh (fun s W => short_nat s 32 32 rfl W)
 have HS1024 := lh (fun s W => short_nat s 1024 1024 rfl W)
 have HF3 := lh (fun a b c W => first3 a b c W)
 have HD3 := lh (fun a b c W => firstD3 a b c W)
 unfold mgobj at *
 clear hm hk
 generalize m.cs = cs at *
 generalize Flds m ns = Q at *
 generalize m.authFid = x4 at *
 generalize m.user = x8 at *
 generalize m.attach = x9 at *
 go_enter Tryz.func82, Tryz.ntmps82
 go_upto_region 1 with fail
 generalize World.alloc _ _ = w1 at *
 have c0 := HC0.out _ H1.out
 go_upto_region 6 with fail
 have H4 := lh (((below_drew1 w1).block _ (row_ltP H1.out)).trans H1.out)
 have HB4 := lh (bnext HB.out (below_drew1 w1))
 clear c0
 refine wp_region_held_drew (S := (fun W' => W'.cell? ⟨w.heap.size, 4, none⟩ = some (.int .i64 x4) ∧ W'.cell? ⟨w.heap.size, 8, none⟩ = some (.string (T x8)) ∧ W'.cell? ⟨w.heap.size, 9, none⟩ = some (.string (T x9)))) (by kernel_rfl) (HC.out _ H4.out) (fun hHeld => ?_)
 refine tk 0 21 ?_
 refine tk 1 22 ?_
 refine tk 3 24 ?_
 refine tk 4 25 ?_
 refine tk 6 27 ?_
 refine tk 7 28 ?_
 refine rdy 2 (fun K hK => ?_)
 go_simp
 go_wp2_with (go_at_call 140; (with_reducible refine (HFI.out _ _).mono ?_); rintro e wx ⟨k1, rfl, hk, rfl⟩)
 have HK1 := lh hk
 clear hk
 refine hK.out _ _ hHeld (fun hHeld => ?_)
 clear hK K
 try simp only [Act.put, px1, px2, px3]
 refine rdy 5 (fun K hK => ?_)
 go_simp
 go_wp2_with (go_at_call 139; (with_reducible refine (HS32.out _ _).mono ?_); rintro e wx ⟨k2, rfl, hk, rfl⟩)
 have HK2 := lh hk
 clear hk
 refine hK.out _ _ hHeld (fun hHeld => ?_)
 clear hK K
 try simp only [Act.put, px1, px2, px3]
 refine rdy 8 (fun K hK => ?_)
 go_simp
 go_wp2_with (go_at_call 139; (with_reducible refine (HS1024.out _ _).mono ?_); rintro e wx ⟨k3, rfl, hk, rfl⟩)
 have HK3 := lh hk
 clear hk
 refine hK.out _ _ hHeld (fun hHeld => ?_)
 clear hK K
 try simp only [Act.put, px1, px2, px3]
 refine rdy 9 (fun K hK => ?_)
 go_simp
 refine hK.out _ _ (HC.out _ ((Lib.alloc_old _ _ _ (row_ltP H4.out)).trans H4.out)) (fun hHeld => ?_)
 clear hK K
 try simp only [Act.put, px1, px2, px3]
 refine rdy 10 (fun K hK => ?_)
 go_simp
 go_wp2_with (go_at_call 137; (with_reducible refine (HD3.out _ _ _ _).mono ?_); rintro e wx ⟨k, rfl, hk, rfl⟩)
 have HK := lh hk
 clear hk
 refine hK.out _ _ hHeld (fun hHeld => ?_)
 clear hK K
 try simp only [Act.put, px1, px2, px3]
 refine tk 11 2 ?_
 refine wpAnyH_done (by kernel_rfl) ?_ _
 clear hHeld
 go_wp2_with fail
 go_ret
 exact ⟨_, rfl, HK.out.trans ((and_congr HK1.out (and_congr HK2.out HK3.out)).trans HQ.out.symm), bnext HB.out (bnext (alloc_below _ _) (below_drew1 _))⟩
theorem fields_104 (m : Mg) (ns : List (List UInt8)) (qs : List (Int × Int × Int)) (w : World) (hk : m.kind = 104) (hm : MgIn w m ns qs) : Calls Tryz.prog 82 #[.agg m.cs.toArray] w (RetI (fun e => e = 0 ↔ Flds m ns) w) := by
 have HB := lh (alloc_below w (mgobj m))
 have H1 := lh (heap_alloc_new w (mgobj m))
 have HC0 := lh (fun (W : World) (h : W.heap[w.heap.size]? = some (mgobj m)) => show W.cell? ⟨w.heap.size, 0, none⟩ = some (.int .i64 104) from by rw [Lib.cell_of_heap h, ← hk]; rfl)
 have HC := lh (fun (W : World) (h : W.heap[w.heap.size]? = some (mgobj m)) => show W.cell? ⟨w.heap.size, 2, none⟩ = some (.int .i64 m.fid) ∧ W.cell? ⟨w.heap.size, 4, none⟩ = some (.int .i64 m.authFid) ∧ W.cell? ⟨w.heap.size, 8, none⟩ = some (.string (T m.user)) ∧ W.cell? ⟨w.heap.size, 9, none⟩ = some (.string (T m.attach)) from ⟨by rw [Lib.cell_of_heap h]; rfl, by rw [Lib.cell_of_heap h]; rfl, by rw [Lib.cell_of_heap h]; rfl, by rw [Lib.cell_of_heap h]; rfl⟩)
 have HQ := lh (show Flds m ns ↔ (0 ≤ m.fid ∧ m.fid ≤ 4294967294) ∧ (0 ≤ m.authFid ∧ m.authFid ≤ 4294967295) ∧ m.user.length ≤ 32 ∧ m.attach.length ≤ 1024 from by simp [Flds, hk])
 have HI := lh (fun n lo hi W => in_any n lo hi W)
 have HFI := lh (fun n W => fidx_any n W)
 have HS32 := lh (fun s W => short_nat s 32 32 rfl W)
 have HS1024 := lh (fun s W => short_nat s 1024 1024 rfl W)
 have HF4 := lh (fun a b c d W => first4 a b c d W)
 have HD4 := lh (fun a b c d W => firstD4 a b c d W)
 unfold mgobj at *
 clear hm hk
 generalize m.cs = cs at *
 generalize Flds m ns = Q at *
 generalize m.fid = x2 at *
 generalize m.authFid = x4 at *
 generalize m.user = x8 at *
 generalize m.attach = x9 at *
 go_enter Tryz.func82, Tryz.ntmps82
 go_upto_region 1 with fail
 generalize World.alloc _ _ = w1 at *
 have c0 := HC0.out _ H1.out
 go_upto_region 8 with fail
 have H4 := lh (((below_drew1 w1).block _ (row_ltP H1.out)).trans H1.out)
 have HB4 := lh (bnext HB.out (below_drew1 w1))
 clear c0
 refine wp_region_held_drew (S := (fun W' => W'.cell? ⟨w.heap.size, 2, none⟩ = some (.int .i64 x2) ∧ W'.cell? ⟨w.heap.size, 4, none⟩ = some (.int .i64 x4) ∧ W'.cell? ⟨w.heap.size, 8, none⟩ = some (.string (T x8)) ∧ W'.cell? ⟨w.heap.size, 9, none⟩ = some (.string (T x9)))) (by kernel_rfl) (HC.out _ H4.out) (fun hHeld => ?_)
 refine tk 0 34 ?_
 refine tk 1 35 ?_
 refine tk 3 37 ?_
 refine tk 4 38 ?_
 refine tk 6 40 ?_
 refine tk 7 41 ?_
 refine tk 9 43 ?_
 refine tk 10 44 ?_
 refine rdy 2 (fun K hK => ?_)
 go_simp
 go_wp2_with (go_at_call 140; (with_reducible refine (HFI.out _ _).mono ?_); rintro e wx ⟨k1, rfl, hk, rfl⟩)
 have HK1 := lh hk
 clear hk
 refine hK.out _ _ hHeld (fun hHeld => ?_)
 clear hK K
 try simp only [Act.put, px1, px2, px3]
 refine rdy 5 (fun K hK => ?_)
 go_simp
 go_wp2_with (go_at_call 138; (with_reducible refine (HI.out _ _ _ _).mono ?_); rintro e wx ⟨k2, rfl, hk, rfl⟩)
 have HK2 := lh hk
 clear hk
 refine hK.out _ _ hHeld (fun hHeld => ?_)
 clear hK K
 try simp only [Act.put, px1, px2, px3]
 refine rdy 8 (fun K hK => ?_)
 go_simp
 go_wp2_with (go_at_call 139; (with_reducible refine (HS32.out _ _).mono ?_); rintro e wx ⟨k3, rfl, hk, rfl⟩)
 have HK3 := lh hk
 clear hk
 refine hK.out _ _ hHeld (fun hHeld => ?_)
 clear hK K
 try simp only [Act.put, px1, px2, px3]
 refine rdy 11 (fun K hK => ?_)
 go_simp
 go_wp2_with (go_at_call 139; (with_reducible refine (HS1024.out _ _).mono ?_); rintro e wx ⟨k4, rfl, hk, rfl⟩)
 have HK4 := lh hk
 clear hk
 refine hK.out _ _ hHeld (fun hHeld => ?_)
 clear hK K
 try simp only [Act.put, px1, px2, px3]
 refine rdy 12 (fun K hK => ?_)
 go_simp
 refine hK.out _ _ (HC.out _ ((Lib.alloc_old _ _ _ (row_ltP H4.out)).trans H4.out)) (fun hHeld => ?_)
 clear hK K
 try simp only [Act.put, px1, px2, px3]
 refine rdy 13 (fun K hK => ?_)
 go_simp
 go_wp2_with (go_at_call 137; (with_reducible refine (HD4.out _ _ _ _ _).mono ?_); rintro e wx ⟨k, rfl, hk, rfl⟩)
 have HK := lh hk
 clear hk
 refine hK.out _ _ hHeld (fun hHeld => ?_)
 clear hK K
 try simp only [Act.put, px1, px2, px3]
 refine tk 14 2 ?_
 refine wpAnyH_done (by kernel_rfl) ?_ _
 clear hHeld
 go_wp2_with fail
 go_ret
 exact ⟨_, rfl, HK.out.trans ((and_congr HK1.out (and_congr HK2.out (and_congr HK3.out HK4.out))).trans HQ.out.symm), bnext HB.out (bnext (alloc_below _ _) (below_drew1 _))⟩
theorem fields_110 (m : Mg) (ns : List (List UInt8)) (qs : List (Int × Int × Int)) (w : World) (hk : m.kind = 110) (hm : MgIn w m ns qs) : Calls Tryz.prog 82 #[.agg m.cs.toArray] w (RetI (fun e => e = 0 ↔ Flds m ns) w) := by
 have HB := lh (alloc_below w (mgobj m))
 have H1 := lh (heap_alloc_new w (mgobj m))
 have HC0 := lh (fun (W : World) (h : W.heap[w.heap.size]? = some (mgobj m)) => show W.cell? ⟨w.heap.size, 0, none⟩ = some (.int .i64 110) from by rw [Lib.cell_of_heap h, ← hk]; rfl)
 have HC := lh (fun (W : World) (h : W.heap[w.heap.size]? = some (mgobj m)) => show W.cell? ⟨w.heap.size, 2, none⟩ = some (.int .i64 m.fid) ∧ W.cell? ⟨w.heap.size, 3, none⟩ = some (.int .i64 m.newFid) ∧ W.cell? ⟨w.heap.size, 10, none⟩ = some (m.names) from ⟨by rw [Lib.cell_of_heap h]; rfl, by rw [Lib.cell_of_heap h]; rfl, by rw [Lib.cell_of_heap h]; rfl⟩)
 have HQ := lh (show Flds m ns ↔ (0 ≤ m.fid ∧ m.fid ≤ 4294967294) ∧ (0 ≤ m.newFid ∧ m.newFid ≤ 4294967294) ∧ NamesOk ns from by simp [Flds, hk])
 have HI := lh (fun n lo hi W => in_any n lo hi W)
 have HFI := lh (fun n W => fidx_any n W)
 have HF3 := lh (fun a b c W => first3 a b c W)
 have HD3 := lh (fun a b c W => firstD3 a b c W)
 have hm1 := (hm.below HB.out).below (below_drew1 _)
 have HNA := lh (mnames_any m.names ns _ hm1.1 hm1.2.2.2.2.1 hm1.2.2.1)
 obtain ⟨⟨an, nn, cn, hn⟩, _⟩ := hm.ok
 rw [hn] at HNA HC
 clear hn hm1
 unfold mgobj at *
 clear hm hk
 generalize m.cs = cs at *
 generalize Flds m ns = Q at *
 generalize NamesOk ns = QN at *
 generalize m.fid = x2 at *
 generalize m.newFid = x3 at *
 go_enter Tryz.func82, Tryz.ntmps82
 go_upto_region 1 with fail
 generalize World.alloc _ _ = w1 at *
 have c0 := HC0.out _ H1.out
 go_upto_region 19 with fail
 have H4 := lh (((below_drew1 w1).block _ (row_ltP H1.out)).trans H1.out)
 have HB4 := lh (bnext HB.out (below_drew1 w1))
 clear c0
 refine wp_region_held_drew (S := (fun W' => W'.cell? ⟨w.heap.size, 2, none⟩ = some (.int .i64 x2) ∧ W'.cell? ⟨w.heap.size, 3, none⟩ = some (.int .i64 x3) ∧ W'.cell? ⟨w.heap.size, 10, none⟩ = some (.slice an nn cn))) (by kernel_rfl) (HC.out _ H4.out) (fun hHeld => ?_)
 refine tk 0 73 ?_
 refine tk 1 74 ?_
 refine tk 3 76 ?_
 refine tk 4 77 ?_
 refine tk 6 79 ?_
 refine tk 7 80 ?_
 refine rdy 2 (fun K hK => ?_)
 go_simp
 go_wp2_with (go_at_call 140; (with_reducible refine (HFI.out _ _).mono ?_); rintro e wx ⟨k1, rfl, hk, rfl⟩)
 have HK1 := lh hk
 clear hk
 refine hK.out _ _ hHeld (fun hHeld => ?_)
 clear hK K
 try simp only [Act.put, px1, px2, px3]
 refine rdy 5 (fun K hK => ?_)
 go_simp
 go_wp2_with (go_at_call 140; (with_reducible refine (HFI.out _ _).mono ?_); rintro e wx ⟨k2, rfl, hk, rfl⟩)
 have HK2 := lh hk
 clear hk
 refine hK.out _ _ hHeld (fun hHeld => ?_)
 clear hK K
 try simp only [Act.put, px1, px2, px3]
 refine rdy 8 (fun K hK => ?_)
 go_simp
 go_wp2_with (go_at_call 142; (with_reducible refine (HNA.out).mono ?_); rintro e wx ⟨k3, rfl, hk, rfl⟩)
 have HK3 := lh hk
 clear hk
 refine hK.out _ _ hHeld (fun hHeld => ?_)
 clear hK K
 try simp only [Act.put, px1, px2, px3]
 refine rdy 9 (fun K hK => ?_)
 go_simp
 refine hK.out _ _ (HC.out _ ((Lib.alloc_old _ _ _ (row_ltP H4.out)).trans H4.out)) (fun hHeld => ?_)
 clear hK K
 try simp only [Act.put, px1, px2, px3]
 refine rdy 10 (fun K hK => ?_)
 go_simp
 go_wp2_with (go_at_call 137; (with_reducible refine (HD3.out _ _ _ _).mono ?_); rintro e wx ⟨k, rfl, hk, rfl⟩)
 have HK := lh hk
 clear hk
 refine hK.out _ _ hHeld (fun hHeld => ?_)
 clear hK K
 try simp only [Act.put, px1, px2, px3]
 refine tk 11 2 ?_
 refine wpAnyH_done (by kernel_rfl) ?_ _
 clear hHeld
 go_wp2_with fail
 go_ret
 exact ⟨_, rfl, HK.out.trans ((and_congr HK1.out (and_congr HK2.out HK3.out)).trans HQ.out.symm), bnext HB.out (bnext (alloc_below _ _) (below_drew1 _))⟩
end Go.Proofs.YtfibaopngpfmjaaGreatDoor
