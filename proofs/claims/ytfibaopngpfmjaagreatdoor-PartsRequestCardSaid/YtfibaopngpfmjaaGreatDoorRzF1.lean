/- The names of kinds; msg.only, first part. Conditions: those that each theorem names. -/
import Derived.Test.YtfibaopngpfmjaaGreatDoorRzD1
import Derived.Test.YtfibaopngpfmjaaGreatDoorRzB1
import Derived.Test.YtfibaopngpfmjaaGreatDoorRzB6
import Derived.Test.YtfibaopngpfmjaaGreatDoorRzA1
set_option linter.unusedVariables false
set_option linter.unusedSimpArgs false
set_option maxRecDepth 100000
set_option maxHeartbeats 8000000
namespace Go.Proofs.YtfibaopngpfmjaaGreatDoor
open Go.RowKit Go.Proofs
/-- The names. -/
def nmsl : List (List UInt8) := [[84, 86, 101, 114, 115, 105, 111, 110], [82, 86, 101, 114, 115, 105, 111, 110], [84, 65, 117, 116, 104], [82, 65, 117, 116, 104], [84, 65, 116, 116, 97, 99, 104], [82, 65, 116, 116, 97, 99, 104], [], [82, 69, 114, 114, 111, 114], [84, 70, 108, 117, 115, 104], [82, 70, 108, 117, 115, 104], [84, 87, 97, 108, 107], [82, 87, 97, 108, 107], [84, 79, 112, 101, 110], [82, 79, 112, 101, 110], [84, 67, 114, 101, 97, 116, 101], [82, 67, 114, 101, 97, 116, 101], [84, 82, 101, 97, 100], [82, 82, 101, 97, 100], [84, 87, 114, 105, 116, 101], [82, 87, 114, 105, 116, 101], [84, 67, 108, 117, 110, 107], [82, 67, 108, 117, 110, 107], [84, 82, 101, 109, 111, 118, 101], [82, 82, 101, 109, 111, 118, 101], [84, 83, 116, 97, 116], [82, 83, 116, 97, 116], [84, 87, 115, 116, 97, 116], [82, 87, 115, 116, 97, 116], [84, 76, 101, 97, 115, 101], [82, 76, 101, 97, 115, 101], [84, 82, 101, 115, 117, 109, 101], [82, 82, 101, 115, 117, 109, 101]]
theorem nmsl_len : nmsl.length = 32 := rfl
theorem name_in (j : Nat) (hj : j < nmsl.length) (w : World) : Calls Tryz.prog 34 #[.int .i64 ((j : Int) + 100)] w fun e w' => e = .returned (.string (T nmsl[j])) ∧ Below w.heap.size w w' := by
 have HB := lh (alloc_below w (.cells (nmsl.map fun s => Value.string (T s)).toArray 9))
 have hc : (w.alloc (.cells (nmsl.map fun s => Value.string (T s)).toArray 9)).cell? ⟨w.heap.size, j, none⟩ = some (.string (T nmsl[j])) := by
  rw [Lib.cell_of_heap (heap_alloc_new w _)]
  simp [hj]
 have hjl : j < 32 := hj
 have hj1 : (j : Int) < 32 := by omega
 generalize nmsl[j] = s at *
 unfold nmsl at hc HB
 simp only [List.map_cons, List.map_nil] at hc HB
 clear hj
 go_enter Tryz.func34, Tryz.ntmps34
 go_upto_region 2 with fail
 generalize World.alloc _ _ = w1 at *
 go_wp2_with fail
 go_ret
 exact ⟨rfl, HB.out⟩
theorem name_out (k : Int) (h : k < 100 ∨ 131 < k) (w : World) : Calls Tryz.prog 34 #[.int .i64 k] w fun e w' => e = .returned (.string (T [])) ∧ Below w.heap.size w w' := by
 have HB := lh (fun o => alloc_below w o)
 go_enter Tryz.func34, Tryz.ntmps34
 by_cases h1 : k < 100
 ·clear h
  go_wp2_with fail
  go_ret
  exact ⟨rfl, HB.out _⟩
 ·have h2 : 131 < k := by omega
  have k1 : decide (k < 100) = false := decide_eq_false h1
  clear h h1
  go_wp2_with fail
  go_ret
  exact ⟨rfl, HB.out _⟩
/-- A text is returned, of which Q holds. -/
def RetS (Q : List UInt8 → Prop) (w : World) (e : Ending) (w' : World) : Prop := ∃ s, e = .returned (.string (T s)) ∧ Q s ∧ Below w.heap.size w w'
theorem retS {Q : List UInt8 → Prop} {w : World} {f : Nat} {args : Array Value} (s : List UInt8) (q : Q s) (h : Calls Tryz.prog f args w fun e w' => e = .returned (.string (T s)) ∧ Below w.heap.size w w') : Calls Tryz.prog f args w (RetS Q w) :=
 h.mono fun e w' ⟨h1, h2⟩ => ⟨s, h1, q, h2⟩
theorem namev_any (k : Int) (h : k % 2 = 0) (w : World) : Calls Tryz.prog 34 #[.int .i64 k] w (RetS (fun s => (s ≠ [] → IsReq k ∨ k = 108) ∧ (IsReq k → s ≠ [])) w) := by
 by_cases h1 : k < 100 ∨ 131 < k
 ·exact retS [] ⟨fun h => absurd rfl h, fun h => by unfold IsReq at h; omega⟩ (name_out k h1 w)
 obtain ⟨j, rfl⟩ : ∃ j : Nat, k = (j : Int) + 100 := ⟨(k - 100).toNat, by omega⟩
 have hj : j < nmsl.length := by rw [nmsl_len]; omega
 refine retS nmsl[j] ?_ (name_in j hj w)
 have hd : ∀ j (h : j < nmsl.length), j % 2 = 0 → ((nmsl[j] ≠ [] ↔ j ≠ 6)) := by decide
 have hj2 := hd j hj (by omega)
 rw [nmsl_len] at hj
 exact ⟨fun h => by have := hj2.1 h; unfold IsReq; omega, fun h => hj2.2 (by unfold IsReq at h; omega)⟩
/-- The kinds of requests that Request knows. -/
theorem reqv_any (k : Int) (w : World) : Calls Tryz.prog 25 #[.int .i64 k] w (RetB (fun b => b = true → IsReq k ∨ k = 108) w) := by
 by_cases h1 : k % 2 = 0
 ·have HN := lh (fun W => namev_any k h1 W)
  have h2 : Int.tmod k 2 = 0 := Int.tmod_eq_zero_of_dvd (Int.dvd_of_emod_eq_zero h1)
  generalize (IsReq k ∨ k = 108) = Q at *
  generalize IsReq k = Q2 at *
  clear h1
  go_enter Tryz.func25, Tryz.ntmps25
  go_wp2_with fail
  (with_reducible refine (HN.out _).mono ?_); rintro e w1 ⟨s, rfl, ⟨hq, _⟩, b1⟩
  have HB1 := lh b1
  clear b1
  by_cases e0 : s = []
  ·subst e0
   clear hq
   go_wp2_with fail
   go_ret
   exact retB _ (fun h => nomatch h) HB1.out
  ·have HF := lh (hq e0)
   have k0 : s.isEmpty = false := by cases s; exact absurd rfl e0; rfl
   clear hq e0
   go_wp2_with fail
   go_ret
   exact retB _ (fun _ => HF.out) HB1.out
 ·have h2 : (Int.tmod k 2 == 0) = false := by
   simp only [beq_eq_false_iff_ne, ne_eq]
   intro h
   exact h1 (Int.emod_eq_zero_of_dvd (Int.dvd_of_tmod_eq_zero h))
  clear h1
  generalize (IsReq k ∨ k = 108) = Q at *
  go_enter Tryz.func25, Tryz.ntmps25
  go_wp2_with fail
  go_ret
  exact retB _ (fun h => nomatch h) (Below.refl _ _)
theorem tagged_any (m : Mg) (h : IsReq m.kind) (w : World) : Calls Tryz.prog 79 #[.agg m.cs.toArray] w (RetB (fun b => b = true ↔ TagOk m) w) := by
 have HB := lh (alloc_below w (mgobj m))
 have H1 := lh (heap_alloc_new w (mgobj m))
 have HC := lh (fun (W : World) (h : W.heap[w.heap.size]? = some (mgobj m)) => show W.cell? ⟨w.heap.size, 0, none⟩ = some (.int .i64 m.kind) ∧ W.cell? ⟨w.heap.size, 1, none⟩ = some (.int .i64 m.tag) from ⟨by rw [Lib.cell_of_heap h]; rfl, by rw [Lib.cell_of_heap h]; rfl⟩)
 have HQ := lh (show TagOk m ↔ (m.kind = 100 → m.tag = 65535) ∧ (m.kind ≠ 100 → 0 ≤ m.tag ∧ m.tag ≤ 65534) from by unfold TagOk; split <;> simp_all)
 have hne : m.kind ≠ 101 ∧ m.kind ≠ 107 := by unfold IsReq at h; omega
 unfold mgobj at *
 clear h
 generalize TagOk m = Q at *
 generalize m.cs = cs at *
 generalize m.kind = kd at *
 generalize m.tag = tg at *
 go_enter Tryz.func79, Tryz.ntmps79
 go_upto_region 1 with fail
 generalize World.alloc _ _ = w1 at *
 obtain ⟨c0, c1⟩ := HC.out _ H1.out
 obtain ⟨n1, n2⟩ := hne
 have k101 : (kd == 101) = false := by simp [n1]
 have k107 : (kd == 107) = false := by simp [n2]
 clear n1 n2
 by_cases h1 : kd = 100
 ·subst h1
  by_cases h2 : tg = 65535
  ·have HF := lh (show Q from by rw [HQ.out]; exact ⟨fun _ => h2, fun h => absurd rfl h⟩)
   subst h2
   go_wp2_with fail
   go_ret
   exact retB _ (by simp [HF.out]) HB.out
  ·have HF := lh (show ¬ Q from by rw [HQ.out]; exact fun h => h2 (h.1 rfl))
   have k2 : (tg == 65535) = false := by simp [h2]
   clear h2
   go_wp2_with fail
   go_ret
   exact retB _ (by simp [HF.out]) HB.out
 have k100 : (kd == 100) = false := by simp [h1]
 have HQ1 := lh (show Q ↔ 0 ≤ tg ∧ tg ≤ 65534 from by rw [HQ.out]; exact ⟨fun h => h.2 h1, fun h => ⟨fun e => absurd e h1, fun _ => h⟩⟩)
 clear HQ h1
 by_cases h2 : 0 ≤ tg
 rotate_left
 ·have HF := lh (show ¬ Q from fun h => h2 (HQ1.out.1 h).1)
  have k2 : decide (0 ≤ tg) = false := decide_eq_false h2
  clear h2
  go_wp2_with fail
  go_ret
  exact retB _ (by simp [HF.out]) HB.out
 by_cases h3 : tg ≤ 65534
 rotate_left
 ·have HF := lh (show ¬ Q from fun h => h3 (HQ1.out.1 h).2)
  have k3 : decide (tg ≤ 65534) = false := decide_eq_false h3
  clear h3
  go_wp2_with fail
  go_ret
  exact retB _ (by simp [HF.out]) HB.out
 have HF := lh (HQ1.out.2 ⟨h2, h3⟩)
 go_wp2_with fail
 go_ret
 exact retB _ (by simp [HF.out]) HB.out
theorem only_100 (m : Mg) (hk : m.kind = 100) (hok : m.ok) (w : World) : Calls Tryz.prog 81 #[.agg m.cs.toArray] w fun e w' => e = .returned (.agg (onl m).cs.toArray) ∧ Below w.heap.size w w' := by
 have ho : onl m = ({ mg0 with kind := 100, tag := m.tag, msize := m.msize, version := m.version } : Mg) := by simp [onl, hk]
 rw [ho]
 clear ho
 have h1 := heap_alloc_new w (mgobj m)
 have h2 := heap_alloc_new (w.alloc (mgobj m)) (mgobj mg0)
 rw [show (w.alloc (mgobj m)).heap.size = w.heap.size + 1 from by simp] at h2
 have HB := lh (bnext (alloc_below w (mgobj m)) (alloc_below _ (mgobj mg0)))
 have H1 := lh ((Lib.alloc_old _ (mgobj mg0) _ (by simp)).trans h1)
 have H2 := lh h2
 clear h1 h2
 have HC0 := lh (fun (W : World) (h : W.heap[w.heap.size]? = some (mgobj m)) => show W.cell? ⟨w.heap.size, 0, none⟩ = some (.int .i64 100) ∧ W.cell? ⟨w.heap.size, 1, none⟩ = some (.int .i64 m.tag) from ⟨by rw [Lib.cell_of_heap h, ← hk]; rfl, by rw [Lib.cell_of_heap h]; rfl⟩)
 have HCS := lh (fun (W : World) (h : W.heap[w.heap.size]? = some (mgobj m)) => show W.cell? ⟨w.heap.size, 6, none⟩ = some (.int .i64 m.msize) ∧ W.cell? ⟨w.heap.size, 7, none⟩ = some (.string (T m.version)) from ⟨by rw [Lib.cell_of_heap h]; rfl, by rw [Lib.cell_of_heap h]; rfl⟩)
 have HDS := lh (fun (W : World) (b : Nat) (h : W.heap[b]? = some (mgobj ({ mg0 with kind := 100, tag := m.tag } : Mg))) => show (W.cell? ⟨b, 6, none⟩ = some (.int .i64 0) ∧ W.cell? ⟨b, 7, none⟩ = some (.string (T []))) ∧ (W.frozen? ⟨b, 6, none⟩ = false ∧ W.frozen? ⟨b, 7, none⟩ = false) ∧ ((W.setCell ⟨b, 6, none⟩ (.int .i64 m.msize)).setCell ⟨b, 7, none⟩ (.string (T m.version))).heap[b]? = some (mgobj ({ mg0 with kind := 100, tag := m.tag, msize := m.msize, version := m.version } : Mg)) from ⟨⟨by rw [Lib.cell_of_heap h]; rfl, by rw [Lib.cell_of_heap h]; rfl⟩, ⟨Lib.frozen_of_heap h _, Lib.frozen_of_heap h _⟩, (mg_set (m := ({ mg0 with kind := 100, tag := m.tag, msize := m.msize } : Mg)) (m' := ({ mg0 with kind := 100, tag := m.tag, msize := m.msize, version := m.version } : Mg)) (mg_set (m := ({ mg0 with kind := 100, tag := m.tag } : Mg)) (m' := ({ mg0 with kind := 100, tag := m.tag, msize := m.msize } : Mg)) h 6 (.int .i64 m.msize) rfl) 7 (.string (T m.version)) rfl)⟩)
 have HU := lh (Tryz.underlying48)
 have HSZ0 := lh (mg_size ({ mg0 with kind := 100, tag := m.tag } : Mg))
 have HSZR := lh (mg_size ({ mg0 with kind := 100, tag := m.tag, msize := m.msize, version := m.version } : Mg))
 have HSZM := lh (mg_size m)
 have HSY0 : RowKit.Hid (mg0.cs.toArray.size = ({ mg0 with kind := 100, tag := m.tag } : Mg).cs.toArray.size) := lh rfl
 have HSYR : RowKit.Hid (mg0.cs.toArray.size = ({ mg0 with kind := 100, tag := m.tag, msize := m.msize, version := m.version } : Mg).cs.toArray.size) := lh rfl
 have HAL0 := lh (mg_all ({ mg0 with kind := 100, tag := m.tag } : Mg) ⟨⟨_, _, _, rfl⟩, ⟨_, _, _, rfl⟩⟩)
 have HALR := lh (mg_all ({ mg0 with kind := 100, tag := m.tag, msize := m.msize, version := m.version } : Mg) ⟨⟨_, _, _, rfl⟩, ⟨_, _, _, rfl⟩⟩)
 have HBU : RowKit.Hid (Tryz.prog.built 48 [(0, .int .i64 100), (1, .int .i64 m.tag)] = some ({ mg0 with kind := 100, tag := m.tag } : Mg).cs.toArray) := lh (by kernel_rfl)
 unfold mgobj at *
 clear hk hok
 generalize ({ mg0 with kind := 100, tag := m.tag, msize := m.msize, version := m.version } : Mg).cs.toArray = AR at *
 generalize ({ mg0 with kind := 100, tag := m.tag } : Mg).cs.toArray = A0 at *
 generalize m.cs.toArray = A1 at *
 generalize m.tag = tg at *
 generalize m.msize = x6 at *
 generalize m.version = x7 at *
 go_enter Tryz.func81, Tryz.ntmps81
 go_upto_region 1 with fail
 generalize hw1 : World.alloc _ _ = w1
 have HB1 := lh (show Below w.heap.size w w1 from by rw [← hw1]; exact HB.out)
 have K1 := lh (show w1.heap[w.heap.size]? = some (.cells A1 48) from by rw [← hw1]; exact H1.out)
 have K2 := lh (show w1.heap[(w.heap.size + 1)]? = some (.cells mg0.cs.toArray 48) from by rw [← hw1]; exact H2.out)
 clear H1 H2 HB hw1
 obtain ⟨c0, c1⟩ := HC0.out _ K1.out
 have hz1 := heap_alloc_new w1 (mgobj mg0)
 go_upto_region 2 with (first | refine wpList_build_at rfl 48 _ rfl A0 (by simp only [List.map_toArray, List.map_cons, List.map_nil]; exact HBU.out) ?_ | refine wpList_store_row rfl 48 _ _ rfl w1.heap.size A0 rfl rfl 48 mg0.cs.toArray hz1 HSZ0.out HSY0.out HAL0.out ?_)
 generalize hwx : World.setRow _ _ _ = wx
 have bx := (show Below w1.heap.size w1 wx from by rw [← hwx]; exact below_setRow (alloc_below w1 _) (Nat.le_refl _) _)
 have K3 := lh (show wx.heap[w1.heap.size]? = some (.cells A0 48) from by rw [← hwx]; exact heap_setRow_same (heap_alloc_new w1 _))
 clear hz1
 have hlt : w.heap.size < w1.heap.size := row_ltP K1.out
 have hlt2 : w.heap.size + 1 < w1.heap.size := row_ltP K2.out
 have K1 := lh ((bx.block _ (row_ltP K1.out)).trans K1.out)
 have K2 := lh ((bx.block _ (row_ltP K2.out)).trans K2.out)
 have HB1 := lh (bnext HB1.out bx)
 clear bx hwx c0 c1
 generalize w1.heap.size = b3 at *
 obtain ⟨c0, c1⟩ := HC0.out _ K1.out
 go_upto_region 5 with fail
 have J1 := lh (((below_drew1 wx).block _ (row_ltP K1.out)).trans K1.out)
 have J2 := lh K2.out
 obtain ⟨s6, s7⟩ := HCS.out _ K1.out
 obtain ⟨⟨d6, d7⟩, ⟨f6, f7⟩, k3⟩ := HDS.out _ _ K3.out
 have L3 := lh ((below_drew1 _).block _ (row_ltP k3) |>.trans k3)
 clear k3 K1 K2 K3 c0 c1
 refine wp_region_held_drew (S := (fun W' => W'.cell? ⟨w.heap.size, 6, none⟩ = some (.int .i64 x6) ∧ W'.cell? ⟨w.heap.size, 7, none⟩ = some (.string (T x7)))) (by kernel_rfl) (HCS.out _ J1.out) (fun hHeld => ?_)
 refine tk 0 16 ?_
 refine tk 1 17 ?_
 refine tk 2 18 ?_
 refine tk 3 19 ?_
 refine tk 4 20 ?_
 refine rdy 5 (fun K hK => ?_)
 go_simp
 have bst := ((Below.refl b3 wx).setCell (p := ⟨b3, 6, none⟩) (Nat.le_refl _) (.int .i64 x6)).drew
 refine hK.out _ _ (⟨(bst.cell (p := ⟨w.heap.size, 6, none⟩) hlt).trans s6, (bst.cell (p := ⟨w.heap.size, 7, none⟩) hlt).trans s7⟩) (fun hHeld => ?_)
 clear bst hK K
 try simp only [Act.put, px1, px2, px3]
 refine tk 6 21 ?_
 refine rdy 7 (fun K hK => ?_)
 go_simp
 have bst := (((Below.refl b3 wx).setCell (p := ⟨b3, 6, none⟩) (Nat.le_refl _) (.int .i64 x6)).setCell (p := ⟨b3, 7, none⟩) (Nat.le_refl _) (.string (T x7))).drew
 refine hK.out _ _ (⟨(bst.cell (p := ⟨w.heap.size, 6, none⟩) hlt).trans s6, (bst.cell (p := ⟨w.heap.size, 7, none⟩) hlt).trans s7⟩) (fun hHeld => ?_)
 clear bst hK K
 try simp only [Act.put, px1, px2, px3]
 refine wpAnyH_done (by kernel_rfl) ?_ _
 clear hHeld
 have l2 := (Below.heap_setCell (wx.setCell ⟨b3, 6, none⟩ (.int .i64 x6)) ⟨b3, 7, none⟩ (.string (T x7)) (w.heap.size + 1) (show (w.heap.size + 1) ≠ b3 by omega)).trans ((Below.heap_setCell wx ⟨b3, 6, none⟩ (.int .i64 x6) (w.heap.size + 1) (show (w.heap.size + 1) ≠ b3 by omega)).trans (J2.out))
 have L2 := lh (((below_drew1 _).block _ (row_ltP l2)).trans l2)
 clear l2
 have HB2 := lh ((HB1.out.setCell (p := ⟨b3, 6, none⟩) (show w.heap.size ≤ b3 by omega) (.int .i64 x6)).setCell (p := ⟨b3, 7, none⟩) (show w.heap.size ≤ b3 by omega) (.string (T x7))).drew
 clear s6 d6 f6 s7 d7 f7 HCS HDS
 generalize ((wx.setCell ⟨b3, 6, none⟩ (.int .i64 x6)).setCell ⟨b3, 7, none⟩ (.string (T x7))).drew = w2 at *
 generalize mg0.cs.toArray = A3 at *
 go_wp2_with (first | refine wpList_load_row rfl 48 _ rfl b3 rfl 48 AR (0, 0) _ L3.out HU.out rfl HSZR.out ?_ | refine wpList_store_row rfl 48 _ _ rfl (w.heap.size + 1) AR rfl rfl 48 A3 L2.out HSZR.out HSYR.out HALR.out ?_)
 refine bodyPost_ret (v := .agg AR) (results_cell_row Tryz.results81 _ _ (w.heap.size + 1) 48 AR (0, 0) _ rfl (heap_setRow_same L2.out) HU.out rfl HSZR.out) rfl ⟨rfl, below_setRow HB2.out (by omega) _⟩
theorem only_102 (m : Mg) (hk : m.kind = 102) (hok : m.ok) (w : World) : Calls Tryz.prog 81 #[.agg m.cs.toArray] w fun e w' => e = .returned (.agg (onl m).cs.toArray) ∧ Below w.heap.size w w' := by
 have ho : onl m = ({ mg0 with kind := 102, tag := m.tag, authFid := m.authFid, user := m.user, attach := m.attach } : Mg) := by simp [onl, hk]
 rw [ho]
 clear ho
 have h1 := heap_alloc_new w (mgobj m)
 have h2 := heap_alloc_new (w.alloc (mgobj m)) (mgobj mg0)
 rw [show (w.alloc (mgobj m)).heap.size = w.heap.size + 1 from by simp] at h2
 have HB := lh (bnext (alloc_below w (mgobj m)) (alloc_below _ (mgobj mg0)))
 have H1 := lh ((Lib.alloc_old _ (mgobj mg0) _ (by simp)).trans h1)
 have H2 := lh h2
 clear h1 h2
 have HC0 := lh (fun (W : World) (h : W.heap[w.heap.size]? = some (mgobj m)) => show W.cell? ⟨w.heap.size, 0, none⟩ = some (.int .i64 102) ∧ W.cell? ⟨w.heap.size, 1, none⟩ = some (.int .i64 m.tag) from ⟨by rw [Lib.cell_of_heap h, ← hk]; rfl, by rw [Lib.cell_of_heap h]; rfl⟩)
 have HCS := lh (fun (W : World) (h : W.heap[w.heap.size]? = some (mgobj m)) => show W.cell? ⟨w.heap.size, 4, none⟩ = some (.int .i64 m.authFid) ∧ W.cell? ⟨w.heap.size, 8, none⟩ = some (.string (T m.user)) ∧ W.cell? ⟨w.heap.size, 9, none⟩ = some (.string (T m.attach)) from ⟨by rw [Lib.cell_of_heap h]; rfl, by rw [Lib.cell_of_heap h]; rfl, by rw [Lib.cell_of_heap h]; rfl⟩)
 have HDS := lh (fun (W : World) (b : Nat) (h : W.heap[b]? = some (mgobj ({ mg0 with kind := 102, tag := m.tag } : Mg))) => show (W.cell? ⟨b, 4, none⟩ = some (.int .i64 0) ∧ W.cell? ⟨b, 8, none⟩ = some (.string (T [])) ∧ W.cell? ⟨b, 9, none⟩ = some (.string (T []))) ∧ (W.frozen? ⟨b, 4, none⟩ = false ∧ W.frozen? ⟨b, 8, none⟩ = false ∧ W.frozen? ⟨b, 9, none⟩ = false) ∧ (((W.setCell ⟨b, 4, none⟩ (.int .i64 m.authFid)).setCell ⟨b, 8, none⟩ (.string (T m.user))).setCell ⟨b, 9, none⟩ (.string (T m.attach))).heap[b]? = some (mgobj ({ mg0 with kind := 102, tag := m.tag, authFid := m.authFid, user := m.user, attach := m.attach } : Mg)) from ⟨⟨by rw [Lib.cell_of_heap h]; rfl, by rw [Lib.cell_of_heap h]; rfl, by rw [Lib.cell_of_heap h]; rfl⟩, ⟨Lib.frozen_of_heap h _, Lib.frozen_of_heap h _, Lib.frozen_of_heap h _⟩, (mg_set (m := ({ mg0 with kind := 102, tag := m.tag, authFid := m.authFid, user := m.user } : Mg)) (m' := ({ mg0 with kind := 102, tag := m.tag, authFid := m.authFid, user := m.user, attach := m.attach } : Mg)) (mg_set (m := ({ mg0 with kind := 102, tag := m.tag, authFid := m.authFid } : Mg)) (m' := ({ mg0 with kind := 102, tag := m.tag, authFid := m.authFid, user := m.user } : Mg)) (mg_set (m := ({ mg0 with kind := 102, tag := m.tag } : Mg)) (m' := ({ mg0 with kind := 102, tag := m.tag, authFid := m.authFid } : Mg)) h 4 (.int .i64 m.authFid) rfl) 8 (.string (T m.user)) rfl) 9 (.string (T m.attach)) rfl)⟩)
 have HU := lh (Tryz.underlying48)
 have HSZ0 := lh (mg_size ({ mg0 with kind := 102, tag := m.tag } : Mg))
 have HSZR := lh (mg_size ({ mg0 with kind := 102, tag := m.tag, authFid := m.authFid, user := m.user, attach := m.attach } : Mg))
 have HSZM := lh (mg_size m)
 have HSY0 : RowKit.Hid (mg0.cs.toArray.size = ({ mg0 with kind := 102, tag := m.tag } : Mg).cs.toArray.size) := lh rfl
 have HSYR : RowKit.Hid (mg0.cs.toArray.size = ({ mg0 with kind := 102, tag := m.tag, authFid := m.authFid, user := m.user, attach := m.attach } : Mg).cs.toArray.size) := lh rfl
 have HAL0 := lh (mg_all ({ mg0 with kind := 102, tag := m.tag } : Mg) ⟨⟨_, _, _, rfl⟩, ⟨_, _, _, rfl⟩⟩)
 have HALR := lh (mg_all ({ mg0 with kind := 102, tag := m.tag, authFid := m.authFid, user := m.user, attach := m.attach } : Mg) ⟨⟨_, _, _, rfl⟩, ⟨_, _, _, rfl⟩⟩)
 have HBU : RowKit.Hid (Tryz.prog.built 48 [(0, .int .i64 102), (1, .int .i64 m.tag)] = some ({ mg0 with kind := 102, tag := m.tag } : Mg).cs.toArray) := lh (by kernel_rfl)
 unfold mgobj at *
 clear hk hok
 generalize ({ mg0 with kind := 102, tag := m.tag, authFid := m.authFid, user := m.user, attach := m.attach } : Mg).cs.toArray = AR at *
 generalize ({ mg0 with kind := 102, tag := m.tag } : Mg).cs.toArray = A0 at *
 generalize m.cs.toArray = A1 at *
 generalize m.tag = tg at *
 generalize m.authFid = x4 at *
 generalize m.user = x8 at *
 generalize m.attach = x9 at *
 go_enter Tryz.func81, Tryz.ntmps81
 go_upto_region 1 with fail
 generalize hw1 : World.alloc _ _ = w1
 have HB1 := lh (show Below w.heap.size w w1 from by rw [← hw1]; exact HB.out)
 have K1 := lh (show w1.heap[w.heap.size]? = some (.cells A1 48) from by rw [← hw1]; exact H1.out)
 have K2 := lh (show w1.heap[(w.heap.size + 1)]? = some (.cells mg0.cs.toArray 48) from by rw [← hw1]; exact H2.out)
 clear H1 H2 HB hw1
 obtain ⟨c0, c1⟩ := HC0.out _ K1.out
 have hz1 := heap_alloc_new w1 (mgobj mg0)
 go_upto_region 2 with (first | refine wpList_build_at rfl 48 _ rfl A0 (by simp only [List.map_toArray, List.map_cons, List.map_nil]; exact HBU.out) ?_ | refine wpList_store_row rfl 48 _ _ rfl w1.heap.size A0 rfl rfl 48 mg0.cs.toArray hz1 HSZ0.out HSY0.out HAL0.out ?_)
 generalize hwx : World.setRow _ _ _ = wx
 have bx := (show Below w1.heap.size w1 wx from by rw [← hwx]; exact below_setRow (alloc_below w1 _) (Nat.le_refl _) _)
 have K3 := lh (show wx.heap[w1.heap.size]? = some (.cells A0 48) from by rw [← hwx]; exact heap_setRow_same (heap_alloc_new w1 _))
 clear hz1
 have hlt : w.heap.size < w1.heap.size := row_ltP K1.out
 have hlt2 : w.heap.size + 1 < w1.heap.size := row_ltP K2.out
 have K1 := lh ((bx.block _ (row_ltP K1.out)).trans K1.out)
 have K2 := lh ((bx.block _ (row_ltP K2.out)).trans K2.out)
 have HB1 := lh (bnext HB1.out bx)
 clear bx hwx c0 c1
 generalize w1.heap.size = b3 at *
 obtain ⟨c0, c1⟩ := HC0.out _ K1.out
 go_upto_region 9 with fail
 have J1 := lh (((below_drew1 wx).block _ (row_ltP K1.out)).trans K1.out)
 have J2 := lh K2.out
 obtain ⟨s4, s8, s9⟩ := HCS.out _ K1.out
 obtain ⟨⟨d4, d8, d9⟩, ⟨f4, f8, f9⟩, k3⟩ := HDS.out _ _ K3.out
 have L3 := lh ((below_drew1 _).block _ (row_ltP k3) |>.trans k3)
 clear k3 K1 K2 K3 c0 c1
 refine wp_region_held_drew (S := (fun W' => W'.cell? ⟨w.heap.size, 4, none⟩ = some (.int .i64 x4) ∧ W'.cell? ⟨w.heap.size, 8, none⟩ = some (.string (T x8)) ∧ W'.cell? ⟨w.heap.size, 9, none⟩ = some (.string (T x9)))) (by kernel_rfl) (HCS.out _ J1.out) (fun hHeld => ?_)
 refine tk 0 35 ?_
 refine tk 1 36 ?_
 refine tk 2 37 ?_
 refine tk 3 38 ?_
 refine tk 4 39 ?_
 refine tk 5 40 ?_
 refine tk 6 41 ?_
 refine rdy 7 (fun K hK => ?_)
 go_simp
 have bst := ((Below.refl b3 wx).setCell (p := ⟨b3, 4, none⟩) (Nat.le_refl _) (.int .i64 x4)).drew
 refine hK.out _ _ (⟨(bst.cell (p := ⟨w.heap.size, 4, none⟩) hlt).trans s4, (bst.cell (p := ⟨w.heap.size, 8, none⟩) hlt).trans s8, (bst.cell (p := ⟨w.heap.size, 9, none⟩) hlt).trans s9⟩) (fun hHeld => ?_)
 clear bst hK K
 try simp only [Act.put, px1, px2, px3]
 refine tk 8 42 ?_
 refine rdy 9 (fun K hK => ?_)
 go_simp
 have bst := (((Below.refl b3 wx).setCell (p := ⟨b3, 4, none⟩) (Nat.le_refl _) (.int .i64 x4)).setCell (p := ⟨b3, 8, none⟩) (Nat.le_refl _) (.string (T x8))).drew
 refine hK.out _ _ (⟨(bst.cell (p := ⟨w.heap.size, 4, none⟩) hlt).trans s4, (bst.cell (p := ⟨w.heap.size, 8, none⟩) hlt).trans s8, (bst.cell (p := ⟨w.heap.size, 9, none⟩) hlt).trans s9⟩) (fun hHeld => ?_)
 clear bst hK K
 try simp only [Act.put, px1, px2, px3]
 refine tk 10 43 ?_
 refine rdy 11 (fun K hK => ?_)
 go_simp
 have bst := ((((Below.refl b3 wx).setCell (p := ⟨b3, 4, none⟩) (Nat.le_refl _) (.int .i64 x4)).setCell (p := ⟨b3, 8, none⟩) (Nat.le_refl _) (.string (T x8))).setCell (p := ⟨b3, 9, none⟩) (Nat.le_refl _) (.string (T x9))).drew
 refine hK.out _ _ (⟨(bst.cell (p := ⟨w.heap.size, 4, none⟩) hlt).trans s4, (bst.cell (p := ⟨w.heap.size, 8, none⟩) hlt).trans s8, (bst.cell (p := ⟨w.heap.size, 9, none⟩) hlt).trans s9⟩) (fun hHeld => ?_)
 clear bst hK K
 try simp only [Act.put, px1, px2, px3]
 refine wpAnyH_done (by kernel_rfl) ?_ _
 clear hHeld
 have l2 := (Below.heap_setCell ((wx.setCell ⟨b3, 4, none⟩ (.int .i64 x4)).setCell ⟨b3, 8, none⟩ (.string (T x8))) ⟨b3, 9, none⟩ (.string (T x9)) (w.heap.size + 1) (show (w.heap.size + 1) ≠ b3 by omega)).trans ((Below.heap_setCell (wx.setCell ⟨b3, 4, none⟩ (.int .i64 x4)) ⟨b3, 8, none⟩ (.string (T x8)) (w.heap.size + 1) (show (w.heap.size + 1) ≠ b3 by omega)).trans ((Below.heap_setCell wx ⟨b3, 4, none⟩ (.int .i64 x4) (w.heap.size + 1) (show (w.heap.size + 1) ≠ b3 by omega)).trans (J2.out)))
 have L2 := lh (((below_drew1 _).block _ (row_ltP l2)).trans l2)
 clear l2
 have HB2 := lh (((HB1.out.setCell (p := ⟨b3, 4, none⟩) (show w.heap.size ≤ b3 by omega) (.int .i64 x4)).setCell (p := ⟨b3, 8, none⟩) (show w.heap.size ≤ b3 by omega) (.string (T x8))).setCell (p := ⟨b3, 9, none⟩) (show w.heap.size ≤ b3 by omega) (.string (T x9))).drew
 clear s4 d4 f4 s8 d8 f8 s9 d9 f9 HCS HDS
 generalize (((wx.setCell ⟨b3, 4, none⟩ (.int .i64 x4)).setCell ⟨b3, 8, none⟩ (.string (T x8))).setCell ⟨b3, 9, none⟩ (.string (T x9))).drew = w2 at *
 generalize mg0.cs.toArray = A3 at *
 go_wp2_with (first | refine wpList_load_row rfl 48 _ rfl b3 rfl 48 AR (0, 0) _ L3.out HU.out rfl HSZR.out ?_ | refine wpList_store_row rfl 48 _ _ rfl (w.heap.size + 1) AR rfl rfl 48 A3 L2.out HSZR.out HSYR.out HALR.out ?_)
 refine bodyPost_ret (v := .agg AR) (results_cell_row Tryz.results81 _ _ (w.heap.size + 1) 48 AR (0, 0) _ rfl (heap_setRow_same L2.out) HU.out rfl HSZR.out) rfl ⟨rfl, below_setRow HB2.out (by omega) _⟩
theorem only_104 (m : Mg) (hk : m.kind = 104) (hok : m.ok) (w : World) : Calls Tryz.prog 81 #[.agg m.cs.toArray] w fun e w' => e = .returned (.agg (onl m).cs.toArray) ∧ Below w.heap.size w w' := by
 have ho : onl m = ({ mg0 with kind := 104, tag := m.tag, fid := m.fid, authFid := m.authFid, user := m.user, attach := m.attach } : Mg) := by simp [onl, hk]
 rw [ho]
 clear ho
 have h1 := heap_alloc_new w (mgobj m)
 have h2 := heap_alloc_new (w.alloc (mgobj m)) (mgobj mg0)
 rw [show (w.alloc (mgobj m)).heap.size = w.heap.size + 1 from by simp] at h2
 have HB := lh (bnext (alloc_below w (mgobj m)) (alloc_below _ (mgobj mg0)))
 have H1 := lh ((Lib.alloc_old _ (mgobj mg0) _ (by simp)).trans h1)
 have H2 := lh h2
 clear h1 h2
 have HC0 := lh (fun (W : World) (h : W.heap[w.heap.size]? = some (mgobj m)) => show W.cell? ⟨w.heap.size, 0, none⟩ = some (.int .i64 104) ∧ W.cell? ⟨w.heap.size, 1, none⟩ = some (.int .i64 m.tag) from ⟨by rw [Lib.cell_of_heap h, ← hk]; rfl, by rw [Lib.cell_of_heap h]; rfl⟩)
 have HCS := lh (fun (W : World) (h : W.heap[w.heap.size]? = some (mgobj m)) => show W.cell? ⟨w.heap.size, 2, none⟩ = some (.int .i64 m.fid) ∧ W.cell? ⟨w.heap.size, 4, none⟩ = some (.int .i64 m.authFid) ∧ W.cell? ⟨w.heap.size, 8, none⟩ = some (.string (T m.user)) ∧ W.cell? ⟨w.heap.size, 9, none⟩ = some (.string (T m.attach)) from ⟨by rw [Lib.cell_of_heap h]; rfl, by rw [Lib.cell_of_heap h]; rfl, by rw [Lib.cell_of_heap h]; rfl, by rw [Lib.cell_of_heap h]; rfl⟩)
 have HDS := lh (fun (W : World) (b : Nat) (h : W.heap[b]? = some (mgobj ({ mg0 with kind := 104, tag := m.tag } : Mg))) => show (W.cell? ⟨b, 2, none⟩ = some (.int .i64 0) ∧ W.cell? ⟨b, 4, none⟩ = some (.int .i64 0) ∧ W.cell? ⟨b, 8, none⟩ = some (.string (T [])) ∧ W.cell? ⟨b, 9, none⟩ = some (.string (T []))) ∧ (W.frozen? ⟨b, 2, none⟩ = false ∧ W.frozen? ⟨b, 4, none⟩ = false ∧ W.frozen? ⟨b, 8, none⟩ = false ∧ W.frozen? ⟨b, 9, none⟩ = false) ∧ ((((W.setCell ⟨b, 2, none⟩ (.int .i64 m.fid)).setCell ⟨b, 4, none⟩ (.int .i64 m.authFid)).setCell ⟨b, 8, none⟩ (.string (T m.user))).setCell ⟨b, 9, none⟩ (.string (T m.attach))).heap[b]? = some (mgobj ({ mg0 with kind := 104, tag := m.tag, fid := m.fid, authFid := m.authFid, user := m.user, attach := m.attach } : Mg)) from ⟨⟨by rw [Lib.cell_of_heap h]; rfl, by rw [Lib.cell_of_heap h]; rfl, by rw [Lib.cell_of_heap h]; rfl, by rw [Lib.cell_of_heap h]; rfl⟩, ⟨Lib.frozen_of_heap h _, Lib.frozen_of_heap h _, Lib.frozen_of_heap h _, Lib.frozen_of_heap h _⟩, (mg_set (m := ({ mg0 with kind := 104, tag := m.tag, fid := m.fid, authFid := m.authFid, user := m.user } : Mg)) (m' := ({ mg0 with kind := 104, tag := m.tag, fid := m.fid, authFid := m.authFid, user := m.user, attach := m.attach } : Mg)) (mg_set (m := ({ mg0 with kind := 104, tag := m.tag, fid := m.fid, authFid := m.authFid } : Mg)) (m' := ({ mg0 with kind := 104, tag := m.tag, fid := m.fid, authFid := m.authFid, user := m.user } : Mg)) (mg_set (m := ({ mg0 with kind := 104, tag := m.tag, fid := m.fid } : Mg)) (m' := ({ mg0 with kind := 104, tag := m.tag, fid := m.fid, authFid := m.authFid } : Mg)) (mg_set (m := ({ mg0 with kind := 104, tag := m.tag } : Mg)) (m' := ({ mg0 with kind := 104, tag := m.tag, fid := m.fid } : Mg)) h 2 (.int .i64 m.fid) rfl) 4 (.int .i64 m.authFid) rfl) 8 (.string (T m.user)) rfl) 9 (.string (T m.attach)) rfl)⟩)
 have HU := lh (Tryz.underlying48)
 have HSZ0 := lh (mg_size ({ mg0 with kind := 104, tag := m.tag } : Mg))
 have HSZR := lh (mg_size ({ mg0 with kind := 104, tag := m.tag, fid := m.fid, authFid := m.authFid, user := m.user, attach := m.attach } : Mg))
 have HSZM := lh (mg_size m)
 have HSY0 : RowKit.Hid (mg0.cs.toArray.size = ({ mg0 with kind := 104, tag := m.tag } : Mg).cs.toArray.size) := lh rfl
 have HSYR : RowKit.Hid (mg0.cs.toArray.size = ({ mg0 with kind := 104, tag := m.tag, fid := m.fid, authFid := m.authFid, user := m.user, attach := m.attach } : Mg).cs.toArray.size) := lh rfl
 have HAL0 := lh (mg_all ({ mg0 with kind := 104, tag := m.tag } : Mg) ⟨⟨_, _, _, rfl⟩, ⟨_, _, _, rfl⟩⟩)
 have HALR := lh (mg_all ({ mg0 with kind := 104, tag := m.tag, fid := m.fid, authFid := m.authFid, user := m.user, attach := m.attach } : Mg) ⟨⟨_, _, _, rfl⟩, ⟨_, _, _, rfl⟩⟩)
 have HBU : RowKit.Hid (Tryz.prog.built 48 [(0, .int .i64 104), (1, .int .i64 m.tag)] = some ({ mg0 with kind := 104, tag := m.tag } : Mg).cs.toArray) := lh (by kernel_rfl)
 unfold mgobj at *
 clear hk hok
 generalize ({ mg0 with kind := 104, tag := m.tag, fid := m.fid, authFid := m.authFid, user := m.user, attach := m.attach } : Mg).cs.toArray = AR at *
 generalize ({ mg0 with kind := 104, tag := m.tag } : Mg).cs.toArray = A0 at *
 generalize m.cs.toArray = A1 at *
 generalize m.tag = tg at *
 generalize m.fid = x2 at *
 generalize m.authFid = x4 at *
 generalize m.user = x8 at *
 generalize m.attach = x9 at *
 go_enter Tryz.func81, Tryz.ntmps81
 go_upto_region 1 with fail
 generalize hw1 : World.alloc _ _ = w1
 have HB1 := lh (show Below w.heap.size w w1 from by rw [← hw1]; exact HB.out)
 have K1 := lh (show w1.heap[w.heap.size]? = some (.cells A1 48) from by rw [← hw1]; exact H1.out)
 have K2 := lh (show w1.heap[(w.heap.size + 1)]? = some (.cells mg0.cs.toArray 48) from by rw [← hw1]; exact H2.out)
 clear H1 H2 HB hw1
 obtain ⟨c0, c1⟩ := HC0.out _ K1.out
 have hz1 := heap_alloc_new w1 (mgobj mg0)
 go_upto_region 2 with (first | refine wpList_build_at rfl 48 _ rfl A0 (by simp only [List.map_toArray, List.map_cons, List.map_nil]; exact HBU.out) ?_ | refine wpList_store_row rfl 48 _ _ rfl w1.heap.size A0 rfl rfl 48 mg0.cs.toArray hz1 HSZ0.out HSY0.out HAL0.out ?_)
 generalize hwx : World.setRow _ _ _ = wx
 have bx := (show Below w1.heap.size w1 wx from by rw [← hwx]; exact below_setRow (alloc_below w1 _) (Nat.le_refl _) _)
 have K3 := lh (show wx.heap[w1.heap.size]? = some (.cells A0 48) from by rw [← hwx]; exact heap_setRow_same (heap_alloc_new w1 _))
 clear hz1
 have hlt : w.heap.size < w1.heap.size := row_ltP K1.out
 have hlt2 : w.heap.size + 1 < w1.heap.size := row_ltP K2.out
 have K1 := lh ((bx.block _ (row_ltP K1.out)).trans K1.out)
 have K2 := lh ((bx.block _ (row_ltP K2.out)).trans K2.out)
 have HB1 := lh (bnext HB1.out bx)
 clear bx hwx c0 c1
 generalize w1.heap.size = b3 at *
 obtain ⟨c0, c1⟩ := HC0.out _ K1.out
 go_upto_region 11 with fail
 have J1 := lh (((below_drew1 wx).block _ (row_ltP K1.out)).trans K1.out)
 have J2 := lh K2.out
 obtain ⟨s2, s4, s8, s9⟩ := HCS.out _ K1.out
 obtain ⟨⟨d2, d4, d8, d9⟩, ⟨f2, f4, f8, f9⟩, k3⟩ := HDS.out _ _ K3.out
 have L3 := lh ((below_drew1 _).block _ (row_ltP k3) |>.trans k3)
 clear k3 K1 K2 K3 c0 c1
 refine wp_region_held_drew (S := (fun W' => W'.cell? ⟨w.heap.size, 2, none⟩ = some (.int .i64 x2) ∧ W'.cell? ⟨w.heap.size, 4, none⟩ = some (.int .i64 x4) ∧ W'.cell? ⟨w.heap.size, 8, none⟩ = some (.string (T x8)) ∧ W'.cell? ⟨w.heap.size, 9, none⟩ = some (.string (T x9)))) (by kernel_rfl) (HCS.out _ J1.out) (fun hHeld => ?_)
 refine tk 0 46 ?_
 refine tk 1 47 ?_
 refine tk 2 48 ?_
 refine tk 3 49 ?_
 refine tk 4 50 ?_
 refine tk 5 51 ?_
 refine tk 6 52 ?_
 refine tk 7 53 ?_
 refine tk 8 54 ?_
 refine rdy 9 (fun K hK => ?_)
 go_simp
 have bst := ((Below.refl b3 wx).setCell (p := ⟨b3, 2, none⟩) (Nat.le_refl _) (.int .i64 x2)).drew
 refine hK.out _ _ (⟨(bst.cell (p := ⟨w.heap.size, 2, none⟩) hlt).trans s2, (bst.cell (p := ⟨w.heap.size, 4, none⟩) hlt).trans s4, (bst.cell (p := ⟨w.heap.size, 8, none⟩) hlt).trans s8, (bst.cell (p := ⟨w.heap.size, 9, none⟩) hlt).trans s9⟩) (fun hHeld => ?_)
 clear bst hK K
 try simp only [Act.put, px1, px2, px3]
 refine tk 10 55 ?_
 refine rdy 11 (fun K hK => ?_)
 go_simp
 have bst := (((Below.refl b3 wx).setCell (p := ⟨b3, 2, none⟩) (Nat.le_refl _) (.int .i64 x2)).setCell (p := ⟨b3, 4, none⟩) (Nat.le_refl _) (.int .i64 x4)).drew
 refine hK.out _ _ (⟨(bst.cell (p := ⟨w.heap.size, 2, none⟩) hlt).trans s2, (bst.cell (p := ⟨w.heap.size, 4, none⟩) hlt).trans s4, (bst.cell (p := ⟨w.heap.size, 8, none⟩) hlt).trans s8, (bst.cell (p := ⟨w.heap.size, 9, none⟩) hlt).trans s9⟩) (fun hHeld => ?_)
 clear bst hK K
 try simp only [Act.put, px1, px2, px3]
 refine tk 12 56 ?_
 refine rdy 13 (fun K hK => ?_)
 go_simp
 have bst := ((((Below.refl b3 wx).setCell (p := ⟨b3, 2, none⟩) (Nat.le_refl _) (.int .i64 x2)).setCell (p := ⟨b3, 4, none⟩) (Nat.le_refl _) (.int .i64 x4)).setCell (p := ⟨b3, 8, none⟩) (Nat.le_refl _) (.string (T x8))).drew
 refine hK.out _ _ (⟨(bst.cell (p := ⟨w.heap.size, 2, none⟩) hlt).trans s2, (bst.cell (p := ⟨w.heap.size, 4, none⟩) hlt).trans s4, (bst.cell (p := ⟨w.heap.size, 8, none⟩) hlt).trans s8, (bst.cell (p := ⟨w.heap.size, 9, none⟩) hlt).trans s9⟩) (fun hHeld => ?_)
 clear bst hK K
 try simp only [Act.put, px1, px2, px3]
 refine tk 14 57 ?_
 refine rdy 15 (fun K hK => ?_)
 go_simp
 have bst := (((((Below.refl b3 wx).setCell (p := ⟨b3, 2, none⟩) (Nat.le_refl _) (.int .i64 x2)).setCell (p := ⟨b3, 4, none⟩) (Nat.le_refl _) (.int .i64 x4)).setCell (p := ⟨b3, 8, none⟩) (Nat.le_refl _) (.string (T x8))).setCell (p := ⟨b3, 9, none⟩) (Nat.le_refl _) (.string (T x9))).drew
 refine hK.out _ _ (⟨(bst.cell (p := ⟨w.heap.size, 2, none⟩) hlt).trans s2, (bst.cell (p := ⟨w.heap.size, 4, none⟩) hlt).trans s4, (bst.cell (p := ⟨w.heap.size, 8, none⟩) hlt).trans s8, (bst.cell (p := ⟨w.heap.size, 9, none⟩) hlt).trans s9⟩) (fun hHeld => ?_)
 clear bst hK K
 try simp only [Act.put, px1, px2, px3]
 refine wpAnyH_done (by kernel_rfl) ?_ _
 clear hHeld
 have l2 := (Below.heap_setCell (((wx.setCell ⟨b3, 2, none⟩ (.int .i64 x2)).setCell ⟨b3, 4, none⟩ (.int .i64 x4)).setCell ⟨b3, 8, none⟩ (.string (T x8))) ⟨b3, 9, none⟩ (.string (T x9)) (w.heap.size + 1) (show (w.heap.size + 1) ≠ b3 by omega)).trans ((Below.heap_setCell ((wx.setCell ⟨b3, 2, none⟩ (.int .i64 x2)).setCell ⟨b3, 4, none⟩ (.int .i64 x4)) ⟨b3, 8, none⟩ (.string (T x8)) (w.heap.size + 1) (show (w.heap.size + 1) ≠ b3 by omega)).trans ((Below.heap_setCell (wx.setCell ⟨b3, 2, none⟩ (.int .i64 x2)) ⟨b3, 4, none⟩ (.int .i64 x4) (w.heap.size + 1) (show (w.heap.size + 1) ≠ b3 by omega)).trans ((Below.heap_setCell wx ⟨b3, 2, none⟩ (.int .i64 x2) (w.heap.size + 1) (show (w.heap.size + 1) ≠ b3 by omega)).trans (J2.out))))
 have L2 := lh (((below_drew1 _).block _ (row_ltP l2)).trans l2)
 clear l2
 have HB2 := lh ((((HB1.out.setCell (p := ⟨b3, 2, none⟩) (show w.heap.size ≤ b3 by omega) (.int .i64 x2)).setCell (p := ⟨b3, 4, none⟩) (show w.heap.size ≤ b3 by omega) (.int .i64 x4)).setCell (p := ⟨b3, 8, none⟩) (show w.heap.size ≤ b3 by omega) (.string (T x8))).setCell (p := ⟨b3, 9, none⟩) (show w.heap.size ≤ b3 by omega) (.string (T x9))).drew
 clear s2 d2 f2 s4 d4 f4 s8 d8 f8 s9 d9 f9 HCS HDS
 generalize ((((wx.setCell ⟨b3, 2, none⟩ (.int .i64 x2)).setCell ⟨b3, 4, none⟩ (.int .i64 x4)).setCell ⟨b3, 8, none⟩ (.string (T x8))).setCell ⟨b3, 9, none⟩ (.string (T x9))).drew = w2 at *
 generalize mg0.cs.toArray = A3 at *
 go_wp2_with (first | refine wpList_load_row rfl 48 _ rfl b3 rfl 48 AR (0, 0) _ L3.out HU.out rfl HSZR.out ?_ | refine wpList_store_row rfl 48 _ _ rfl (w.heap.size + 1) AR rfl rfl 48 A3 L2.out HSZR.out HSYR.out HALR.out ?_)
 refine bodyPost_ret (v := .agg AR) (results_cell_row Tryz.results81 _ _ (w.heap.size + 1) 48 AR (0, 0) _ rfl (heap_setRow_same L2.out) HU.out rfl HSZR.out) rfl ⟨rfl, below_setRow HB2.out (by omega) _⟩
end Go.Proofs.YtfibaopngpfmjaaGreatDoor
