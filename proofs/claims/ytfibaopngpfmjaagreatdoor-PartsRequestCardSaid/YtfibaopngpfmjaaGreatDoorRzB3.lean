/- Checks of a TClunk. Conditions: those that each theorem names. -/
import Derived.Test.YtfibaopngpfmjaaGreatDoorRzB2
import Derived.Laws.Rows
import Derived.Laws.Tables
set_option linter.unusedVariables false
set_option linter.unusedSimpArgs false
set_option maxRecDepth 100000
set_option maxHeartbeats 4000000
namespace Go.Proofs.YtfibaopngpfmjaaGreatDoor
open Go.RowKit Go.Proofs
/-- TClunk of a file. -/
def clm (t f : Int) : Mg := ⟨120, t, f, 0, 0, 0, 0, [], [], [], .slice none 0 0, .slice none 0 0, 0, 0, 0, 0, 0, 0, [], 0, 0, [], 0, 0, 0, 0, 0, 0, 0, 0, 0, [], [], [], [], 0, 0, 0, []⟩
def mg0 : Mg := ⟨0, 0, 0, 0, 0, 0, 0, [], [], [], .slice none 0 0, .slice none 0 0, 0, 0, 0, 0, 0, 0, [], 0, 0, [], 0, 0, 0, 0, 0, 0, 0, 0, 0, [], [], [], [], 0, 0, 0, []⟩
theorem clm_val (t f : Int) : Value.agg (clm t f).cs.toArray = .agg #[.int .i64 120, .int .i64 t, .int .i64 f, .int .i64 0, .int .i64 0, .int .i64 0, .int .i64 0, .string (T []), .string (T []), .string (T []), .slice none 0 0, .slice none 0 0, .int .i64 0, .int .i64 0, .int .i64 0, .int .i64 0, .int .i64 0, .int .i64 0, .string (T []), .int .i64 0, .int .i64 0, .string (T []), .int .i64 0, .int .i64 0, .int .i64 0, .int .i64 0, .int .i64 0, .int .i64 0, .int .i64 0, .int .i64 0, .int .i64 0, .string (T []), .string (T []), .string (T []), .string (T []), .int .i64 0, .int .i64 0, .int .i64 0, .string (T [])] := rfl
theorem clm_ok (t f : Int) : (clm t f).ok := ⟨⟨_, _, _, rfl⟩, ⟨_, _, _, rfl⟩⟩
theorem mg_all (m : Mg) (h : m.ok) : m.cs.toArray.all (·.oneCell') = true := all_oneCell_toArray (m.one h)
theorem mg_size (m : Mg) : (Tryz.prog.info? 48).map (·.size) = some m.cs.toArray.size := by
 rw [show m.cs.toArray.size = 39 from rfl]; exact msg_size
/-- One field stored anew. -/
theorem mg_set {W : World} {g : Nat} {m m' : Mg} (h : W.heap[g]? = some (mgobj m)) (i : Nat) (v : Value) (e : m.cs.toArray.setIfInBounds i v = m'.cs.toArray) : (W.setCell ⟨g, i, none⟩ v).heap[g]? = some (mgobj m') := by
 have := heap_setCell_same W g i _ _ v h
 rw [this, e]
theorem heap_setRow_same {W : World} {g : Nat} {cs cs' : Array Value} {t : TypeId} {fr : Nat × Nat} (h : W.heap[g]? = some (.cells cs t fr)) : (W.setRow g cs').heap[g]? = some (.cells cs' t fr) := by
 simp [World.setRow, Array.getElem?_modify, h]
theorem grown_setRow {W : World} {g : Nat} (cs : Array Value) : W.grownBy (W.setRow g cs) (some g) :=
 ⟨rfl, rfl, rfl, by simp [World.setRow], fun i hi hn => by
  have : g ≠ i := fun e => hn (by rw [e])
  simp [World.setRow, Array.getElem?_modify, this]⟩
theorem below_setRow {B : Nat} {w W : World} {g : Nat} (h : Below B w W) (hg : B ≤ g) (cs : Array Value) : Below B w (W.setRow g cs) :=
 h.trans ⟨rfl, rfl, rfl, by simp [World.setRow], fun i hi => by
  have : g ≠ i := by omega
  simp [World.setRow, Array.getElem?_modify, this]⟩
theorem name_clunk (w : World) : Calls Tryz.prog 34 #[.int .i64 120] w fun e w' => e = .returned (.string (T [84, 67, 108, 117, 110, 107])) ∧ Below w.heap.size w w' := by
 have HB := lh (fun o => alloc_below w o)
 go_enter Tryz.func34, Tryz.ntmps34
 go_wp2_with fail
 go_ret
 exact ⟨rfl, HB.out _⟩
theorem tagged_clunk (t f : Int) (h0 : 0 ≤ t) (h1 : t ≤ 65534) (w : World) : Calls Tryz.prog 79 #[.agg (clm t f).cs.toArray] w fun e w' => e = .returned (.bool true) ∧ Below w.heap.size w w' := by
 have HB := lh (fun o => alloc_below w o)
 rw [clm_val]
 go_enter Tryz.func79, Tryz.ntmps79
 go_wp2_with fail
 go_ret
 exact ⟨rfl, HB.out _⟩
theorem fid_any (f : Int) (h0 : 0 ≤ f) (h1 : f ≤ 4294967294) (w : World) : Calls Tryz.prog 140 #[.int .i64 f] w fun e w' => e = .returned (.int .i64 0) ∧ w' = w := by
 go_enter Tryz.func140, Tryz.ntmps140
 go_wp2
 go_ret
 exact ⟨rfl, rfl⟩
theorem fields_clunk (t f : Int) (h0 : 0 ≤ f) (h1 : f ≤ 4294967294) (w : World) : Calls Tryz.prog 82 #[.agg (clm t f).cs.toArray] w fun e w' => e = .returned (.int .i64 0) ∧ Below w.heap.size w w' := by
 have HB := lh (fun o => alloc_below w o)
 have HF := lh (fun W => fid_any f h0 h1 W)
 clear h0 h1
 rw [clm_val]
 go_enter Tryz.func82, Tryz.ntmps82
 go_wp2_with fail
 (with_reducible refine (HF.out _).mono ?_); rintro e wx ⟨rfl, rfl⟩
 go_wp2_with fail
 go_ret
 exact ⟨rfl, HB.out _⟩
theorem rest_clunk (t f : Int) (w : World) : Calls Tryz.prog 136 #[.agg (clm t f).cs.toArray, .agg (clm t 0).cs.toArray] w fun e w' => e = .returned (.agg (clm t f).cs.toArray) ∧ Below w.heap.size w w' := by
 have h1 := heap_alloc_new w (mgobj (clm t f))
 have h2 := heap_alloc_new (w.alloc (mgobj (clm t f))) (mgobj (clm t 0))
 have h3 := heap_alloc_new ((w.alloc (mgobj (clm t f))).alloc (mgobj (clm t 0))) (mgobj mg0)
 rw [show (w.alloc (mgobj (clm t f))).heap.size = w.heap.size + 1 from by simp] at h2
 rw [show ((w.alloc (mgobj (clm t f))).alloc (mgobj (clm t 0))).heap.size = w.heap.size + 1 + 1 from by simp] at h3
 have HB := lh (bnext (bnext (alloc_below w (mgobj (clm t f))) (alloc_below _ (mgobj (clm t 0)))) (alloc_below _ (mgobj mg0)))
 have H1 := lh ((Lib.alloc_old _ (mgobj mg0) _ (by simp; omega)).trans ((Lib.alloc_old _ (mgobj (clm t 0)) _ (by simp)).trans h1))
 have H2 := lh ((Lib.alloc_old _ (mgobj mg0) _ (by simp)).trans h2)
 have H3 := lh h3
 clear h1 h2 h3
 have hF : (clm t 0).cs.toArray.setIfInBounds 2 (.int .i64 f) = (clm t f).cs.toArray := rfl
 have HC := lh (show ∀ W : World, W.heap[w.heap.size]? = some (mgobj (clm t f)) → W.cell? ⟨w.heap.size, 0, none⟩ = some (.int .i64 120) ∧ W.cell? ⟨w.heap.size, 2, none⟩ = some (.int .i64 f) from fun W h => ⟨by rw [Lib.cell_of_heap h]; rfl, by rw [Lib.cell_of_heap h]; rfl⟩)
 have HD := lh (show ∀ W : World, W.heap[w.heap.size + 1]? = some (mgobj (clm t 0)) → (W.cell? ⟨w.heap.size + 1, 2, none⟩ = some (.int .i64 0) ∧ W.frozen? ⟨w.heap.size + 1, 2, none⟩ = false) ∧ (W.setCell ⟨w.heap.size + 1, 2, none⟩ (.int .i64 f)).heap[w.heap.size + 1]? = some (mgobj (clm t f)) from fun W h => ⟨⟨by rw [Lib.cell_of_heap h]; rfl, Lib.frozen_of_heap h _⟩, mg_set h 2 _ hF⟩)
 have HU := lh (Tryz.underlying48)
 have HSZ := lh (mg_size (clm t f))
 have HSY : RowKit.Hid (mg0.cs.toArray.size = (clm t f).cs.toArray.size) := lh rfl
 have HAL := lh (mg_all (clm t f) (clm_ok t f))
 unfold mgobj at *
 clear hF
 generalize (clm t f).cs.toArray = A1 at *
 generalize (clm t 0).cs.toArray = A2 at *
 go_enter Tryz.func136, Tryz.ntmps136
 go_upto_region 1 with fail
 generalize hw1 : World.alloc _ _ = w1
 have HB1 := lh (show Below w.heap.size w w1 from by rw [← hw1]; exact HB.out)
 have K1 := lh (show w1.heap[w.heap.size]? = some (.cells A1 48) from by rw [← hw1]; exact H1.out)
 have K2 := lh (show w1.heap[w.heap.size + 1]? = some (.cells A2 48) from by rw [← hw1]; exact H2.out)
 have K3 := lh (show w1.heap[w.heap.size + 1 + 1]? = some (.cells mg0.cs.toArray 48) from by rw [← hw1]; exact H3.out)
 clear H1 H2 H3 HB hw1
 generalize mg0.cs.toArray = A3 at *
 obtain ⟨c0, c2⟩ := HC.out _ K1.out
 obtain ⟨⟨d2, f2⟩, k2⟩ := HD.out _ K2.out
 have L2 := lh k2
 have L3 := lh ((Below.heap_setCell w1 ⟨w.heap.size + 1, 2, none⟩ (.int .i64 f) (w.heap.size + 1 + 1) (show w.heap.size + 1 + 1 ≠ w.heap.size + 1 by omega)).trans K3.out)
 have HB2 := lh (HB1.out.setCell (p := ⟨w.heap.size + 1, 2, none⟩) (show w.heap.size ≤ w.heap.size + 1 by omega) (.int .i64 f))
 clear k2
 go_upto_region 24 with fail
 generalize hw2 : World.setCell _ _ _ = w2 at *
 clear hw2 c0 c2 d2 f2 HB1 K1 K2 K3 HC HD
 go_wp2_with (first | refine wpList_load_row rfl 48 _ rfl (w.heap.size + 1) rfl 48 A1 (0, 0) _ L2.out HU.out rfl HSZ.out ?_ | refine wpList_store_row rfl 48 _ _ rfl (w.heap.size + 1 + 1) A1 rfl rfl 48 A3 L3.out HSZ.out HSY.out HAL.out ?_)
 refine bodyPost_ret (v := .agg A1) (results_cell_row Tryz.results136 _ _ (w.heap.size + 1 + 1) 48 A1 (0, 0) _ rfl (heap_setRow_same L3.out) HU.out rfl HSZ.out) rfl ⟨rfl, below_setRow HB2.out (by omega) _⟩
theorem only_clunk (t f : Int) (w : World) : Calls Tryz.prog 81 #[.agg (clm t f).cs.toArray] w fun e w' => e = .returned (.agg (clm t f).cs.toArray) ∧ Below w.heap.size w w' := by
 have h1 := heap_alloc_new w (mgobj (clm t f))
 have h2 := heap_alloc_new (w.alloc (mgobj (clm t f))) (mgobj mg0)
 rw [show (w.alloc (mgobj (clm t f))).heap.size = w.heap.size + 1 from by simp] at h2
 have HB := lh (bnext (alloc_below w (mgobj (clm t f))) (alloc_below _ (mgobj mg0)))
 have H1 := lh ((Lib.alloc_old _ (mgobj mg0) _ (by simp)).trans h1)
 have H2 := lh h2
 clear h1 h2
 have HR := lh (fun W => rest_clunk t f W)
 have HC := lh (show ∀ W : World, W.heap[w.heap.size]? = some (mgobj (clm t f)) → W.cell? ⟨w.heap.size, 0, none⟩ = some (.int .i64 120) ∧ W.cell? ⟨w.heap.size, 1, none⟩ = some (.int .i64 t) from fun W h => ⟨by rw [Lib.cell_of_heap h]; rfl, by rw [Lib.cell_of_heap h]; rfl⟩)
 have HU := lh (Tryz.underlying48)
 have HSZ := lh (mg_size (clm t f))
 have HSZ0 := lh (mg_size (clm t 0))
 have HSY : RowKit.Hid (mg0.cs.toArray.size = (clm t f).cs.toArray.size) := lh rfl
 have HAL := lh (mg_all (clm t f) (clm_ok t f))
 unfold mgobj at *
 generalize (clm t f).cs.toArray = A1 at *
 go_enter Tryz.func81, Tryz.ntmps81
 go_upto_region 1 with fail
 generalize hw1 : World.alloc _ _ = w1
 have HB1 := lh (show Below w.heap.size w w1 from by rw [← hw1]; exact HB.out)
 have K1 := lh (show w1.heap[w.heap.size]? = some (.cells A1 48) from by rw [← hw1]; exact H1.out)
 have K2 := lh (show w1.heap[w.heap.size + 1]? = some (.cells mg0.cs.toArray 48) from by rw [← hw1]; exact H2.out)
 clear H1 H2 HB hw1
 obtain ⟨c0, c1⟩ := HC.out _ K1.out
 have HY0 := lh (mg_all (clm t 0) (clm_ok t 0))
 have hz1 := heap_alloc_new w1 (mgobj mg0)
 go_upto_region 2 with (refine wpList_store_row rfl 48 _ _ rfl w1.heap.size (clm t 0).cs.toArray rfl rfl 48 mg0.cs.toArray hz1 HSZ0.out rfl HY0.out ?_)
 generalize hwx : World.setRow _ _ _ = wx
 have bx := (show Below w1.heap.size w1 wx from by rw [← hwx]; exact below_setRow (alloc_below w1 _) (Nat.le_refl _) _)
 have K3 := lh (show wx.heap[w1.heap.size]? = some (.cells (clm t 0).cs.toArray 48) from by rw [← hwx]; exact heap_setRow_same (heap_alloc_new w1 _))
 clear hz1
 have K1 := lh ((bx.block _ (row_ltP K1.out)).trans K1.out)
 have K2 := lh ((bx.block _ (row_ltP K2.out)).trans K2.out)
 have HB1 := lh (bnext HB1.out bx)
 clear bx hwx c0 c1
 generalize mg0.cs.toArray = A3 at *
 generalize (clm t 0).cs.toArray = A2 at *
 generalize w1.heap.size = b3 at *
 obtain ⟨c0, c1⟩ := HC.out _ K1.out
 go_wp2_with (first | refine wpList_load_row rfl 48 _ rfl (w.heap.size) rfl 48 A1 (0, 0) _ K1.out HU.out rfl HSZ.out ?_ | refine wpList_load_row rfl 48 _ rfl b3 rfl 48 A2 (0, 0) _ K3.out HU.out rfl HSZ0.out ?_)
 (with_reducible refine (HR.out _).mono ?_); rintro e w2 ⟨rfl, b2⟩
 have L2 := lh ((b2.block _ (row_ltP K2.out)).trans K2.out)
 have HB2 := lh (bnext HB1.out b2)
 clear b2 HR HC K1 K2 K3 HB1 c0 c1
 go_wp2_with (refine wpList_store_row rfl 48 _ _ rfl (w.heap.size + 1) A1 rfl rfl 48 A3 L2.out HSZ.out HSY.out HAL.out ?_)
 refine bodyPost_ret (v := .agg A1) (results_cell_row Tryz.results81 _ _ (w.heap.size + 1) 48 A1 (0, 0) _ rfl (heap_setRow_same L2.out) HU.out rfl HSZ.out) rfl ⟨rfl, below_setRow HB2.out (by omega) _⟩
theorem check_clunk (t f : Int) (ht0 : 0 ≤ t) (ht1 : t ≤ 65534) (hf0 : 0 ≤ f) (hf1 : f ≤ 4294967294) (w : World) : Calls Tryz.prog 35 #[.agg (clm t f).cs.toArray] w fun e w' => e = .returned (.int .i64 0) ∧ Below w.heap.size w w' := by
 have HB := lh (alloc_below w (mgobj (clm t f)))
 have H1 := lh (heap_alloc_new w (mgobj (clm t f)))
 have HNM := lh name_clunk
 have HTG := lh (fun W => tagged_clunk t f ht0 ht1 W)
 have HON := lh (fun W => only_clunk t f W)
 have HSM := lh (fun W => same_self (clm t f) rfl rfl W)
 have HFL := lh (fun W => fields_clunk t f hf0 hf1 W)
 have HC := lh (show ∀ W : World, W.heap[w.heap.size]? = some (mgobj (clm t f)) → W.cell? ⟨w.heap.size, 0, none⟩ = some (.int .i64 120) ∧ W.rangeAt w.heap.size 0 (clm t f).cs from fun W h => ⟨by rw [Lib.cell_of_heap h]; rfl, rng_of h⟩)
 have HU := lh (Tryz.underlying48)
 have HSZ := lh (mg_size (clm t f))
 have HSL : RowKit.Hid ((Tryz.prog.info? 48).map (·.size) = some (clm t f).cs.length) := lh (by kernel_rfl)
 unfold mgobj at *
 clear ht0 ht1 hf0 hf1
 generalize (clm t f).cs = cs at *
 go_enter Tryz.func35, Tryz.ntmps35
 go_upto_region 1 with fail
 generalize World.alloc _ _ = w1 at *
 obtain ⟨c0, _⟩ := HC.out _ H1.out
 go_wp2_with fail
 (with_reducible refine (HNM.out _).mono ?_); rintro e w2 ⟨rfl, b2⟩
 have H2 := lh ((b2.block _ (row_ltP H1.out)).trans H1.out)
 have HB2 := lh (bnext HB.out b2)
 clear b2 c0 H1 HB
 go_wp2_with (refine wpList_load_row rfl 48 _ rfl w.heap.size rfl 48 cs.toArray (0, 0) _ H2.out HU.out rfl HSZ.out ?_)
 (with_reducible refine (HTG.out _).mono ?_); rintro e w3 ⟨rfl, b3⟩
 have H3 := lh ((b3.block _ (row_ltP H2.out)).trans H2.out)
 have HB3 := lh (bnext HB2.out b3)
 clear b3 H2 HB2
 go_wp2_with fail
 have H4 := lh (((below_drew1 w3).block _ (row_ltP H3.out)).trans H3.out)
 have HB4 := lh (bnext HB3.out (below_drew1 w3))
 have hr4 := (HC.out _ H4.out).2
 refine wp_region_held_drew (S := (fun W' => W'.rangeAt w.heap.size 0 cs)) (by kernel_rfl) hr4 (fun hHeld => ?_)
 refine tkY (v := .agg cs.toArray) 0 13 rfl (yieldsIf_load_mid (by rfl) 48 (.tmp 1) rfl w.heap.size 0 (by rfl) cs _ (fun _ h => h) HU.out rfl HSL.out) ?_
 refine tkY (v := .agg cs.toArray) 2 15 rfl (yieldsIf_load_mid (by rfl) 48 (.tmp 1) rfl w.heap.size 0 (by rfl) cs _ (fun _ h => h) HU.out rfl HSL.out) ?_
 refine rdy 1 (fun K hK => ?_)
 go_simp
 go_wp2_with (go_at_call 81; (with_reducible refine (HON.out _).mono ?_); rintro e w5 ⟨rfl, b5⟩)
 have H5 := lh ((b5.block _ (row_ltP H4.out)).trans H4.out)
 have HB5 := lh (bnext HB4.out b5)
 clear b5
 refine hK.out _ _ (HC.out _ H5.out).2 (fun hHeld => ?_)
 clear hK K
 try simp only [Act.put, px1, px2, px3]
 refine rdy 3 (fun K hK => ?_)
 go_simp
 go_wp2_with (go_at_call 80; (with_reducible refine (HSM.out _).mono ?_); rintro e w6 ⟨rfl, b6⟩)
 have H6 := lh ((b6.block _ (row_ltP H5.out)).trans H5.out)
 have HB6 := lh (bnext HB5.out b6)
 clear b6
 refine hK.out _ _ (HC.out _ H6.out).2 (fun hHeld => ?_)
 clear hK K
 try simp only [Act.put, px1, px2, px3]
 refine tk 4 17 ?_
 refine tk 5 12 ?_
 refine wpAnyH_done (by kernel_rfl) ?_ _
 go_wp2_with (refine wpList_load_row rfl 48 _ rfl w.heap.size rfl 48 cs.toArray (0, 0) _ H6.out HU.out rfl HSZ.out ?_)
 (with_reducible refine (HFL.out _).mono ?_); rintro e w7 ⟨rfl, b7⟩
 have HB7 := lh (bnext HB6.out b7)
 clear b7
 go_wp2_with fail
 go_ret
 exact ⟨rfl, HB7.out⟩
end Go.Proofs.YtfibaopngpfmjaaGreatDoor
