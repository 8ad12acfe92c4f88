/- A TClunk through the client and the wire; partsAwake; the card PartsWords. Merged of RqRest RqOnly RqCheck RqWire RqPut RqCl RqOwn RqStart RqRead RqGet RqAwake CardPartsWords. -/
import Derived.Test.YtfibaopngpfmjaaGreatDoorRqClunk
import Derived.Test.YtfibaopngpfmjaaGreatDoorOctPut
import Derived.Test.YtfibaopngpfmjaaGreatDoorSkips
import Derived.OwnWalk
import Derived.Test.YtfibaopngpfmjaaGreatDoorAppAny
import Derived.Great.Walk
import Derived.Test.YtfibaopngpfmjaaGreatDoorOctGet
import Derived.Test.YtfibaopngpfmjaaGreatDoorPxWords
import Derived.Test.YtfibaopngpfmjaaGreatDoorCards
import Derived.Test.YtfibaopngpfmjaaGreatDoorTie
import Derived.ProofKit
import Derived.OpenShut
import Derived.ShutString
import Derived.ChangeOld
import Derived.Below
import Derived.Deep.DeepHandedRow
import Derived.Deep.DeepLaidRun
import Derived.Shelf.Vars
set_option linter.unusedVariables false
set_option linter.unusedSimpArgs false
namespace Go.Proofs.YtfibaopngpfmjaaGreatDoor
open Go.RowKit Go.Proofs
set_option maxRecDepth 100000 in
set_option maxHeartbeats 4000000 in
theorem rest_clunk (t f : Int) (w : World) : Calls Tryz.prog 136 #[.agg (clm t f).cs.toArray, .agg (clm t 0).cs.toArray] w fun e w' => e = .returned (.agg (clm t f).cs.toArray) ∧ Below w.heap.size w w' := by
  have h1 := heap_alloc_new w (mgobj (clm t f))
  have h2 := heap_alloc_new (w.alloc (mgobj (clm t f))) (mgobj (clm t 0))
  have h3 := heap_alloc_new ((w.alloc (mgobj (clm t f))).alloc (mgobj (clm t 0))) (mgobj mg0)
  rw [show (w.alloc (mgobj (clm t f))).heap.size = w.heap.size + 1 from by simp] at h2
  rw [show ((w.alloc (mgobj (clm t f))).alloc (mgobj (clm t 0))).heap.size = w.heap.size + 1 + 1 from by simp] at h3
  have HB := Lib.hid (bnext (bnext (alloc_below w (mgobj (clm t f))) (alloc_below _ (mgobj (clm t 0)))) (alloc_below _ (mgobj mg0)))
  have H1 := Lib.hid ((Lib.alloc_old _ (mgobj mg0) _ (by simp; omega)).trans ((Lib.alloc_old _ (mgobj (clm t 0)) _ (by simp)).trans h1))
  have H2 := Lib.hid ((Lib.alloc_old _ (mgobj mg0) _ (by simp)).trans h2)
  have H3 := Lib.hid h3
  clear h1 h2 h3
  have hF : (clm t 0).cs.toArray.setIfInBounds 2 (.int .i64 f) = (clm t f).cs.toArray := rfl
  have HC := Lib.hid (show ∀ W : World, W.heap[w.heap.size]? = some (mgobj (clm t f)) → W.cell? ⟨w.heap.size, 0, none⟩ = some (.int .i64 120) ∧ W.cell? ⟨w.heap.size, 2, none⟩ = some (.int .i64 f) from fun W h => ⟨by rw [Lib.cell_of_heap h]; rfl, by rw [Lib.cell_of_heap h]; rfl⟩)
  have HD := Lib.hid (show ∀ W : World, W.heap[w.heap.size + 1]? = some (mgobj (clm t 0)) → (W.cell? ⟨w.heap.size + 1, 2, none⟩ = some (.int .i64 0) ∧ W.frozen? ⟨w.heap.size + 1, 2, none⟩ = false) ∧ (W.setCell ⟨w.heap.size + 1, 2, none⟩ (.int .i64 f)).heap[w.heap.size + 1]? = some (mgobj (clm t f)) from fun W h => ⟨⟨by rw [Lib.cell_of_heap h]; rfl, Lib.frozen_of_heap h _⟩, mg_set h 2 _ hF⟩)
  have HU := Lib.hid (Tryz.underlying48)
  have HSZ := Lib.hid (mg_size (clm t f))
  have HSY : RowKit.Hid (mg0.cs.toArray.size = (clm t f).cs.toArray.size) := Lib.hid rfl
  have HAL := Lib.hid (mg_all (clm t f) (clm_ok t f))
  unfold mgobj at *
  clear hF
  generalize (clm t f).cs.toArray = A1 at *
  generalize (clm t 0).cs.toArray = A2 at *
  go_enter Tryz.func136, Tryz.ntmps136
  go_upto_region 1 with fail
  generalize hw1 : World.alloc _ _ = w1
  have HB1 := Lib.hid (show Below w.heap.size w w1 from by rw [← hw1]; exact HB.out)
  have K1 := Lib.hid (show w1.heap[w.heap.size]? = some (.cells A1 48) from by rw [← hw1]; exact H1.out)
  have K2 := Lib.hid (show w1.heap[w.heap.size + 1]? = some (.cells A2 48) from by rw [← hw1]; exact H2.out)
  have K3 := Lib.hid (show w1.heap[w.heap.size + 1 + 1]? = some (.cells mg0.cs.toArray 48) from by rw [← hw1]; exact H3.out)
  clear H1 H2 H3 HB hw1
  generalize mg0.cs.toArray = A3 at *
  obtain ⟨c0, c2⟩ := HC.out _ K1.out
  obtain ⟨⟨d2, f2⟩, k2⟩ := HD.out _ K2.out
  have L2 := Lib.hid k2
  have L3 := Lib.hid ((Below.heap_setCell w1 ⟨w.heap.size + 1, 2, none⟩ (.int .i64 f) (w.heap.size + 1 + 1) (show w.heap.size + 1 + 1 ≠ w.heap.size + 1 by omega)).trans K3.out)
  have HB2 := Lib.hid (HB1.out.setCell (p := ⟨w.heap.size + 1, 2, none⟩) (show w.heap.size ≤ w.heap.size + 1 by omega) (.int .i64 f))
  clear k2
  go_upto_region 24 with fail
  generalize hw2 : World.setCell _ _ _ = w2 at *
  clear hw2 c0 c2 d2 f2 HB1 K1 K2 K3 HC HD
  go_wp2_with (first | refine wpList_load_row rfl 48 _ rfl (w.heap.size + 1) rfl 48 A1 (0, 0) _ L2.out HU.out rfl HSZ.out ?_ | refine wpList_store_row rfl 48 _ _ rfl (w.heap.size + 1 + 1) A1 rfl rfl 48 A3 L3.out HSZ.out HSY.out HAL.out ?_)
  refine bodyPost_ret (v := .agg A1) (results_cell_row Tryz.results136 _ _ (w.heap.size + 1 + 1) 48 A1 (0, 0) _ rfl (heap_setRow_same L3.out) HU.out rfl HSZ.out) rfl ⟨rfl, below_setRow HB2.out (by omega) _⟩
end Go.Proofs.YtfibaopngpfmjaaGreatDoor
set_option linter.unusedVariables false
set_option linter.unusedSimpArgs false
namespace Go.Proofs.YtfibaopngpfmjaaGreatDoor
open Go.RowKit Go.Proofs
set_option maxRecDepth 100000 in
set_option maxHeartbeats 4000000 in
theorem only_clunk (t f : Int) (w : World) : Calls Tryz.prog 81 #[.agg (clm t f).cs.toArray] w fun e w' => e = .returned (.agg (clm t f).cs.toArray) ∧ Below w.heap.size w w' := by
  have h1 := heap_alloc_new w (mgobj (clm t f))
  have h2 := heap_alloc_new (w.alloc (mgobj (clm t f))) (mgobj mg0)
  rw [show (w.alloc (mgobj (clm t f))).heap.size = w.heap.size + 1 from by simp] at h2
  have HB := Lib.hid (bnext (alloc_below w (mgobj (clm t f))) (alloc_below _ (mgobj mg0)))
  have H1 := Lib.hid ((Lib.alloc_old _ (mgobj mg0) _ (by simp)).trans h1)
  have H2 := Lib.hid h2
  clear h1 h2
  have HR := Lib.hid (fun W => rest_clunk t f W)
  have HC := Lib.hid (show ∀ W : World, W.heap[w.heap.size]? = some (mgobj (clm t f)) → W.cell? ⟨w.heap.size, 0, none⟩ = some (.int .i64 120) ∧ W.cell? ⟨w.heap.size, 1, none⟩ = some (.int .i64 t) from fun W h => ⟨by rw [Lib.cell_of_heap h]; rfl, by rw [Lib.cell_of_heap h]; rfl⟩)
  have HU := Lib.hid (Tryz.underlying48)
  have HSZ := Lib.hid (mg_size (clm t f))
  have HSZ0 := Lib.hid (mg_size (clm t 0))
  have HSY : RowKit.Hid (mg0.cs.toArray.size = (clm t f).cs.toArray.size) := Lib.hid rfl
  have HAL := Lib.hid (mg_all (clm t f) (clm_ok t f))
  unfold mgobj at *
  generalize (clm t f).cs.toArray = A1 at *
  go_enter Tryz.func81, Tryz.ntmps81
  go_upto_region 1 with fail
  generalize hw1 : World.alloc _ _ = w1
  have HB1 := Lib.hid (show Below w.heap.size w w1 from by rw [← hw1]; exact HB.out)
  have K1 := Lib.hid (show w1.heap[w.heap.size]? = some (.cells A1 48) from by rw [← hw1]; exact H1.out)
  have K2 := Lib.hid (show w1.heap[w.heap.size + 1]? = some (.cells mg0.cs.toArray 48) from by rw [← hw1]; exact H2.out)
  clear H1 H2 HB hw1
  obtain ⟨c0, c1⟩ := HC.out _ K1.out
  have HY0 := Lib.hid (mg_all (clm t 0) (clm_ok t 0))
  have hz1 := heap_alloc_new w1 (mgobj mg0)
  go_upto_region 2 with (refine wpList_store_row rfl 48 _ _ rfl w1.heap.size (clm t 0).cs.toArray rfl rfl 48 mg0.cs.toArray hz1 HSZ0.out rfl HY0.out ?_)
  generalize hwx : World.setRow _ _ _ = wx
  have bx := (show Below w1.heap.size w1 wx from by rw [← hwx]; exact below_setRow (alloc_below w1 _) (Nat.le_refl _) _)
  have K3 := Lib.hid (show wx.heap[w1.heap.size]? = some (.cells (clm t 0).cs.toArray 48) from by rw [← hwx]; exact heap_setRow_same (heap_alloc_new w1 _))
  clear hz1
  have K1 := Lib.hid ((bx.block _ (row_ltP K1.out)).trans K1.out)
  have K2 := Lib.hid ((bx.block _ (row_ltP K2.out)).trans K2.out)
  have HB1 := Lib.hid (bnext HB1.out bx)
  clear bx hwx c0 c1
  generalize mg0.cs.toArray = A3 at *
  generalize (clm t 0).cs.toArray = A2 at *
  generalize w1.heap.size = b3 at *
  obtain ⟨c0, c1⟩ := HC.out _ K1.out
  go_wp2_with (first | refine wpList_load_row rfl 48 _ rfl (w.heap.size) rfl 48 A1 (0, 0) _ K1.out HU.out rfl HSZ.out ?_ | refine wpList_load_row rfl 48 _ rfl b3 rfl 48 A2 (0, 0) _ K3.out HU.out rfl HSZ0.out ?_)
  (with_reducible refine (HR.out _).mono ?_); rintro e w2 ⟨rfl, b2⟩
  have L2 := Lib.hid ((b2.block _ (row_ltP K2.out)).trans K2.out)
  have HB2 := Lib.hid (bnext HB1.out b2)
  clear b2 HR HC K1 K2 K3 HB1 c0 c1
  go_wp2_with (refine wpList_store_row rfl 48 _ _ rfl (w.heap.size + 1) A1 rfl rfl 48 A3 L2.out HSZ.out HSY.out HAL.out ?_)
  refine bodyPost_ret (v := .agg A1) (results_cell_row Tryz.results81 _ _ (w.heap.size + 1) 48 A1 (0, 0) _ rfl (heap_setRow_same L2.out) HU.out rfl HSZ.out) rfl ⟨rfl, below_setRow HB2.out (by omega) _⟩
end Go.Proofs.YtfibaopngpfmjaaGreatDoor
set_option linter.unusedVariables false
set_option linter.unusedSimpArgs false
namespace Go.Proofs.YtfibaopngpfmjaaGreatDoor
open Go.RowKit Go.Proofs
set_option maxRecDepth 100000 in
set_option maxHeartbeats 4000000 in
theorem check_clunk (t f : Int) (ht0 : 0 ≤ t) (ht1 : t ≤ 65534) (hf0 : 0 ≤ f) (hf1 : f ≤ 4294967294) (w : World) : Calls Tryz.prog 35 #[.agg (clm t f).cs.toArray] w fun e w' => e = .returned (.int .i64 0) ∧ Below w.heap.size w w' := by
  have HB := Lib.hid (alloc_below w (mgobj (clm t f)))
  have H1 := Lib.hid (heap_alloc_new w (mgobj (clm t f)))
  have HNM := Lib.hid name_clunk
  have HTG := Lib.hid (fun W => tagged_clunk t f ht0 ht1 W)
  have HON := Lib.hid (fun W => only_clunk t f W)
  have HSM := Lib.hid (fun W => same_self (clm t f) rfl rfl W)
  have HFL := Lib.hid (fun W => fields_clunk t f hf0 hf1 W)
  have HC := Lib.hid (show ∀ W : World, W.heap[w.heap.size]? = some (mgobj (clm t f)) → W.cell? ⟨w.heap.size, 0, none⟩ = some (.int .i64 120) ∧ W.rangeAt w.heap.size 0 (clm t f).cs from fun W h => ⟨by rw [Lib.cell_of_heap h]; rfl, rng_of h⟩)
  have HU := Lib.hid (Tryz.underlying48)
  have HSZ := Lib.hid (mg_size (clm t f))
  have HSL : RowKit.Hid ((Tryz.prog.info? 48).map (·.size) = some (clm t f).cs.length) := Lib.hid (by kernel_rfl)
  unfold mgobj at *
  clear ht0 ht1 hf0 hf1
  generalize (clm t f).cs = cs at *
  go_enter Tryz.func35, Tryz.ntmps35
  go_upto_region 1 with fail
  generalize World.alloc _ _ = w1 at *
  obtain ⟨c0, _⟩ := HC.out _ H1.out
  go_wp2_with fail
  (with_reducible refine (HNM.out _).mono ?_); rintro e w2 ⟨rfl, b2⟩
  have H2 := Lib.hid ((b2.block _ (row_ltP H1.out)).trans H1.out)
  have HB2 := Lib.hid (bnext HB.out b2)
  clear b2 c0 H1 HB
  go_wp2_with (refine wpList_load_row rfl 48 _ rfl w.heap.size rfl 48 cs.toArray (0, 0) _ H2.out HU.out rfl HSZ.out ?_)
  (with_reducible refine (HTG.out _).mono ?_); rintro e w3 ⟨rfl, b3⟩
  have H3 := Lib.hid ((b3.block _ (row_ltP H2.out)).trans H2.out)
  have HB3 := Lib.hid (bnext HB2.out b3)
  clear b3 H2 HB2
  go_wp2_with fail
  have H4 := Lib.hid (((below_drew1 w3).block _ (row_ltP H3.out)).trans H3.out)
  have HB4 := Lib.hid (bnext HB3.out (below_drew1 w3))
  have hr4 := (HC.out _ H4.out).2
  refine wp_region_held_drew (S := (fun W' => W'.rangeAt w.heap.size 0 cs)) (by kernel_rfl) hr4 (fun hHeld => ?_)
  refine wpAnyH_takeD (i := 0) (d := 13) (v := .agg cs.toArray) rfl rfl (by kernel_rfl) (by kernel_rfl) (by kernel_rfl) (fun _ _ _ h => h) (yieldsIf_load_mid (by rfl) 48 (.tmp 1) rfl w.heap.size 0 (by rfl) cs _ (fun _ h => h) HU.out rfl HSL.out) (by assumption) ?_
  try simp only [Act.put, List.setIfInBounds_toArray, List.set_cons_zero, List.set_cons_succ]
  refine wpAnyH_takeD (i := 2) (d := 15) (v := .agg cs.toArray) rfl rfl (by kernel_rfl) (by kernel_rfl) (by kernel_rfl) (fun _ _ _ h => h) (yieldsIf_load_mid (by rfl) 48 (.tmp 1) rfl w.heap.size 0 (by rfl) cs _ (fun _ h => h) HU.out rfl HSL.out) (by assumption) ?_
  try simp only [Act.put, List.setIfInBounds_toArray, List.set_cons_zero, List.set_cons_succ]
  refine wpAnyH_ready (rs := [1]) (by kernel_rfl) (by simp) ?_
  refine AllReadyH.cons rfl (fun K hK => ?_) AllReadyH.nil
  go_simp
  go_wp2_with (go_at_call 81; (with_reducible refine (HON.out _).mono ?_); rintro e w5 ⟨rfl, b5⟩)
  have H5 := Lib.hid ((b5.block _ (row_ltP H4.out)).trans H4.out)
  have HB5 := Lib.hid (bnext HB4.out b5)
  clear b5
  refine hK.out _ _ (HC.out _ H5.out).2 (fun hHeld => ?_)
  clear hK K
  try simp only [Act.put, List.setIfInBounds_toArray, List.set_cons_zero, List.set_cons_succ]
  refine wpAnyH_ready (rs := [3]) (by kernel_rfl) (by simp) ?_
  refine AllReadyH.cons rfl (fun K hK => ?_) AllReadyH.nil
  go_simp
  go_wp2_with (go_at_call 80; (with_reducible refine (HSM.out _).mono ?_); rintro e w6 ⟨rfl, b6⟩)
  have H6 := Lib.hid ((b6.block _ (row_ltP H5.out)).trans H5.out)
  have HB6 := Lib.hid (bnext HB5.out b6)
  clear b6
  refine hK.out _ _ (HC.out _ H6.out).2 (fun hHeld => ?_)
  clear hK K
  try simp only [Act.put, List.setIfInBounds_toArray, List.set_cons_zero, List.set_cons_succ]
  refine wpAnyH_takeD (i := 4) (d := 17) (v := ?v4) rfl rfl (by kernel_rfl) (by kernel_rfl) (by kernel_rfl) (fun _ _ _ h => h) (Or.inl ⟨by rfl, ?yv4⟩) (by assumption) ?rv4
  case yv4 => (intro w hSw; (try dsimp only at hSw); go_simp <;> with_reducible rfl)
  try simp only [Act.put, List.setIfInBounds_toArray, List.set_cons_zero, List.set_cons_succ]
  refine wpAnyH_takeD (i := 5) (d := 12) (v := ?v5) rfl rfl (by kernel_rfl) (by kernel_rfl) (by kernel_rfl) (fun _ _ _ h => h) (Or.inl ⟨by rfl, ?yv5⟩) (by assumption) ?rv5
  case yv5 => (intro w hSw; (try dsimp only at hSw); go_simp <;> with_reducible rfl)
  try simp only [Act.put, List.setIfInBounds_toArray, List.set_cons_zero, List.set_cons_succ]
  refine wpAnyH_done (by kernel_rfl) ?_ _
  go_wp2_with (refine wpList_load_row rfl 48 _ rfl w.heap.size rfl 48 cs.toArray (0, 0) _ H6.out HU.out rfl HSZ.out ?_)
  (with_reducible refine (HFL.out _).mono ?_); rintro e w7 ⟨rfl, b7⟩
  have HB7 := Lib.hid (bnext HB6.out b7)
  clear b7
  go_wp2_with fail
  go_ret
  exact ⟨rfl, HB7.out⟩
end Go.Proofs.YtfibaopngpfmjaaGreatDoor
set_option linter.unusedVariables false
set_option linter.unusedSimpArgs false
namespace Go.Proofs.YtfibaopngpfmjaaGreatDoor
open Go.RowKit Go.Proofs
/-- The writer's block: no error, the bytes so far. -/
def WrRow (W : World) (g : Nat) (s : List UInt8) : Prop := W.heap[g]? = some (.cells #[.string (T s), .int .i64 0] 182 (0, 0))
theorem WrRow.reads {W : World} {g : Nat} {s : List UInt8} (h : WrRow W g s) : (W.cell? ⟨g, 0, none⟩ = some (.string (T s)) ∧ W.cell? ⟨g, 1, none⟩ = some (.int .i64 0)) ∧ W.frozen? ⟨g, 0, none⟩ = false ∧ W.frozen? ⟨g, 1, none⟩ = false := by
  unfold WrRow at h
  refine ⟨⟨?_, ?_⟩, ?_, ?_⟩
  all_goals first
    | (rw [Lib.cell_of_heap h]; rfl)
    | (exact Lib.frozen_of_heap h _)
theorem WrRow.next {W W' : World} {g : Nat} {s : List UInt8} (h : WrRow W g s) (hb : Below W.heap.size W W') : WrRow W' g s := (hb.block _ (row_ltP h)).trans h
set_option maxHeartbeats 1000000 in
theorem wadd_any (g : Nat) (s p : List UInt8) (w : World) (h : WrRow w g s) (hl : s.length + p.length ≤ 1000000) :
    Calls Tryz.prog 187 #[.pointer (some ⟨g, 0, none⟩), .string (T p), .int .i64 0] w fun e w' => e = .returned (.tuple #[]) ∧ WrRow w' g (s ++ p) ∧ w.grownBy w' (some g) := by
  obtain ⟨⟨c0, c1⟩, f0, f1⟩ := h.reads
  have h1 := heap_setCell_same w g 1 _ _ (.int .i64 0) h
  have h2 := heap_setCell_same _ g 0 _ _ (.string (T (s ++ p))) h1
  have HW := Lib.hid (show WrRow ((w.setCell ⟨g, 1, none⟩ (.int .i64 0)).setCell ⟨g, 0, none⟩ (.string (T (s ++ p)))) g (s ++ p) from h2)
  have HG := Lib.hid (grown_setG (grown_setG (below_grownBy (Below.refl _ w) (some g)) 1 (.int .i64 0)) 0 (.string (T (s ++ p))))
  have hn : ¬ 9223372036854775807 < s.length + p.length := by omega
  have e1 : T s ++ T p = T (s ++ p) := T_append s p
  rw [← e1] at HW HG
  clear h h1 h2
  go_enter Tryz.func187, Tryz.ntmps187
  go_wp2_with fail
  first | go_end0 | refine bodyPost_ret (results_none rfl _ _ _) rfl ?_
  exact ⟨rfl, HW.out, HG.out⟩
theorem put_num (n : Int) (k : Nat) (w : World) (hk : 1 ≤ k) (hk2 : k ≤ 8) (hn : 0 ≤ n) (hf : n < 256 ^ k) :
    Calls Tryz.prog 128 #[.int .i64 n, .int .i64 (k : Int)] w fun e w' => e = .returned (.tuple #[.string (T (Oct.le k n.toNat)), .int .i64 0]) ∧ Below w.heap.size w w' := by
  refine (put_good n k w hk hk2 hn hf).mono ?_
  intro e w' h
  unfold PutSays at h
  have e1 : Oct.putE n (k : Int) = 0 := by
    unfold Oct.putE
    rw [if_neg (by omega), if_neg (by simp; omega)]
  have e2 : Oct.putS n (k : Int) = Oct.le k n.toNat := by
    unfold Oct.putS
    rw [e1, if_pos rfl]
    simp
  rw [e1, e2] at h
  exact h
set_option maxHeartbeats 1000000 in
theorem wnum_any (g : Nat) (s : List UInt8) (n : Int) (k : Nat) (w : World) (h : WrRow w g s) (hl : s.length ≤ 900000) (hk : 1 ≤ k) (hk2 : k ≤ 8) (hn : 0 ≤ n) (hf : n < 256 ^ k) :
    Calls Tryz.prog 126 #[.pointer (some ⟨g, 0, none⟩), .int .i64 n, .int .i64 (k : Int)] w fun e w' => e = .returned (.tuple #[]) ∧ WrRow w' g (s ++ Oct.le k n.toNat) ∧ w.grownBy w' (some g) := by
  have HP := Lib.hid (put_num n k w hk hk2 hn hf)
  have HA := Lib.hid (fun (W : World) (h : WrRow W g s) => wadd_any g s (Oct.le k n.toNat) W h (by rw [Oct.le_length]; omega))
  have HS := Lib.hid h
  clear h hl hn hf
  generalize Oct.le k n.toNat = p at *
  generalize (k : Int) = kk at *
  go_enter Tryz.func126, Tryz.ntmps126
  go_wp2_with fail
  (with_reducible refine HP.out.mono ?_); rintro e w1 ⟨rfl, b1⟩
  have HS1 := Lib.hid (HS.out.next b1)
  have HG1 := Lib.hid (below_grownBy b1 (some g))
  clear b1
  go_wp2_with fail
  have hs1 := HS1.out
  (with_reducible refine (HA.out _ hs1).mono ?_); rintro e w2 ⟨rfl, hs2, g2⟩
  have HS2 := Lib.hid hs2
  have HG2 := Lib.hid (HG1.out.trans g2)
  clear hs2 g2 hs1
  go_wp2_with fail
  first | go_end0 | refine bodyPost_ret (results_none rfl _ _ _) rfl ?_
  exact ⟨rfl, HS2.out, HG2.out⟩
theorem layout_clunk (w : World) : Calls Tryz.prog 32 #[.int .i64 120] w fun e w' => e = .returned (.string (T [102])) ∧ w' = w := by
  go_enter Tryz.func32, Tryz.ntmps32
  go_wp2_with fail
  go_ret
  exact ⟨rfl, rfl⟩
end Go.Proofs.YtfibaopngpfmjaaGreatDoor
set_option linter.unusedVariables false
set_option linter.unusedSimpArgs false
namespace Go.Proofs.YtfibaopngpfmjaaGreatDoor
open Go.RowKit Go.Proofs
set_option maxRecDepth 100000 in
set_option maxHeartbeats 4000000 in
theorem wfield_clunk (g : Nat) (s : List UInt8) (t f : Int) (w : World) (h : WrRow w g s) (hl : s.length ≤ 900000) (hf0 : 0 ≤ f) (hf1 : f ≤ 4294967294) :
    Calls Tryz.prog 127 #[.pointer (some ⟨g, 0, none⟩), .agg (clm t f).cs.toArray, .int .u8 102] w fun e w' => e = .returned (.tuple #[]) ∧ WrRow w' g (s ++ Oct.le 4 f.toNat) ∧ w.grownBy w' (some g) := by
  have HB := Lib.hid (alloc_below w (mgobj (clm t f)))
  have H1 := Lib.hid (heap_alloc_new w (mgobj (clm t f)))
  have HS := Lib.hid (h.next HB.out)
  have HNU := Lib.hid (fun (W : World) (h : WrRow W g s) => show Calls Tryz.prog 126 #[.pointer (some ⟨g, 0, none⟩), .int .i64 f, .int .i64 4] W fun e w' => e = .returned (.tuple #[]) ∧ WrRow w' g (s ++ Oct.le 4 f.toNat) ∧ W.grownBy w' (some g) from wnum_any g s f 4 W h hl (by omega) (by omega) hf0 (by omega))
  have HC := Lib.hid (show ∀ W : World, W.heap[w.heap.size]? = some (mgobj (clm t f)) → W.cell? ⟨w.heap.size, 2, none⟩ = some (.int .i64 f) from fun W h => by rw [Lib.cell_of_heap h]; rfl)
  unfold mgobj at *
  clear h hl hf0 hf1
  generalize (clm t f).cs = cs at *
  go_enter Tryz.func127, Tryz.ntmps127
  go_upto_region 1 with fail
  generalize World.alloc _ _ = w1 at *
  have c2 := HC.out _ H1.out
  go_wp2_with fail
  have hs1 := HS.out
  (with_reducible refine (HNU.out _ hs1).mono ?_); rintro e w2 ⟨rfl, hs2, g2⟩
  have HS2 := Lib.hid hs2
  have HG2 := Lib.hid ((below_grownBy HB.out (some g)).trans g2)
  clear hs2 g2 hs1
  go_wp2_with fail
  first | go_end0 | refine bodyPost_ret (results_none rfl _ _ _) rfl ?_
  exact ⟨rfl, HS2.out, HG2.out⟩
def clbytes (t f : Int) : List UInt8 := Oct.le 4 11 ++ (Oct.le 1 120 ++ Oct.le 2 t.toNat ++ Oct.le 4 f.toNat)
set_option maxRecDepth 100000 in
set_option maxHeartbeats 8000000 in
theorem put_clunk (t f : Int) (ht0 : 0 ≤ t) (ht1 : t ≤ 65534) (hf0 : 0 ≤ f) (hf1 : f ≤ 4294967294) (w : World) :
    Calls Tryz.prog 71 #[.agg (clm t f).cs.toArray] w fun e w' => e = .returned (.tuple #[.string (T (clbytes t f)), .int .i64 0]) ∧ Below w.heap.size w w' := by
  have HB := Lib.hid (alloc_below w (mgobj (clm t f)))
  have H1 := Lib.hid (heap_alloc_new w (mgobj (clm t f)))
  have HCK := Lib.hid (fun W => check_clunk t f ht0 ht1 hf0 hf1 W)
  have HN1 := Lib.hid (fun (g : Nat) (W : World) (h : WrRow W g []) => show Calls Tryz.prog 126 #[.pointer (some ⟨g, 0, none⟩), .int .i64 120, .int .i64 1] W fun e w' => e = .returned (.tuple #[]) ∧ WrRow w' g (Oct.le 1 120) ∧ W.grownBy w' (some g) from wnum_any g [] 120 1 W h (by simp) (by omega) (by omega) (by omega) (by omega))
  have HN2 := Lib.hid (fun (g : Nat) (W : World) (h : WrRow W g (Oct.le 1 120)) => show Calls Tryz.prog 126 #[.pointer (some ⟨g, 0, none⟩), .int .i64 t, .int .i64 2] W fun e w' => e = .returned (.tuple #[]) ∧ WrRow w' g (Oct.le 1 120 ++ Oct.le 2 t.toNat) ∧ W.grownBy w' (some g) from wnum_any g (Oct.le 1 120) t 2 W h (by rw [Oct.le_length]; omega) (by omega) (by omega) ht0 (by omega))
  have HFI := Lib.hid (fun (g : Nat) (W : World) (h : WrRow W g (Oct.le 1 120 ++ Oct.le 2 t.toNat)) => wfield_clunk g (Oct.le 1 120 ++ Oct.le 2 t.toNat) t f W h (by rw [List.length_append, Oct.le_length, Oct.le_length]; omega) hf0 hf1)
  have HLY := Lib.hid layout_clunk
  have HPS := Lib.hid (fun (W : World) => show Calls Tryz.prog 128 #[.int .i64 11, .int .i64 4] W fun e w' => e = .returned (.tuple #[.string (T (Oct.le 4 11)), .int .i64 0]) ∧ Below W.heap.size W w' from put_num 11 4 W (by omega) (by omega) (by omega) (by omega))
  have HC := Lib.hid (show ∀ W : World, W.heap[w.heap.size]? = some (mgobj (clm t f)) → W.cell? ⟨w.heap.size, 0, none⟩ = some (.int .i64 120) ∧ W.cell? ⟨w.heap.size, 1, none⟩ = some (.int .i64 t) ∧ W.rangeAt w.heap.size 0 (clm t f).cs from fun W h => ⟨by rw [Lib.cell_of_heap h]; rfl, by rw [Lib.cell_of_heap h]; rfl, rng_of h⟩)
  have HU := Lib.hid (Tryz.underlying48)
  have HSZ := Lib.hid (mg_size (clm t f))
  have HSL : RowKit.Hid ((Tryz.prog.info? 48).map (·.size) = some (clm t f).cs.length) := Lib.hid (by kernel_rfl)
  have HP : RowKit.Hid (clbytes t f = Oct.le 4 11 ++ (Oct.le 1 120 ++ Oct.le 2 t.toNat ++ Oct.le 4 f.toNat)) := Lib.hid rfl
  have hpl : (Oct.le 1 120 ++ Oct.le 2 t.toNat ++ Oct.le 4 f.toNat).length = 7 := by rw [List.length_append, List.length_append, Oct.le_length, Oct.le_length, Oct.le_length]
  have hsl : (Oct.le 4 11).length = 4 := Oct.le_length _ _
  unfold mgobj at *
  clear ht0 ht1 hf0 hf1
  generalize (clm t f).cs = cs at *
  generalize clbytes t f = cb at *
  generalize Oct.le 1 120 ++ Oct.le 2 t.toNat ++ Oct.le 4 f.toNat = P3 at *
  generalize Oct.le 1 120 ++ Oct.le 2 t.toNat = P2 at *
  generalize Oct.le 1 120 = P1 at *
  generalize Oct.le 4 11 = PS at *
  go_enter Tryz.func71, Tryz.ntmps71
  go_upto_region 1 with fail
  generalize World.alloc _ _ = w1 at *
  go_wp2_with (refine wpList_load_row rfl 48 _ rfl w.heap.size rfl 48 cs.toArray (0, 0) _ H1.out HU.out rfl HSZ.out ?_)
  (with_reducible refine (HCK.out _).mono ?_); rintro e w2 ⟨rfl, b2⟩
  have H2 := Lib.hid ((b2.block _ (row_ltP H1.out)).trans H1.out)
  have HB2 := Lib.hid (bnext HB.out b2)
  clear b2 H1 HB HCK
  obtain ⟨c0, c1, _⟩ := HC.out _ H2.out
  go_upto_region 5 with fail
  have HW3 := Lib.hid (show WrRow (w2.alloc (.cells #[.string (T []), .int .i64 0] 182)) w2.heap.size [] from heap_alloc_new w2 _)
  have HB3 := Lib.hid (bnext HB2.out (alloc_below w2 (.cells #[.string (T []), .int .i64 0] 182)))
  have H3 := Lib.hid ((Lib.alloc_old w2 (.cells #[.string (T []), .int .i64 0] 182) _ (row_ltP H2.out)).trans H2.out)
  have hg : w.heap.size < w2.heap.size := row_ltP H2.out
  clear H2 HB2 c0 c1
  generalize World.alloc _ _ = w3 at *
  generalize w2.heap.size = g at *
  obtain ⟨c0, c1, _⟩ := HC.out _ H3.out
  go_wp2_with fail
  have hw3 := HW3.out
  (with_reducible refine (HN1.out _ _ hw3).mono ?_); rintro e w4 ⟨rfl, hw4, g4⟩
  have HW4 := Lib.hid hw4
  have H4 := Lib.hid ((g4.block _ (row_ltP H3.out) (fun e => by cases e; omega)).trans H3.out)
  have HB4 := Lib.hid (show Below w.heap.size w w4 from HB3.out.trans ((below_of_grown g4 (row_ltP hw3)).mono (by omega)))
  clear hw3 hw4 g4 HW3 H3 HB3 c0 c1 HN1
  obtain ⟨c0, c1, _⟩ := HC.out _ H4.out
  go_wp2_with fail
  have hw4 := HW4.out
  (with_reducible refine (HN2.out _ _ hw4).mono ?_); rintro e w5 ⟨rfl, hw5, g5⟩
  have HW5 := Lib.hid hw5
  have H5 := Lib.hid ((g5.block _ (row_ltP H4.out) (fun e => by cases e; omega)).trans H4.out)
  have HB5 := Lib.hid (show Below w.heap.size w w5 from HB4.out.trans ((below_of_grown g5 (row_ltP hw4)).mono (by omega)))
  clear hw4 hw5 g5 HW4 H4 HB4 c0 c1 HN2
  obtain ⟨c0, c1, _⟩ := HC.out _ H5.out
  go_wp2_with fail
  (with_reducible refine (HLY.out _).mono ?_); rintro e w6 ⟨rfl, rfl⟩
  go_wp2_with fail
  refine wp_loop_rounds 2 ?_
  rw [rounds_succ]
  go_upto_region 11 with fail
  have k102 : ∀ h, ((T [102])[0]'h).toNat = 102 := fun _ => rfl
  have k1 : (T [102]).size = 1 := rfl
  have H6 := Lib.hid (((below_drew1 w6).block _ (row_ltP H5.out)).trans H5.out)
  have HB6 := Lib.hid (bnext HB5.out (below_drew1 w6))
  have HW6 := Lib.hid (HW5.out.next (below_drew1 w6))
  have hr6 := (HC.out _ H6.out).2.2
  clear H5 HB5 HW5 c0 c1
  refine wp_region_held_drew (S := (fun W' => W'.rangeAt w.heap.size 0 cs)) (by kernel_rfl) hr6 (fun hHeld => ?_)
  refine wpAnyH_takeD (i := 0) (d := 33) (v := ?v0) rfl rfl (by kernel_rfl) (by kernel_rfl) (by kernel_rfl) (fun _ _ _ h => h) (Or.inl ⟨by rfl, ?yv0⟩) (by assumption) ?rv0
  case yv0 => (intro w hSw; (try dsimp only at hSw); go_simp <;> with_reducible rfl)
  try simp only [Act.put, List.setIfInBounds_toArray, List.set_cons_zero, List.set_cons_succ]
  refine wpAnyH_takeD (i := 1) (d := 34) (v := .agg cs.toArray) rfl rfl (by kernel_rfl) (by kernel_rfl) (by kernel_rfl) (fun _ _ _ h => h) (yieldsIf_load_mid (by rfl) 48 (.tmp 1) rfl w.heap.size 0 (by rfl) cs _ (fun _ h => h) HU.out rfl HSL.out) (by assumption) ?_
  try simp only [Act.put, List.setIfInBounds_toArray, List.set_cons_zero, List.set_cons_succ]
  refine wpAnyH_takeD (i := 2) (d := 35) (v := ?v2) rfl rfl (by kernel_rfl) (by kernel_rfl) (by kernel_rfl) (fun _ _ _ h => h) (Or.inl ⟨by rfl, ?yv2⟩) (by assumption) ?rv2
  case yv2 => (intro w hSw; (try dsimp only at hSw); go_simp <;> with_reducible rfl)
  try simp only [Act.put, List.setIfInBounds_toArray, List.set_cons_zero, List.set_cons_succ]
  refine wpAnyH_takeD (i := 3) (d := 36) (v := ?v3) rfl rfl (by kernel_rfl) (by kernel_rfl) (by kernel_rfl) (fun _ _ _ h => h) (Or.inl ⟨by rfl, ?yv3⟩) (by assumption) ?rv3
  case yv3 => (intro w hSw; (try dsimp only at hSw); go_simp <;> with_reducible rfl)
  try simp only [Act.put, List.setIfInBounds_toArray, List.set_cons_zero, List.set_cons_succ]
  refine wpAnyH_takeD (i := 4) (d := 37) (v := ?v4) rfl rfl (by kernel_rfl) (by kernel_rfl) (by kernel_rfl) (fun _ _ _ h => h) (Or.inl ⟨by rfl, ?yv4⟩) (by assumption) ?rv4
  case yv4 => (intro w hSw; (try dsimp only at hSw); go_simp <;> with_reducible rfl)
  try simp only [Act.put, List.setIfInBounds_toArray, List.set_cons_zero, List.set_cons_succ]
  refine wpAnyH_ready (rs := [5]) (by kernel_rfl) (by simp) ?_
  refine AllReadyH.cons rfl (fun K hK => ?_) AllReadyH.nil
  go_simp
  have hw6 := HW6.out
  go_wp2_with (go_at_call 127; (with_reducible refine (HFI.out _ _ hw6).mono ?_); rintro e w7 ⟨rfl, hw7, g7⟩)
  have HW7 := Lib.hid hw7
  have H7 := Lib.hid ((g7.block _ (row_ltP H6.out) (fun e => by cases e; omega)).trans H6.out)
  have HB7 := Lib.hid (show Below w.heap.size w w7 from HB6.out.trans ((below_of_grown g7 (row_ltP hw6)).mono (by omega)))
  clear hw6 hw7 g7 HW6 HB6
  refine hK.out _ _ (HC.out _ H7.out).2.2 (fun hHeld => ?_)
  clear hK K
  try simp only [Act.put, List.setIfInBounds_toArray, List.set_cons_zero, List.set_cons_succ]
  refine wpAnyH_done (by kernel_rfl) ?_ _
  clear hHeld
  go_wp2_with fail
  rw [rounds_succ]
  have hP3 : (T P3).size = 7 := by rw [T_size, hpl]
  have hPS : (T PS).size = 4 := by rw [T_size, hsl]
  obtain ⟨⟨x0, x1⟩, y0, y1⟩ := HW7.out.reads
  go_wp2_with fail
  (with_reducible refine (HPS.out _).mono ?_); rintro e w8 ⟨rfl, b8⟩
  have HW8 := Lib.hid (HW7.out.next b8)
  have HB8 := Lib.hid (bnext HB7.out b8)
  clear b8 x0 x1 y0 y1
  obtain ⟨⟨x0, x1⟩, y0, y1⟩ := HW8.out.reads
  go_wp2_with fail
  go_ret2
  refine ⟨?_, HB8.out⟩
  rw [HP.out, ← T_append]
  rfl
end Go.Proofs.YtfibaopngpfmjaaGreatDoor
set_option linter.unusedVariables false
set_option linter.unusedSimpArgs false
namespace Go.Proofs.YtfibaopngpfmjaaGreatDoor
open Go.RowKit Go.Proofs
theorem idx_nil (fn : Value) (hfn : ∃ a b c, fn = .func a b c) (w : World) : Calls Tryz.prog 123 #[.slice none 0 0, fn] w fun e w' => e = .returned (.int .i64 (-1)) ∧ w' = w := by
  obtain ⟨a, b, c, rfl⟩ := hfn
  go_enter Tryz.func123, Tryz.ntmps123
  go_wp2_with fail
  refine wp_loop_rounds 1 ?_
  rw [rounds_succ]
  go_wp2_with fail
  go_ret
  exact ⟨rfl, rfl⟩
theorem cont_nil (fn : Value) (hfn : ∃ a b c, fn = .func a b c) (w : World) : Calls Tryz.prog 65 #[.slice none 0 0, fn] w fun e w' => e = .returned (.bool false) ∧ w' = w := by
  have HI := Lib.hid (fun (W : World) => idx_nil fn hfn W)
  obtain ⟨a, b, c, rfl⟩ := hfn
  go_enter Tryz.func65, Tryz.ntmps65
  go_wp2_with fail
  (with_reducible refine (HI.out _).mono ?_); rintro e w1 ⟨rfl, rfl⟩
  go_wp2_with fail
  go_ret
  exact ⟨rfl, rfl⟩
theorem hasv_nil (w : World) : Calls Tryz.prog 26 #[.slice none 0 0] w fun e w' => e = .returned (.bool false) ∧ w' = w := by
  have HI := Lib.hid (fun (W : World) => cont_nil (.func (.func 66) #[] #[]) ⟨_, _, _, rfl⟩ W)
  go_enter Tryz.func26, Tryz.ntmps26
  go_wp2_with fail
  (with_reducible refine (HI.out _).mono ?_); rintro e w1 ⟨rfl, rfl⟩
  go_wp2_with fail
  go_ret
  exact ⟨rfl, rfl⟩
theorem index_nil (t : Int) (w : World) : Calls Tryz.prog 69 #[.slice none 0 0, .int .i64 t] w fun e w' => e = .returned (.int .i64 (-1)) ∧ Below w.heap.size w w' := by
  have hmf : ∀ (fn : Fn) (first cap : Array Value) (w : World), (Instr.makeFunc fn first cap).run Tryz.prog w = .ok (.func fn first cap) w := fun _ _ _ _ => rfl
  have HB := Lib.hid (fun o => alloc_below w o)
  have HI := Lib.hid (fun (fn : Fn) (a b : Array Value) (W : World) => idx_nil (.func fn a b) ⟨_, _, _, rfl⟩ W)
  go_enter Tryz.func69, Tryz.ntmps69
  go_wp2_with fail
  (with_reducible refine (HI.out _ _ _ _).mono ?_); rintro e w1 ⟨rfl, rfl⟩
  go_wp2_with fail
  go_ret
  exact ⟨rfl, HB.out _⟩
theorem flusher_nil (t : Int) (w : World) : Calls Tryz.prog 70 #[.slice none 0 0, .int .i64 t] w fun e w' => e = .returned (.int .i64 65535) ∧ Below w.heap.size w w' := by
  have hmf : ∀ (fn : Fn) (first cap : Array Value) (w : World), (Instr.makeFunc fn first cap).run Tryz.prog w = .ok (.func fn first cap) w := fun _ _ _ _ => rfl
  have HB := Lib.hid (fun o => alloc_below w o)
  have HI := Lib.hid (fun (fn : Fn) (a b : Array Value) (W : World) => idx_nil (.func fn a b) ⟨_, _, _, rfl⟩ W)
  go_enter Tryz.func70, Tryz.ntmps70
  go_wp2_with fail
  (with_reducible refine (HI.out _ _ _ _).mono ?_); rintro e w1 ⟨rfl, rfl⟩
  go_wp2_with fail
  go_ret
  exact ⟨rfl, HB.out _⟩
theorem free_nil (w : World) : Calls Tryz.prog 28 #[.slice none 0 0] w fun e w' => e = .returned (.int .i64 1) ∧ Below w.heap.size w w' := by
  have HI := Lib.hid (fun (W : World) => index_nil 1 W)
  have HF := Lib.hid (fun (W : World) => flusher_nil 1 W)
  go_enter Tryz.func28, Tryz.ntmps28
  go_wp2_with fail
  refine wp_loop_rounds 1 ?_
  rw [rounds_succ]
  go_wp2_with fail
  (with_reducible refine (HI.out _).mono ?_); rintro e w1 ⟨rfl, b1⟩
  have HB1 := Lib.hid b1
  clear b1
  go_wp2_with fail
  (with_reducible refine (HF.out _).mono ?_); rintro e w2 ⟨rfl, b2⟩
  have HB2 := Lib.hid (bnext HB1.out b2)
  clear b2
  go_wp2_with fail
  go_ret
  exact ⟨rfl, HB2.out⟩
theorem request_clunk (w : World) : Calls Tryz.prog 25 #[.int .i64 120] w fun e w' => e = .returned (.bool true) ∧ Below w.heap.size w w' := by
  have HN := Lib.hid name_clunk
  have k1 : (T [84, 67, 108, 117, 110, 107]).size = 6 := rfl
  go_enter Tryz.func25, Tryz.ntmps25
  go_wp2_with fail
  (with_reducible refine (HN.out _).mono ?_); rintro e w1 ⟨rfl, b1⟩
  have HB1 := Lib.hid b1
  clear b1
  go_wp2_with fail
  go_ret
  exact ⟨rfl, HB1.out⟩
theorem cloneq_nil (w : World) : Calls Tryz.prog 68 #[.slice none 0 0] w fun e w' => e = .returned (.slice none 0 0) ∧ w' = w := by
  have hnil := fun (w : World) (a : Option Addr) (n c n' c' : Nat) => Lib.run_eql_slice_nil (P := Tryz.prog) w 42 44 a n c n' c' Tryz.underlying42
  go_enter Tryz.func68, Tryz.ntmps68
  go_wp2_with fail
  go_ret
  exact ⟨rfl, rfl⟩
set_option maxRecDepth 100000 in
set_option maxHeartbeats 4000000 in
theorem clone_clunk (t f : Int) (w : World) : Calls Tryz.prog 27 #[.agg (clm t f).cs.toArray] w fun e w' => e = .returned (.agg (clm t f).cs.toArray) ∧ Below w.heap.size w w' := by
  have h1 := heap_alloc_new w (mgobj (clm t f))
  have h2 := heap_alloc_new (w.alloc (mgobj (clm t f))) (mgobj mg0)
  rw [show (w.alloc (mgobj (clm t f))).heap.size = w.heap.size + 1 from by simp] at h2
  have HB := Lib.hid (bnext (alloc_below w (mgobj (clm t f))) (alloc_below _ (mgobj mg0)))
  have H1 := Lib.hid ((Lib.alloc_old _ (mgobj mg0) _ (by simp)).trans h1)
  have H2 := Lib.hid h2
  clear h1 h2
  have HC1 := Lib.hid (fun (W : World) => slices_Clone_nil_f67 0 0 W)
  have HC2 := Lib.hid (fun (W : World) => cloneq_nil W)
  have HK := Lib.hid (show ∀ W : World, W.heap[w.heap.size]? = some (mgobj (clm t f)) → (W.cell? ⟨w.heap.size, 10, none⟩ = some (.slice none 0 0) ∧ W.frozen? ⟨w.heap.size, 10, none⟩ = false ∧ (W.setCell ⟨w.heap.size, 10, none⟩ (.slice none 0 0)).heap[w.heap.size]? = some (mgobj (clm t f))) ∧ (W.cell? ⟨w.heap.size, 11, none⟩ = some (.slice none 0 0) ∧ W.frozen? ⟨w.heap.size, 11, none⟩ = false ∧ (W.setCell ⟨w.heap.size, 11, none⟩ (.slice none 0 0)).heap[w.heap.size]? = some (mgobj (clm t f))) from fun W h => ⟨⟨by rw [Lib.cell_of_heap h]; rfl, Lib.frozen_of_heap h _, mg_set h 10 _ rfl⟩, ⟨by rw [Lib.cell_of_heap h]; rfl, Lib.frozen_of_heap h _, mg_set h 11 _ rfl⟩⟩)
  have HU := Lib.hid (Tryz.underlying48)
  have HSZ := Lib.hid (mg_size (clm t f))
  have HSY : RowKit.Hid (mg0.cs.toArray.size = (clm t f).cs.toArray.size) := Lib.hid rfl
  have HAL := Lib.hid (mg_all (clm t f) (clm_ok t f))
  unfold mgobj at *
  generalize (clm t f).cs.toArray = A1 at *
  go_enter Tryz.func27, Tryz.ntmps27
  go_upto_region 1 with fail
  generalize hw1 : World.alloc _ _ = w1
  have HB1 := Lib.hid (show Below w.heap.size w w1 from by rw [← hw1]; exact HB.out)
  have K1 := Lib.hid (show w1.heap[w.heap.size]? = some (.cells A1 48) from by rw [← hw1]; exact H1.out)
  have K2 := Lib.hid (show w1.heap[w.heap.size + 1]? = some (.cells mg0.cs.toArray 48) from by rw [← hw1]; exact H2.out)
  clear H1 H2 HB hw1
  generalize mg0.cs.toArray = A3 at *
  obtain ⟨⟨c0, f0, k0⟩, _⟩ := HK.out _ K1.out
  have L1 := Lib.hid k0
  have L2 := Lib.hid ((Below.heap_setCell w1 ⟨w.heap.size, 10, none⟩ (.slice none 0 0) (w.heap.size + 1) (show w.heap.size + 1 ≠ w.heap.size by omega)).trans K2.out)
  have HB2 := Lib.hid (HB1.out.setCell (p := ⟨w.heap.size, 10, none⟩) (Nat.le_refl _) (.slice none 0 0))
  clear k0 K1 K2 HB1
  go_wp2_with fail
  (with_reducible refine (HC1.out _).mono ?_); rintro e wx ⟨rfl, rfl⟩
  go_upto_region 2 with fail
  generalize World.setCell wx ⟨w.heap.size, 10, none⟩ (.slice none 0 0) = w2 at *
  clear c0 f0
  obtain ⟨_, c1, f1, k1⟩ := HK.out _ L1.out
  have M1 := Lib.hid k1
  have M2 := Lib.hid ((Below.heap_setCell w2 ⟨w.heap.size, 11, none⟩ (.slice none 0 0) (w.heap.size + 1) (show w.heap.size + 1 ≠ w.heap.size by omega)).trans L2.out)
  have HB3 := Lib.hid (HB2.out.setCell (p := ⟨w.heap.size, 11, none⟩) (Nat.le_refl _) (.slice none 0 0))
  clear k1 L1 L2 HB2
  go_wp2_with fail
  (with_reducible refine (HC2.out _).mono ?_); rintro e wy ⟨rfl, rfl⟩
  go_upto_region 3 with fail
  generalize World.setCell wy ⟨w.heap.size, 11, none⟩ (.slice none 0 0) = w3 at *
  clear c1 f1 HK
  go_wp2_with (first | refine wpList_load_row rfl 48 _ rfl w.heap.size rfl 48 A1 (0, 0) _ M1.out HU.out rfl HSZ.out ?_ | refine wpList_store_row rfl 48 _ _ rfl (w.heap.size + 1) A1 rfl rfl 48 A3 M2.out HSZ.out HSY.out HAL.out ?_)
  refine bodyPost_ret (v := .agg A1) (results_cell_row Tryz.results27 _ _ (w.heap.size + 1) 48 A1 (0, 0) _ rfl (heap_setRow_same M2.out) HU.out rfl HSZ.out) rfl ⟨rfl, below_setRow HB3.out (by omega) _⟩
end Go.Proofs.YtfibaopngpfmjaaGreatDoor
set_option linter.unusedVariables false
set_option linter.unusedSimpArgs false
namespace Go.Proofs.YtfibaopngpfmjaaGreatDoor
open Go.RowKit Go.Proofs
/-- A client that is up, its calls the given slice. -/
def clv (cv : Value) : Value := .agg #[.bool true, .int .i64 0, .string (T []), .slice none 0 0, cv, .string (T [])]
abbrev clobj (cv : Value) : Obj := .cells #[.bool true, .int .i64 0, .string (T []), .slice none 0 0, cv, .string (T [])] 41
theorem new_any (w : World) : Calls Tryz.prog 14 #[] w fun e w' => e = .returned (clv (.slice none 0 0)) ∧ Below w.heap.size w w' := by
  have HB := Lib.hid (fun o => alloc_below w o)
  unfold clv
  go_enter Tryz.func14, Tryz.ntmps14
  go_wp2_with fail
  exact bodyPost_ret (v := .agg #[.bool true, .int .i64 0, .string (T []), .slice none 0 0, .slice none 0 0, .string (T [])]) (by simp [results, Tryz.results14, go_sem]) rfl ⟨rfl, HB.out _⟩
set_option maxRecDepth 100000 in
set_option maxHeartbeats 4000000 in
theorem own_new (w : World) : Calls Tryz.prog 24 #[clv (.slice none 0 0)] w fun e w' => ∃ b, e = .returned (clv (.slice (some ⟨b, 0, none⟩) 0 0)) ∧ w'.ownsRow w.heap.size 82 40 (.slice (some ⟨b, 0, none⟩) 0 0) 0 [] ∧ Below w.heap.size w w' := by
  obtain ⟨i0, hi, hz0, hz1, hz2⟩ := info_parts (P := Tryz.prog) (e := 82) (z := .agg (mg0.cs ++ [Value.int .i64 0]).toArray) (size := 40) (bytes := 432) (by kernel_rfl)
  have HC := Lib.hid (fun (W : World) => slices_Clone_nil_f64 0 0 W)
  have HB := Lib.hid (fun o o2 => bnext (alloc_below w o) (alloc_below _ o2))
  have H1 := Lib.hid ((Lib.alloc_old (w.alloc (clobj (.slice none 0 0))) (.cells #[.bool false, .int .i64 0, .string (T []), .slice none 0 0, .slice none 0 0, .string (T [])] 41) _ (by simp)).trans (heap_alloc_new w (clobj (.slice none 0 0))))
  have h2 := heap_alloc_new (w.alloc (clobj (.slice none 0 0))) (.cells #[.bool false, .int .i64 0, .string (T []), .slice none 0 0, .slice none 0 0, .string (T [])] 41)
  rw [show (w.alloc (clobj (.slice none 0 0))).heap.size = w.heap.size + 1 from by simp] at h2
  have H2 := Lib.hid h2
  clear h2
  unfold clv
  unfold clobj at *
  go_enter Tryz.func24, Tryz.ntmps24
  go_upto_region 1 with fail
  generalize hw1 : World.alloc _ _ = w1 at *
  have HB1 := Lib.hid (show Below w.heap.size w w1 from by rw [← hw1]; exact HB.out _ _)
  clear hw1 HB
  obtain ⟨c0, c1, c2, c3, c4, c5⟩ := six_cells H1.out
  have hsz1 := HB1.out.size
  go_wp2_with (at_make; refine wpList_make_own _ rfl _ _ 39 rfl w.heap.size 82 i0 (.agg (mg0.cs ++ [Value.int .i64 0]).toArray) 40 Tryz.underlying39 hi hz0 hz1 _ _ _ 0 rfl rfl rfl ?b1 ?b2 ?b3 ?_)
  case b1 => first | (rw [hz2]; omega) | omega
  case b2 => unfold maxLen; omega
  try (case b3 => omega)
  intro w2 hown2 hg2
  have b2 := below_of_none hg2
  have L1 := Lib.hid ((b2.block _ (row_ltP H1.out)).trans H1.out)
  have L2 := Lib.hid ((b2.block _ (row_ltP H2.out)).trans H2.out)
  have HB2 := Lib.hid (bnext HB1.out b2)
  generalize w1.heap.size = b at *
  have HO := Lib.hid hown2
  clear hown2 hg2 b2 H1 H2 HB1 c0 c1 c2 c3 c4 c5
  obtain ⟨c0, c1, c2, c3, c4, c5⟩ := six_cells L1.out
  obtain ⟨f0, f1, f2, f3, f4, f5⟩ := six_frozen L1.out
  go_wp2_with fail
  refine wp_loop_rounds 1 ?_
  rw [rounds_succ]
  go_upto_region 8 with fail
  have M1 := Lib.hid (heap_setCell_same w2 w.heap.size 4 _ _ (.slice (some ⟨b, 0, none⟩) 0 0) L1.out)
  have hg3 := grown_setG (below_grownBy (Below.refl _ w2) (some w.heap.size)) 4 (.slice (some ⟨b, 0, none⟩) 0 0)
  have M2 := Lib.hid ((hg3.block _ (row_ltP L2.out) (fun e => by have := Option.some.inj e; omega)).trans L2.out)
  have HO3 := Lib.hid (HO.out.kept hg3 (Or.inr (own_neP HO.out L1.out (by decide))))
  have HB3 := Lib.hid (HB2.out.setCell (p := ⟨w.heap.size, 4, none⟩) (Nat.le_refl _) (.slice (some ⟨b, 0, none⟩) 0 0))
  clear hg3 L2 HO HB2
  generalize World.setCell w2 ⟨w.heap.size, 4, none⟩ (.slice (some ⟨b, 0, none⟩) 0 0) = w3 at *
  clear c0 c1 c2 c3 c4 c5 f0 f1 f2 f3 f4 f5 L1
  have M1 := Lib.hid (show w3.heap[w.heap.size]? = some (.cells #[.bool true, .int .i64 0, .string (T []), .slice none 0 0, .slice (some ⟨b, 0, none⟩) 0 0, .string (T [])] 41 (0, 0)) from M1.out)
  obtain ⟨c0, c1, c2, c3, c4, c5⟩ := six_cells M1.out
  obtain ⟨f0, f1, f2, f3, f4, f5⟩ := six_frozen M1.out
  go_wp2_with fail
  (with_reducible refine (HC.out _).mono ?_); rintro e wy ⟨rfl, rfl⟩
  go_upto_region 9 with fail
  have N1 := Lib.hid (heap_setCell_same wy w.heap.size 3 _ _ (.slice none 0 0) M1.out)
  have hg4 := grown_setG (below_grownBy (Below.refl _ wy) (some w.heap.size)) 3 (.slice none 0 0)
  have N2 := Lib.hid ((hg4.block _ (row_ltP M2.out) (fun e => by have := Option.some.inj e; omega)).trans M2.out)
  have HO4 := Lib.hid (HO3.out.kept hg4 (Or.inr (own_neP HO3.out M1.out (by decide))))
  have HB4 := Lib.hid (HB3.out.setCell (p := ⟨w.heap.size, 3, none⟩) (Nat.le_refl _) (.slice none 0 0))
  clear hg4 M2 HO3 HB3
  generalize World.setCell wy ⟨w.heap.size, 3, none⟩ (.slice none 0 0) = w4 at *
  clear c0 c1 c2 c3 c4 c5 f0 f1 f2 f3 f4 f5 M1
  have N1 := Lib.hid (show w4.heap[w.heap.size]? = some (.cells #[.bool true, .int .i64 0, .string (T []), .slice none 0 0, .slice (some ⟨b, 0, none⟩) 0 0, .string (T [])] 41 (0, 0)) from N1.out)
  obtain ⟨c0, c1, c2, c3, c4, c5⟩ := six_cells N1.out
  obtain ⟨d0, d1, d2, d3, d4, d5⟩ := six_cells N2.out
  obtain ⟨f0, f1, f2, f3, f4, f5⟩ := six_frozen N2.out
  go_wp2_with fail
  have hq := six_stored (v0 := .bool true) (v1 := .int .i64 0) (v2 := .string (T [])) (v3 := .slice none 0 0) (v4 := .slice (some ⟨b, 0, none⟩) 0 0) (v5 := .string (T [])) N2.out
  obtain ⟨q0, q1, q2, q3, q4, q5⟩ := six_cells hq
  have hg5 := six_grown (W := w4) (w.heap.size + 1) (.bool true) (.int .i64 0) (.string (T [])) (.slice none 0 0) (.slice (some ⟨b, 0, none⟩) 0 0) (.string (T []))
  have hb5 : Below w.heap.size w _ := HB4.out.trans ⟨hg5.os, hg5.tape, hg5.output, hg5.size, fun i hi => hg5.block i (by have := HB4.out.size; omega) (fun e => by have := Option.some.inj e; omega)⟩
  exact bodyPost_ret (v := .agg #[.bool true, .int .i64 0, .string (T []), .slice none 0 0, .slice (some ⟨b, 0, none⟩) 0 0, .string (T [])]) (by simp [results, Tryz.results24, go_sem, q0, q1, q2, q3, q4, q5]) rfl ⟨b, rfl, HO4.out.kept hg5 (Or.inr (own_neP HO4.out N2.out (by decide))), hb5⟩
set_option maxRecDepth 100000 in
set_option maxHeartbeats 4000000 in
theorem encoded_clunk (t f : Int) (ht0 : 0 ≤ t) (ht1 : t ≤ 65534) (hf0 : 0 ≤ f) (hf1 : f ≤ 4294967294) (w : World) : Calls Tryz.prog 29 #[clv (.slice none 0 0), .agg (clm t f).cs.toArray] w fun e w' => e = .returned (.tuple #[.string (T (clbytes t f)), .int .i64 0]) ∧ Below w.heap.size w w' := by
  have h1 := (Lib.alloc_old (w.alloc (clobj (.slice none 0 0))) (mgobj (clm t f)) _ (by simp)).trans (heap_alloc_new w (clobj (.slice none 0 0)))
  have h2 := heap_alloc_new (w.alloc (clobj (.slice none 0 0))) (mgobj (clm t f))
  rw [show (w.alloc (clobj (.slice none 0 0))).heap.size = w.heap.size + 1 from by simp] at h2
  have H1 := Lib.hid h1
  have H2 := Lib.hid h2
  have HB := Lib.hid (bnext (alloc_below w (clobj (.slice none 0 0))) (alloc_below _ (mgobj (clm t f))))
  have HP := Lib.hid (fun W => put_clunk t f ht0 ht1 hf0 hf1 W)
  have HU := Lib.hid (Tryz.underlying48)
  have HSZ := Lib.hid (mg_size (clm t f))
  clear h1 h2 ht0 ht1 hf0 hf1
  unfold clv
  unfold clobj mgobj at *
  generalize (clm t f).cs.toArray = A1 at *
  generalize clbytes t f = cb at *
  go_enter Tryz.func29, Tryz.ntmps29
  go_upto_region 1 with fail
  generalize World.alloc _ _ = w1 at *
  go_wp2_with (refine wpList_load_row rfl 48 _ rfl (w.heap.size + 1) rfl 48 A1 (0, 0) _ H2.out HU.out rfl HSZ.out ?_)
  (with_reducible refine (HP.out _).mono ?_); rintro e w2 ⟨rfl, b2⟩
  have L1 := Lib.hid ((b2.block _ (row_ltP H1.out)).trans H1.out)
  have HB2 := Lib.hid (bnext HB.out b2)
  clear b2
  obtain ⟨c0, c1, c2, c3, c4, c5⟩ := six_cells L1.out
  go_wp2_with fail
  go_ret2
  exact ⟨rfl, HB2.out⟩
end Go.Proofs.YtfibaopngpfmjaaGreatDoor
set_option linter.unusedVariables false
set_option linter.unusedSimpArgs false
namespace Go.Proofs.YtfibaopngpfmjaaGreatDoor
open Go.RowKit Go.Proofs
/-- The state of Start: the boxes of the client and of the message, the place of the result. -/
def StSt (w W : World) (A0 : Array Value) : Prop :=
  W.heap[w.heap.size]? = some (.cells #[.bool true, .int .i64 0, .string (T []), .slice none 0 0, .slice none 0 0, .string (T [])] 41 (0, 0)) ∧ W.heap[w.heap.size + 1]? = some (.cells A0 48 (0, 0)) ∧ W.heap[w.heap.size + 1 + 1]? = some (.cells #[.bool false, .int .i64 0, .string (T []), .slice none 0 0, .slice none 0 0, .string (T [])] 41 (0, 0)) ∧ Below w.heap.size w W
theorem StSt.next {w W W' : World} {A0 : Array Value} (h : StSt w W A0) (hb : Below W.heap.size W W') : StSt w W' A0 :=
  ⟨(hb.block _ (row_ltP h.1)).trans h.1, (hb.block _ (row_ltP h.2.1)).trans h.2.1, (hb.block _ (row_ltP h.2.2.1)).trans h.2.2.1, bnext h.2.2.2 hb⟩
/-- A write into a later block. -/
theorem StSt.far {w W W' : World} {A0 : Array Value} {p : Nat} (h : StSt w W A0) (hg : W.grownBy W' (some p)) (hp : w.heap.size + 1 + 1 < p) : StSt w W' A0 :=
  ⟨(hg.block _ (row_ltP h.1) (fun e => by have := Option.some.inj e; omega)).trans h.1, (hg.block _ (row_ltP h.2.1) (fun e => by have := Option.some.inj e; omega)).trans h.2.1, (hg.block _ (row_ltP h.2.2.1) (fun e => by have := Option.some.inj e; omega)).trans h.2.2.1,
   h.2.2.2.trans ⟨hg.os, hg.tape, hg.output, hg.size, fun i hi => hg.block i (by have := h.2.2.2.size; omega) (fun e => by have := Option.some.inj e; omega)⟩⟩
theorem start_st (w : World) (m : Mg) : StSt w (((w.alloc (clobj (.slice none 0 0))).alloc (mgobj m)).alloc (.cells #[.bool false, .int .i64 0, .string (T []), .slice none 0 0, .slice none 0 0, .string (T [])] 41)) m.cs.toArray := by
  have h2 := heap_alloc_new (w.alloc (clobj (.slice none 0 0))) (mgobj m)
  rw [show (w.alloc (clobj (.slice none 0 0))).heap.size = w.heap.size + 1 from by simp] at h2
  have h3 := heap_alloc_new ((w.alloc (clobj (.slice none 0 0))).alloc (mgobj m)) (.cells #[.bool false, .int .i64 0, .string (T []), .slice none 0 0, .slice none 0 0, .string (T [])] 41)
  rw [show ((w.alloc (clobj (.slice none 0 0))).alloc (mgobj m)).heap.size = w.heap.size + 1 + 1 from by simp] at h3
  exact ⟨(Lib.alloc_old _ _ _ (by simp; omega)).trans ((Lib.alloc_old _ _ _ (by simp)).trans (heap_alloc_new w _)), (Lib.alloc_old _ _ _ (by simp)).trans h2, h3, bnext (bnext (alloc_below w _) (alloc_below _ _)) (alloc_below _ _)⟩
theorem st_owned {w W W' : World} {A0 : Array Value} {o : Obj} {b n : Nat} {xs : List Value} (h : StSt w W A0) (ho : W.ownsRow w.heap.size 82 40 (.slice (some ⟨b, 0, none⟩) 0 0) n xs)
    (hg : (W.alloc o).grownBy W' (Value.slice (some ⟨b, 0, none⟩) 0 0).ownBlock) : StSt w W' A0 ∧ ∀ (p : Nat) (cs : Array Value) (t : TypeId) (fr : Nat × Nat), 82 ≠ t → W.heap[p]? = some (.cells cs t fr) → W'.heap[p]? = some (.cells cs t fr) := by
  have hal := alloc_below W o
  have hk : ∀ (p : Nat) (cs : Array Value) (t : TypeId) (fr : Nat × Nat), 82 ≠ t → W.heap[p]? = some (.cells cs t fr) → W'.heap[p]? = some (.cells cs t fr) := by
    intro p cs t fr hne hp
    have hlt := row_ltP hp
    exact (hg.block p (by have := hal.size; omega) (fun e => own_neP ho hp hne e.symm)).trans ((hal.block p hlt).trans hp)
  have hb : w.heap.size ≤ b := by
    rcases ho with ⟨_, ⟨h1, _⟩ | ⟨b2, cp, cs, h1, h2, _⟩⟩
    · cases h1
    · cases h1; exact h2
  refine ⟨⟨hk _ _ _ _ (by decide) h.1, hk _ _ _ _ (by decide) h.2.1, hk _ _ _ _ (by decide) h.2.2.1, ?_⟩, hk⟩
  exact (bnext h.2.2.2 hal).trans ⟨hg.os, hg.tape, hg.output, hg.size, fun i hi => hg.block i (by have := (bnext h.2.2.2 hal).size; omega) (fun e => by have : i = b := Option.some.inj e; omega)⟩
theorem wpList_build_at {P : Program} {ops : Array Oper} {rest : List Oper} {o : Oper} {a : Act} {w : World} {Q : Exit → Act → World → Prop} (hg : o.guard = none) (t : TypeId) (parts : Array (Nat × Operand)) (ho : o.op = .build t parts) (cs : Array Value)
    (hb : P.built t (parts.map fun (i, x) => (i, a.eval x)).toList = some cs) (h : wpList P ops Q rest (a.put o.dst (.agg cs)) w) : wpList P ops Q (o :: rest) a w :=
  wpList_build hg t parts ho (by rw [hb]; rfl) (by rw [hb]; exact h)
set_option maxRecDepth 100000 in
set_option maxHeartbeats 8000000 in
theorem start_clunk (f : Int) (hf0 : 0 ≤ f) (hf1 : f ≤ 4294967294) (w : World) : Calls Tryz.prog 11 #[clv (.slice none 0 0), .agg (clm 0 f).cs.toArray] w fun e w' => ∃ ao n c, e = .returned (.tuple #[clv (.slice ao n c), .int .i64 1, .string (T (clbytes 1 f)), .int .i64 0]) ∧ Below w.heap.size w w' := by
  obtain ⟨i0, hi, hz0, hz1, hz2⟩ := info_parts (P := Tryz.prog) (e := 82) (z := .agg (mg0.cs ++ [Value.int .i64 0]).toArray) (size := 40) (bytes := 432) (by kernel_rfl)
  have HS0 := Lib.hid (start_st w (clm 0 f))
  have HOW := Lib.hid own_new
  have HRQ := Lib.hid request_clunk
  have HHV := Lib.hid hasv_nil
  have HCL := Lib.hid (fun W => clone_clunk 0 f W)
  have HFR := Lib.hid free_nil
  have HEN := Lib.hid (fun W => encoded_clunk 1 f (by omega) (by omega) hf0 hf1 W)
  have HK := Lib.hid (show ∀ (W : World) (g : Nat), (W.heap[g]? = some (mgobj (clm 0 f)) → W.cell? ⟨g, 1, none⟩ = some (.int .i64 0) ∧ W.frozen? ⟨g, 1, none⟩ = false ∧ (W.setCell ⟨g, 1, none⟩ (.int .i64 65535)).heap[g]? = some (mgobj (clm 65535 f))) ∧ (W.heap[g]? = some (mgobj (clm 65535 f)) → W.cell? ⟨g, 1, none⟩ = some (.int .i64 65535) ∧ W.frozen? ⟨g, 1, none⟩ = false ∧ (W.setCell ⟨g, 1, none⟩ (.int .i64 1)).heap[g]? = some (mgobj (clm 1 f))) ∧ (W.heap[g]? = some (mgobj (clm 1 f)) → W.cell? ⟨g, 1, none⟩ = some (.int .i64 1)) from fun W g => ⟨fun h => ⟨by rw [Lib.cell_of_heap h]; rfl, Lib.frozen_of_heap h _, mg_set h 1 _ rfl⟩, fun h => ⟨by rw [Lib.cell_of_heap h]; rfl, Lib.frozen_of_heap h _, mg_set h 1 _ rfl⟩, fun h => by rw [Lib.cell_of_heap h]; rfl⟩)
  have HC0 := Lib.hid (show ∀ W : World, StSt w W (clm 0 f).cs.toArray → W.cell? ⟨w.heap.size + 1, 0, none⟩ = some (.int .i64 120) from fun W h => by rw [Lib.cell_of_heap h.2.1]; rfl)
  have HU := Lib.hid (Tryz.underlying48)
  have HSZ := Lib.hid (mg_size (clm 0 f))
  have HSZ1 := Lib.hid (mg_size (clm 1 f))
  have HSY : RowKit.Hid (mg0.cs.toArray.size = (clm 0 f).cs.toArray.size) := Lib.hid rfl
  have HAL := Lib.hid (mg_all (clm 0 f) (clm_ok 0 f))
  have HBU : RowKit.Hid (Tryz.prog.built 82 [(0, .agg (clm 1 f).cs.toArray), (1, .int .i64 65535)] = some ((clm 1 f).cs ++ [Value.int .i64 65535]).toArray) := Lib.hid (by kernel_rfl)
  have HBS : RowKit.Hid (Tryz.prog.builtSlice 82 1 [(0, .agg ((clm 1 f).cs ++ [Value.int .i64 65535]).toArray)] = some ((clm 1 f).cs ++ [Value.int .i64 65535]).toArray) := Lib.hid (by kernel_rfl)
  have HL : RowKit.Hid (((clm 1 f).cs ++ [Value.int .i64 65535]).length = 40) := Lib.hid rfl
  have HL1 : RowKit.Hid (∀ u ∈ (clm 1 f).cs ++ [Value.int .i64 65535], u.oneCell' = true) := Lib.hid (by
    intro u hu
    rcases List.mem_append.1 hu with h | h
    · exact (clm 1 f).one (clm_ok 1 f) u h
    · simp only [List.mem_singleton] at h; subst h; rfl)
  unfold clv at *
  unfold clobj mgobj at *
  clear hf0 hf1
  generalize (clm 0 f).cs.toArray = A0 at *
  generalize (clm 65535 f).cs.toArray = A6 at *
  generalize (clm 1 f).cs = L1 at *
  generalize clbytes 1 f = cb at *
  go_enter Tryz.func11, Tryz.ntmps11
  go_upto_region 1 with fail
  generalize World.alloc _ _ = w1 at *
  obtain ⟨c0, c1, c2, c3, c4, c5⟩ := six_cells HS0.out.1
  go_wp2_with fail
  (with_reducible refine (HOW.out _).mono ?_); rintro e w2 ⟨b, rfl, ho2, b2⟩
  have HS2 := Lib.hid (HS0.out.next b2)
  have HO2 := Lib.hid (owns_lower ho2 HS0.out.2.2.2.size)
  clear b2 ho2 HS0 c0 c1 c2 c3 c4 c5
  go_upto_region 2 with fail
  have hb3 := alloc_below w2 (clobj (.slice (some ⟨b, 0, none⟩) 0 0))
  have HS3 := Lib.hid (HS2.out.next hb3)
  have HO3 := Lib.hid (own_next HO2.out hb3)
  have HD3 := Lib.hid (heap_alloc_new w2 (clobj (.slice (some ⟨b, 0, none⟩) 0 0)))
  have hgd : w.heap.size + 1 + 1 < w2.heap.size := row_ltP HS2.out.2.2.1
  clear HS2 HO2 hb3
  unfold clobj at *
  generalize World.alloc _ _ = w3 at *
  generalize w2.heap.size = d at *
  have k0 := HC0.out _ HS3.out
  obtain ⟨c0, c1, c2, c3, c4, c5⟩ := six_cells HS3.out.1
  go_wp2_with fail
  (with_reducible refine (HRQ.out _).mono ?_); rintro e w4 ⟨rfl, b4⟩
  have HS4 := Lib.hid (HS3.out.next b4)
  have HO4 := Lib.hid (own_next HO3.out b4)
  have HD4 := Lib.hid ((b4.block _ (row_ltP HD3.out)).trans HD3.out)
  clear b4 HS3 HO3 HD3 k0 c0 c1 c2 c3 c4 c5
  have k0 := HC0.out _ HS4.out
  obtain ⟨c0, c1, c2, c3, c4, c5⟩ := six_cells HS4.out.1
  go_wp2_with fail
  (with_reducible refine (HHV.out _).mono ?_); rintro e wx ⟨rfl, rfl⟩
  go_wp2_with (refine wpList_load_row rfl 48 _ rfl (w.heap.size + 1) rfl 48 A0 (0, 0) _ HS4.out.2.1 HU.out rfl HSZ.out ?_)
  (with_reducible refine (HCL.out _).mono ?_); rintro e w5 ⟨rfl, b5⟩
  have HS5 := Lib.hid (HS4.out.next b5)
  have HO5 := Lib.hid (own_next HO4.out b5)
  have HD5 := Lib.hid ((b5.block _ (row_ltP HD4.out)).trans HD4.out)
  clear b5 HS4 HO4 HD4 k0 c0 c1 c2 c3 c4 c5
  have hz5 := heap_alloc_new w5 (mgobj mg0)
  go_upto_region 12 with (refine wpList_store_row rfl 48 _ _ rfl w5.heap.size A0 rfl rfl 48 mg0.cs.toArray hz5 HSZ.out HSY.out HAL.out ?_)
  generalize hw6 : World.setRow _ _ _ = w6
  have b6 := (show Below w5.heap.size w5 w6 from by rw [← hw6]; exact below_setRow (alloc_below w5 _) (Nat.le_refl _) _)
  have K6 := Lib.hid (show w6.heap[w5.heap.size]? = some (.cells A0 48) from by rw [← hw6]; exact heap_setRow_same (heap_alloc_new w5 _))
  clear hw6 hz5
  have HS6 := Lib.hid (HS5.out.next b6)
  have HO6 := Lib.hid (own_next HO5.out b6)
  have HD6 := Lib.hid ((b6.block _ (row_ltP HD5.out)).trans HD5.out)
  have hdg : d < w5.heap.size := row_ltP HD5.out
  clear b6 HS5 HO5 HD5
  generalize w5.heap.size = g at *
  obtain ⟨x0, y0, z0⟩ := (HK.out w6 g).1 K6.out
  have K7 := Lib.hid z0
  have hg7 := grown_setG (below_grownBy (Below.refl _ w6) (some g)) 1 (.int .i64 65535)
  have HS7 := Lib.hid (HS6.out.far hg7 (by omega))
  have HO7 := Lib.hid (HO6.out.kept hg7 (Or.inr (own_neP HO6.out K6.out (by decide))))
  have HD7 := Lib.hid ((hg7.block d (row_ltP HD6.out) (fun e => by have := Option.some.inj e; omega)).trans HD6.out)
  clear z0 hg7 HS6 HO6 HD6 K6
  go_upto_region 13 with fail
  generalize World.setCell w6 ⟨g, 1, none⟩ (.int .i64 65535) = w7 at *
  clear x0 y0
  obtain ⟨c0, c1, c2, c3, c4, c5⟩ := six_cells HS7.out.1
  go_wp2_with fail
  (with_reducible refine (HFR.out _).mono ?_); rintro e w8 ⟨rfl, b8⟩
  have HS8 := Lib.hid (HS7.out.next b8)
  have HO8 := Lib.hid (own_next HO7.out b8)
  have HD8 := Lib.hid ((b8.block _ (row_ltP HD7.out)).trans HD7.out)
  have K8 := Lib.hid ((b8.block _ (row_ltP K7.out)).trans K7.out)
  clear b8 HS7 HO7 HD7 K7 c0 c1 c2 c3 c4 c5
  obtain ⟨x0, y0, z0⟩ := (HK.out w8 g).2.1 K8.out
  have K9 := Lib.hid z0
  have hg9 := grown_setG (below_grownBy (Below.refl _ w8) (some g)) 1 (.int .i64 1)
  have HS9 := Lib.hid (HS8.out.far hg9 (by omega))
  have HO9 := Lib.hid (HO8.out.kept hg9 (Or.inr (own_neP HO8.out K8.out (by decide))))
  have HD9 := Lib.hid ((hg9.block d (row_ltP HD8.out) (fun e => by have := Option.some.inj e; omega)).trans HD8.out)
  clear z0 hg9 HS8 HO8 HD8 K8
  go_upto_region 15 with fail
  generalize World.setCell w8 ⟨g, 1, none⟩ (.int .i64 1) = w9 at *
  clear x0 y0
  obtain ⟨c0, c1, c2, c3, c4, c5⟩ := six_cells HS9.out.1
  go_wp2_with (refine wpList_load_row rfl 48 _ rfl g rfl 48 L1.toArray (0, 0) _ K9.out HU.out rfl HSZ1.out ?_)
  (with_reducible refine (HEN.out _).mono ?_); rintro e wa ⟨rfl, ba⟩
  have HSa := Lib.hid (HS9.out.next ba)
  have HOa := Lib.hid (own_next HO9.out ba)
  have HDa := Lib.hid ((ba.block _ (row_ltP HD9.out)).trans HD9.out)
  have Ka := Lib.hid ((ba.block _ (row_ltP K9.out)).trans K9.out)
  clear ba HS9 HO9 HD9 K9 c0 c1 c2 c3 c4 c5
  go_upto_region 18 with fail
  obtain ⟨c0, c1, c2, c3, c4, c5⟩ := six_cells HDa.out
  obtain ⟨f0, f1, f2, f3, f4, f5⟩ := six_frozen HDa.out
  go_wp2_with (first | refine wpList_load_row rfl 48 _ rfl g rfl 48 L1.toArray (0, 0) _ Ka.out HU.out rfl HSZ1.out ?_ | refine wpList_build_at rfl 82 _ rfl (L1 ++ [Value.int .i64 65535]).toArray (by simp only [List.map_toArray, List.map_cons, List.map_nil]; exact HBU.out) ?_ | refine Great.wpList_buildSliceTo rfl 39 82 1 _ rfl wa.heap.size rfl _ rfl Tryz.underlying39 (L1 ++ [Value.int .i64 65535]).toArray (by simp only [List.map_toArray, List.map_cons, List.map_nil]; exact HBS.out) ?_ | (at_builtin; refine wpList_append_any _ rfl _ _ 39 rfl w.heap.size 82 i0 (.agg (mg0.cs ++ [Value.int .i64 0]).toArray) 40 432 Tryz.underlying39 hi hz0 hz1 hz2 rfl (by decide) (.slice (some ⟨b, 0, none⟩) 0 0) 0 [] rfl (HOa.out.alloc _) (some ⟨wa.heap.size, 0, none⟩) 1 1 (L1 ++ [Value.int .i64 65535]) rfl (fun h => nomatch h) (by rw [HL.out]) ?c2 HL1.out ?c4 ?c5 ?c6 ?_))
  case c2 =>
    intro ad had
    cases had
    exact World.news_of_block (t := 82) (fr := (0, 0)) (heap_alloc_new wa _)
  case c4 => unfold maxLen; omega
  case c5 => omega
  case c6 =>
    have h1 := HSa.out.2.2.2.size
    have h2 := (alloc_below wa (.cells (L1 ++ [Value.int .i64 65535]).toArray 82)).size
    omega
  intro v2 wb hown2 hgrow2 _
  obtain ⟨ao, cp, rfl, _⟩ := own_form hown2
  obtain ⟨hst, hkp⟩ := st_owned HSa.out HOa.out hgrow2
  have HSb := Lib.hid hst
  have HDb := Lib.hid (hkp _ _ _ _ (by decide) HDa.out)
  have Kb := Lib.hid (hkp _ _ _ _ (by decide) Ka.out)
  clear hst hkp hown2 hgrow2 HSa HDa Ka HOa c0 c1 c2 c3 c4 c5 f0 f1 f2 f3 f4 f5
  generalize L1 ++ [Value.int .i64 65535] = LC at *
  obtain ⟨c0, c1, c2, c3, c4, c5⟩ := six_cells HDb.out
  obtain ⟨f0, f1, f2, f3, f4, f5⟩ := six_frozen HDb.out
  have HDc := Lib.hid (heap_setCell_same wb d 4 _ _ (.slice ao 1 cp) HDb.out)
  have hgc := grown_setG (below_grownBy (Below.refl _ wb) (some d)) 4 (.slice ao 1 cp)
  have HSc := Lib.hid (HSb.out.far hgc (by omega))
  have Kc := Lib.hid ((hgc.block _ (row_ltP Kb.out) (fun e => by have := Option.some.inj e; omega)).trans Kb.out)
  clear HSb HDb Kb hgc
  go_upto_region 19 with fail
  generalize World.setCell wb ⟨d, 4, none⟩ (.slice ao 1 cp) = wc at *
  clear c0 c1 c2 c3 c4 c5 f0 f1 f2 f3 f4 f5
  have HDc := Lib.hid (show wc.heap[d]? = some (.cells #[.bool true, .int .i64 0, .string (T []), .slice none 0 0, .slice ao 1 cp, .string (T [])] 41 (0, 0)) from HDc.out)
  obtain ⟨c0, c1, c2, c3, c4, c5⟩ := six_cells HDc.out
  have k1 := (HK.out wc g).2.2 Kc.out
  obtain ⟨f0, f1, f2, f3, f4, f5⟩ := six_frozen HSc.out.2.2.1
  go_wp2_with fail
  obtain ⟨d0, d1, d2, d3, d4, d5⟩ := six_cells HSc.out.2.2.1
  go_region
  have hq := six_stored (v0 := .bool true) (v1 := .int .i64 0) (v2 := .string (T [])) (v3 := .slice none 0 0) (v4 := .slice ao 1 cp) (v5 := .string (T [])) HSc.out.2.2.1
  obtain ⟨q0, q1, q2, q3, q4, q5⟩ := six_cells hq
  have hg5 := six_grown (W := wc) (w.heap.size + 1 + 1) (.bool true) (.int .i64 0) (.string (T [])) (.slice none 0 0) (.slice ao 1 cp) (.string (T []))
  have hb5 : Below w.heap.size w _ := HSc.out.2.2.2.trans ⟨hg5.os, hg5.tape, hg5.output, hg5.size, fun i hi => hg5.block i (by have := HSc.out.2.2.2.size; omega) (fun e => by have := Option.some.inj e; omega)⟩
  go_wp2_with fail
  refine bodyPost_ret (v := .tuple #[.agg #[.bool true, .int .i64 0, .string (T []), .slice none 0 0, .slice ao 1 cp, .string (T [])], .int .i64 1, .string (T cb), .int .i64 0]) ?_ ?_ ?_
  · simp [results, Tryz.results11, go_sem, q0, q1, q2, q3, q4, q5]
  · rfl
  · exact ⟨ao, 1, cp, rfl, bnext hb5 (below_drew1 _)⟩
end Go.Proofs.YtfibaopngpfmjaaGreatDoor
set_option linter.unusedVariables false
set_option linter.unusedSimpArgs false
namespace Go.Proofs.YtfibaopngpfmjaaGreatDoor
open Go.RowKit Go.Proofs
/-- The reader's block: no error so far. -/
def RdRow (W : World) (g : Nat) (s : List UInt8) (a : Nat) : Prop := W.heap[g]? = some (.cells #[.string (T s), .int .i64 (a : Int), .bool true] 87 (0, 0))
theorem RdRow.reads {W : World} {g a : Nat} {s : List UInt8} (h : RdRow W g s a) : (W.cell? ⟨g, 0, none⟩ = some (.string (T s)) ∧ W.cell? ⟨g, 1, none⟩ = some (.int .i64 (a : Int)) ∧ W.cell? ⟨g, 2, none⟩ = some (.bool true)) ∧ W.frozen? ⟨g, 1, none⟩ = false ∧ W.frozen? ⟨g, 2, none⟩ = false := by
  unfold RdRow at h
  refine ⟨⟨?_, ?_, ?_⟩, ?_, ?_⟩
  all_goals first
    | (rw [Lib.cell_of_heap h]; rfl)
    | (exact Lib.frozen_of_heap h _)
theorem RdRow.next {W W' : World} {g a : Nat} {s : List UInt8} (h : RdRow W g s a) (hb : Below W.heap.size W W') : RdRow W' g s a := (hb.block _ (row_ltP h)).trans h
theorem get_num (s : List UInt8) (a k : Nat) (w : World) (hk : 1 ≤ k) (hk2 : k ≤ 8) (h : a + k ≤ s.length) (hl : s.length ≤ 1000000) (hE : Oct.getE s (a : Int) (k : Int) = 0) :
    Calls Tryz.prog 30 #[.string (T s), .int .i64 (a : Int), .int .i64 (k : Int)] w fun e w' => e = .returned (.tuple #[.int .i64 (Oct.getN s (a : Int) (k : Int)), .int .i64 ((a + k : Nat) : Int), .int .i64 0]) ∧ w' = w := by
  refine (get_good (T s) a k w hk hk2 (by rw [T_size]; omega) (by rw [T_size]; omega)).mono ?_
  intro e w' h
  unfold GetSays at h
  rw [show (T s).data.toList = s from by simp [T]] at h
  unfold Oct.getT at h
  rw [hE, if_pos rfl] at h
  obtain ⟨rfl, rfl⟩ := h
  exact ⟨by simp, rfl⟩
set_option maxHeartbeats 1000000 in
theorem rnum_any (g : Nat) (s : List UInt8) (a k : Nat) (w : World) (h0 : RdRow w g s a) (hk : 1 ≤ k) (hk2 : k ≤ 8) (h : a + k ≤ s.length) (hl : s.length ≤ 1000000) (hE : Oct.getE s (a : Int) (k : Int) = 0) :
    Calls Tryz.prog 31 #[.pointer (some ⟨g, 0, none⟩), .int .i64 (k : Int)] w fun e w' => e = .returned (.int .i64 (Oct.getN s (a : Int) (k : Int))) ∧ RdRow w' g s (a + k) ∧ w.grownBy w' (some g) := by
  have HG := Lib.hid (fun W => get_num s a k W hk hk2 h hl hE)
  have HS := Lib.hid (show RdRow w.drew g s a from h0.next (below_drew1 w))
  have HSN := Lib.hid (show RdRow (w.drew.setCell ⟨g, 1, none⟩ (.int .i64 ((a + k : Nat) : Int))) g s (a + k) from heap_setCell_same w.drew g 1 _ _ (.int .i64 ((a + k : Nat) : Int)) HS.out)
  have HGN := Lib.hid (show w.grownBy (w.drew.setCell ⟨g, 1, none⟩ (.int .i64 ((a + k : Nat) : Int))) (some g) from (below_grownBy (below_drew1 w) (some g)).trans (grown_setG (below_grownBy (Below.refl _ w.drew) (some g)) 1 _))
  obtain ⟨⟨c0, c1, c2⟩, f1, f2⟩ := h0.reads
  clear h0 hk hk2 h hl hE
  generalize Oct.getN s (a : Int) (k : Int) = n at *
  generalize hak : ((a + k : Nat) : Int) = ak at *
  generalize (k : Int) = kk at *
  generalize (a : Int) = aa at *
  go_enter Tryz.func31, Tryz.ntmps31
  go_upto_region 3 with fail
  go_region_held3 (fun W' => W'.cell? ⟨g, 0, none⟩ = some (.string (T s)) ∧ W'.cell? ⟨g, 1, none⟩ = some (.int .i64 aa)) (first | (with_reducible assumption) | (exact ⟨c0, c1⟩)) (first | (go_at_call 30; (with_reducible refine (HG.out _).mono ?_); rintro e w4 ⟨rfl, rfl⟩))
  go_wp2_with fail
  go_ret
  exact ⟨rfl, HSN.out, HGN.out⟩
set_option maxRecDepth 100000 in
set_option maxHeartbeats 4000000 in
theorem rfield_clunk (g p : Nat) (s : List UInt8) (a : Nat) (t : Int) (w : World) (h0 : RdRow w g s a) (hm : w.heap[p]? = some (mgobj (clm t 0))) (hgp : g ≠ p) (h : a + 4 ≤ s.length) (hl : s.length ≤ 1000000) (hE : Oct.getE s (a : Int) 4 = 0) :
    Calls Tryz.prog 33 #[.pointer (some ⟨g, 0, none⟩), .pointer (some ⟨p, 0, none⟩), .int .u8 102] w fun e w' => e = .returned (.tuple #[]) ∧ RdRow w' g s (a + 4) ∧ w'.heap[p]? = some (mgobj (clm t (Oct.getN s (a : Int) 4))) ∧ (∀ B, B ≤ g → B ≤ p → B ≤ w.heap.size → Below B w w') := by
  have HN := Lib.hid (fun W h0 => show Calls Tryz.prog 31 #[.pointer (some ⟨g, 0, none⟩), .int .i64 4] W fun e w' => e = .returned (.int .i64 (Oct.getN s (a : Int) 4)) ∧ RdRow w' g s (a + 4) ∧ W.grownBy w' (some g) from rnum_any g s a 4 W h0 (by omega) (by omega) h hl hE)
  have HS := Lib.hid h0
  have HM := Lib.hid hm
  clear h hl hE h0 hm
  generalize Oct.getN s (a : Int) 4 = n at *
  have hF : (clm t 0).cs.toArray.setIfInBounds 2 (.int .i64 n) = (clm t n).cs.toArray := rfl
  have HC := Lib.hid (show ∀ W : World, W.heap[p]? = some (mgobj (clm t 0)) → (W.cell? ⟨p, 2, none⟩ = some (.int .i64 0) ∧ W.frozen? ⟨p, 2, none⟩ = false) ∧ (W.setCell ⟨p, 2, none⟩ (.int .i64 n)).heap[p]? = some (mgobj (clm t n)) from fun W h => ⟨⟨by rw [Lib.cell_of_heap h]; rfl, Lib.frozen_of_heap h _⟩, mg_set h 2 _ hF⟩)
  clear hF
  generalize mgobj (clm t 0) = m0 at *
  generalize mgobj (clm t n) = mn at *
  go_enter Tryz.func33, Tryz.ntmps33
  go_wp2_with fail
  have hs := HS.out
  (with_reducible refine (HN.out _ hs).mono ?_); rintro e w2 ⟨rfl, hs2, g2⟩
  have HM2 := Lib.hid ((g2.block _ (row_ltP HM.out) (fun e => hgp (Option.some.inj e).symm)).trans HM.out)
  obtain ⟨⟨c2, f2⟩, k2⟩ := HC.out _ HM2.out
  have HK := Lib.hid k2
  have hg3 := grown_setG (below_grownBy (Below.refl _ w2) (some p)) 2 (.int .i64 n)
  have HS3 := Lib.hid (show RdRow (w2.setCell ⟨p, 2, none⟩ (.int .i64 n)) g s (a + 4) from (hg3.block _ (row_ltP hs2) (fun e => hgp (Option.some.inj e))).trans hs2)
  have HB := Lib.hid (show ∀ B, B ≤ g → B ≤ p → B ≤ w.heap.size → Below B w (w2.setCell ⟨p, 2, none⟩ (.int .i64 n)) from fun B hg hp hB => ((below_of_grown g2 (row_ltP hs)).mono (by have := row_ltP hs; omega) : Below B w w2).trans ⟨hg3.os, hg3.tape, hg3.output, hg3.size, fun i hi => hg3.block i (by have := g2.size; omega) (fun e => by have := Option.some.inj e; omega)⟩)
  clear hs hs2 g2 k2 hg3
  go_wp2_with fail
  first | go_end0 | refine bodyPost_ret (results_none rfl _ _ _) rfl ?_
  exact ⟨rfl, HS3.out, HK.out, HB.out⟩
end Go.Proofs.YtfibaopngpfmjaaGreatDoor
set_option linter.unusedVariables false
set_option linter.unusedSimpArgs false
namespace Go.Proofs.YtfibaopngpfmjaaGreatDoor
open Go.RowKit Go.Proofs
section
variable {P : Program}
theorem results_cell_row3 {fn : Func} {p q r : Tmp} {ty : TypeId} (h : fn.results = #[.cell p ty, .tmp q, .tmp r]) (tmps : Array Value) (w : World) (g : Nat) (t : TypeId) (cs : Array Value) (fr : Nat × Nat) (d : TypeDesc) (x y : Value)
    (hp : tmps.getD p undef = .pointer (some ⟨g, 0, none⟩)) (hq : tmps.getD q undef = x) (hr : tmps.getD r undef = y) (hg : w.heap[g]? = some (.cells cs t fr))
    (hu : P.underlying ty = some d) (hd : (match d with | .struct _ | .array _ _ => true | _ => false) = true) (hi : (P.info? ty).map (·.size) = some cs.size) :
    (results fn tmps).run P w = .ok (.tuple #[.agg cs, x, y]) w := by
  have hp' : tmps[p]?.getD undef = .pointer (some ⟨g, 0, none⟩) := by simpa using hp
  have hq' : tmps[q]?.getD undef = x := by simpa using hq
  have hr' : tmps[r]?.getD undef = y := by simpa using hr
  simp [results, h, hp', hq', hr', asAddr, run_loadVar_row w g t ty cs fr d hg hu hd hi]
end
def cb17 : List UInt8 := clbytes 1 7
theorem cb17_len : cb17.length = 11 := by decide +kernel
set_option maxRecDepth 100000 in
set_option maxHeartbeats 8000000 in
theorem get_clunk17 (w : World) : Calls Tryz.prog 12 #[.string (T cb17), .int .i64 0] w fun e w' => e = .returned (.tuple #[.agg (clm 1 7).cs.toArray, .int .i64 11, .int .i64 0]) ∧ Below w.heap.size w w' := by
  have HL := cb17_len
  have HB := Lib.hid (alloc_below w (mgobj mg0))
  have H1 := Lib.hid (heap_alloc_new w (mgobj mg0))
  have HG := Lib.hid (fun W => show Calls Tryz.prog 30 #[.string (T cb17), .int .i64 0, .int .i64 4] W fun e w' => e = .returned (.tuple #[.int .i64 11, .int .i64 4, .int .i64 0]) ∧ w' = W from by
    have := get_num cb17 0 4 W (by omega) (by omega) (by rw [HL]; omega) (by rw [HL]; omega) (by decide +kernel)
    rw [show Oct.getN cb17 ((0 : Nat) : Int) ((4 : Nat) : Int) = 11 from by decide +kernel] at this
    exact this)
  have HN1 := Lib.hid (fun (g : Nat) (W : World) (h : RdRow W g cb17 4) => show Calls Tryz.prog 31 #[.pointer (some ⟨g, 0, none⟩), .int .i64 1] W fun e w' => e = .returned (.int .i64 120) ∧ RdRow w' g cb17 5 ∧ W.grownBy w' (some g) from by
    have := rnum_any g cb17 4 1 W h (by omega) (by omega) (by rw [HL]; omega) (by rw [HL]; omega) (by decide +kernel)
    rw [show Oct.getN cb17 ((4 : Nat) : Int) ((1 : Nat) : Int) = 120 from by decide +kernel] at this
    exact this)
  have HN2 := Lib.hid (fun (g : Nat) (W : World) (h : RdRow W g cb17 5) => show Calls Tryz.prog 31 #[.pointer (some ⟨g, 0, none⟩), .int .i64 2] W fun e w' => e = .returned (.int .i64 1) ∧ RdRow w' g cb17 7 ∧ W.grownBy w' (some g) from by
    have := rnum_any g cb17 5 2 W h (by omega) (by omega) (by rw [HL]; omega) (by rw [HL]; omega) (by decide +kernel)
    rw [show Oct.getN cb17 ((5 : Nat) : Int) ((2 : Nat) : Int) = 1 from by decide +kernel] at this
    exact this)
  have HFI := Lib.hid (fun (g p : Nat) (W : World) (h0 : RdRow W g cb17 7) (hm : W.heap[p]? = some (mgobj (clm 1 0))) (hgp : g ≠ p) => show Calls Tryz.prog 33 #[.pointer (some ⟨g, 0, none⟩), .pointer (some ⟨p, 0, none⟩), .int .u8 102] W fun e w' => e = .returned (.tuple #[]) ∧ RdRow w' g cb17 11 ∧ w'.heap[p]? = some (mgobj (clm 1 7)) ∧ (∀ B, B ≤ g → B ≤ p → B ≤ W.heap.size → Below B W w') from by
    have := rfield_clunk g p cb17 7 1 W h0 hm hgp (by rw [HL]; omega) (by rw [HL]; omega) (by decide +kernel)
    rw [show Oct.getN cb17 ((7 : Nat) : Int) 4 = 7 from by decide +kernel] at this
    exact this)
  have HLY := Lib.hid layout_clunk
  have HNM := Lib.hid name_clunk
  have HCK := Lib.hid (fun W => check_clunk 1 7 (by omega) (by omega) (by omega) (by omega) W)
  have HU := Lib.hid (Tryz.underlying48)
  have HSZ0 := Lib.hid (mg_size (clm 1 0))
  have HSZ := Lib.hid (mg_size (clm 1 7))
  have HSY0 : RowKit.Hid (mg0.cs.toArray.size = (clm 1 0).cs.toArray.size) := Lib.hid rfl
  have HSY : RowKit.Hid (mg0.cs.toArray.size = (clm 1 7).cs.toArray.size) := Lib.hid rfl
  have HAL0 := Lib.hid (mg_all (clm 1 0) (clm_ok 1 0))
  have HAL := Lib.hid (mg_all (clm 1 7) (clm_ok 1 7))
  have HBU : RowKit.Hid (Tryz.prog.built 48 [(0, .int .i64 120), (1, .int .i64 1)] = some (clm 1 0).cs.toArray) := Lib.hid (by kernel_rfl)
  have HC := Lib.hid (show ∀ (W : World) (p : Nat), (W.heap[p]? = some (mgobj (clm 1 0)) → W.cell? ⟨p, 0, none⟩ = some (.int .i64 120)) ∧ (W.heap[p]? = some (mgobj (clm 1 7)) → W.cell? ⟨p, 0, none⟩ = some (.int .i64 120)) from fun W p => ⟨fun h => by rw [Lib.cell_of_heap h]; rfl, fun h => by rw [Lib.cell_of_heap h]; rfl⟩)
  have hsz : (T cb17).size = 11 := by rw [T_size, HL]
  have hex : (T cb17).extract 0 11 = T cb17 := by rw [← hsz]; exact ByteArray.extract_zero_size
  clear HL
  unfold mgobj at *
  generalize (clm 1 0).cs.toArray = A0 at *
  generalize (clm 1 7).cs.toArray = A7 at *
  generalize cb17 = cb at *
  go_enter Tryz.func12, Tryz.ntmps12
  go_upto_region 1 with fail
  generalize hw1 : World.alloc _ _ = w1
  have HB1 := Lib.hid (show Below w.heap.size w w1 from by rw [← hw1]; exact HB.out)
  have K1 := Lib.hid (show w1.heap[w.heap.size]? = some (.cells mg0.cs.toArray 48) from by rw [← hw1]; exact H1.out)
  clear HB H1 hw1
  go_wp2_with fail
  (with_reducible refine (HG.out _).mono ?_); rintro e wx ⟨rfl, rfl⟩
  go_upto_region 11 with fail
  have hr := heap_alloc_new wx (.cells #[.string (T cb), .int .i64 4, .bool true] 87)
  have HR2 := Lib.hid (show RdRow (wx.alloc (.cells #[.string (T cb), .int .i64 4, .bool true] 87)) wx.heap.size cb 4 from hr)
  have b2 := alloc_below wx (.cells #[.string (T cb), .int .i64 4, .bool true] 87)
  have HB2 := Lib.hid (bnext HB1.out b2)
  have K2 := Lib.hid ((b2.block _ (row_ltP K1.out)).trans K1.out)
  have hg0 : w.heap.size < wx.heap.size := row_ltP K1.out
  clear hr b2 HB1 K1
  generalize World.alloc wx _ = w2 at *
  generalize wx.heap.size = g at *
  go_wp2_with fail
  have hr2 := HR2.out
  (with_reducible refine (HN1.out _ _ hr2).mono ?_); rintro e w3 ⟨rfl, hr3, g3⟩
  have HR3 := Lib.hid hr3
  have K3 := Lib.hid ((g3.block _ (row_ltP K2.out) (fun e => by have := Option.some.inj e; omega)).trans K2.out)
  have HB3 := Lib.hid (HB2.out.trans ((below_of_grown g3 (row_ltP hr2)).mono (by omega)))
  clear hr2 hr3 g3 HR2 K2 HB2
  go_wp2_with fail
  have hr3 := HR3.out
  (with_reducible refine (HN2.out _ _ hr3).mono ?_); rintro e w4 ⟨rfl, hr4, g4⟩
  have HR4 := Lib.hid hr4
  have K4 := Lib.hid ((g4.block _ (row_ltP K3.out) (fun e => by have := Option.some.inj e; omega)).trans K3.out)
  have HB4 := Lib.hid (HB3.out.trans ((below_of_grown g4 (row_ltP hr3)).mono (by omega)))
  clear hr3 hr4 g4 HR3 K3 HB3
  have hz4 := heap_alloc_new w4 (.cells mg0.cs.toArray 48)
  go_upto_region 12 with (first | refine wpList_build_at rfl 48 _ rfl A0 (by simp only [List.map_toArray, List.map_cons, List.map_nil]; exact HBU.out) ?_ | refine wpList_store_row rfl 48 _ _ rfl w4.heap.size A0 rfl rfl 48 mg0.cs.toArray hz4 HSZ0.out HSY0.out HAL0.out ?_)
  generalize hw5 : World.setRow _ _ _ = w5
  have b5 := (show Below w4.heap.size w4 w5 from by rw [← hw5]; exact below_setRow (alloc_below w4 _) (Nat.le_refl _) _)
  have KP5 := Lib.hid (show w5.heap[w4.heap.size]? = some (.cells A0 48) from by rw [← hw5]; exact heap_setRow_same (heap_alloc_new w4 _))
  clear hw5 hz4
  have HR5 := Lib.hid (HR4.out.next b5)
  have K5 := Lib.hid ((b5.block _ (row_ltP K4.out)).trans K4.out)
  have HB5 := Lib.hid (bnext HB4.out b5)
  have hg1 : g < w4.heap.size := row_ltP HR4.out
  clear b5 HR4 K4 HB4
  generalize w4.heap.size = p at *
  have c0 := (HC.out w5 p).1 KP5.out
  go_wp2_with fail
  (with_reducible refine (HLY.out _).mono ?_); rintro e wy ⟨rfl, rfl⟩
  go_wp2_with fail
  refine wp_loop_rounds 2 ?_
  rw [rounds_succ]
  have k102 : ∀ h, ((T [102])[0]'h).toNat = 102 := fun _ => rfl
  have k1 : (T [102]).size = 1 := rfl
  go_wp2_with fail
  have hr5 := HR5.out
  have hp5 := KP5.out
  (with_reducible refine (HFI.out _ _ _ hr5 hp5 (by omega)).mono ?_); rintro e w6 ⟨rfl, hr6, hp6, g6⟩
  have HR6 := Lib.hid hr6
  have KP6 := Lib.hid hp6
  have b6 := g6 g (Nat.le_refl _) (by omega) (by have := row_ltP hr5; omega)
  have K6 := Lib.hid ((b6.block _ (by omega)).trans K5.out)
  have HB6 := Lib.hid (HB5.out.trans (b6.mono (by omega)))
  clear hr5 hp5 hr6 hp6 g6 b6 HR5 KP5 K5 HB5 c0
  go_wp2_with fail
  rw [rounds_succ]
  have c0 := (HC.out w6 p).2 KP6.out
  obtain ⟨⟨r0, r1, r2⟩, _, _⟩ := HR6.out.reads
  go_wp2_with fail
  (with_reducible refine (HNM.out _).mono ?_); rintro e w7 ⟨rfl, b7⟩
  have HR7 := Lib.hid (HR6.out.next b7)
  have KP7 := Lib.hid ((b7.block _ (row_ltP KP6.out)).trans KP6.out)
  have K7 := Lib.hid ((b7.block _ (row_ltP K6.out)).trans K6.out)
  have HB7 := Lib.hid (bnext HB6.out b7)
  clear b7 HR6 KP6 K6 HB6 c0 r0 r1 r2
  obtain ⟨⟨r0, r1, r2⟩, _, _⟩ := HR7.out.reads
  have kn : (T [84, 67, 108, 117, 110, 107] = ByteArray.empty) = False := eq_false (fun h => (by decide : ¬ (6 : Nat) = 0) (congrArg ByteArray.size h))
  go_wp2_with (refine wpList_load_row rfl 48 _ rfl p rfl 48 A7 (0, 0) _ KP7.out HU.out rfl HSZ.out ?_)
  (with_reducible refine (HCK.out _).mono ?_); rintro e w8 ⟨rfl, b8⟩
  have KP8 := Lib.hid ((b8.block _ (row_ltP KP7.out)).trans KP7.out)
  have K8 := Lib.hid ((b8.block _ (row_ltP K7.out)).trans K7.out)
  have HB8 := Lib.hid (bnext HB7.out b8)
  clear b8 HR7 KP7 K7 HB7 r0 r1 r2
  generalize mg0.cs.toArray = A3 at *
  go_wp2_with (first | refine wpList_load_row rfl 48 _ rfl p rfl 48 A7 (0, 0) _ KP8.out HU.out rfl HSZ.out ?_ | refine wpList_store_row rfl 48 _ _ rfl w.heap.size A7 rfl rfl 48 A3 K8.out HSZ.out HSY.out HAL.out ?_)
  refine bodyPost_ret (v := .tuple #[.agg A7, .int .i64 11, .int .i64 0]) (results_cell_row3 Tryz.results12 _ _ w.heap.size 48 A7 (0, 0) _ _ _ rfl rfl rfl (heap_setRow_same K8.out) HU.out rfl HSZ.out) rfl ⟨rfl, below_setRow HB8.out (Nat.le_refl _) _⟩
end Go.Proofs.YtfibaopngpfmjaaGreatDoor
set_option linter.unusedVariables false
set_option linter.unusedSimpArgs false
namespace Go.Proofs.YtfibaopngpfmjaaGreatDoor
open Go.RowKit Go.Proofs
def abw : List UInt8 := [97, 32, 98]
theorem Lx.prog_ab : T [101, 99, 104, 111, 32] ++ T (Lx.quote abw) = T (Lx.prog [echo, abw]) := by
  rw [T_append]
  exact congrArg T (by decide)
set_option maxRecDepth 100000 in
set_option maxHeartbeats 4000000 in
theorem awake_any (m : Int) (w : World) (hm : w.cell? ⟨0, 0, none⟩ = some (.int .i64 m)) :
    Calls Tryz.prog 5 #[] w fun e w' => e = .returned (.bool true) ∧ Below w.heap.size w w' := by
  have hm0 : 0 < w.heap.size := block_lt_of_cell hm
  have HM := Lib.hid hm
  have HQ := Lib.hid (show Calls Tryz.prog 7 #[.string (T [97, 32, 98])] w fun e w' => e = .returned (.string (T (Lx.quote abw))) ∧ Below w.heap.size w w' from quote_any abw m w (by decide) hm hm0)
  have HP := Lib.hid (fun (W : World) h => program_any m [abw] W (by decide) (by decide) h)
  rw [← Lx.prog_ab] at HP
  have HE := Lib.hid (fun (t : Tok) (W : World) h => expWord_any t W h)
  have hq5 : (Lx.quote abw).length = 5 := by decide
  have hn1 : ¬ 9223372036854775807 < 5 + (Lx.quote abw).length := by omega
  have HNW := Lib.hid (fun W => new_any W)
  have HST := Lib.hid (fun W => show Calls Tryz.prog 11 #[clv (.slice none 0 0), .agg (clm 0 7).cs.toArray] W fun e w' => ∃ ao n c, e = .returned (.tuple #[clv (.slice ao n c), .int .i64 1, .string (T cb17), .int .i64 0]) ∧ Below W.heap.size W w' from start_clunk 7 (by omega) (by omega) W)
  have HGE := Lib.hid (fun W => get_clunk17 W)
  have HBU : RowKit.Hid (Tryz.prog.built 48 [(0, .int .i64 120), (2, .int .i64 7)] = some (clm 0 7).cs.toArray) := Lib.hid (by kernel_rfl)
  have HSZ := Lib.hid (mg_size (clm 1 7))
  have HSY : RowKit.Hid (mg0.cs.toArray.size = (clm 1 7).cs.toArray.size) := Lib.hid rfl
  have HAL := Lib.hid (mg_all (clm 1 7) (clm_ok 1 7))
  have HC := Lib.hid (show ∀ (W : World) (p : Nat), W.heap[p]? = some (mgobj (clm 1 7)) → W.cell? ⟨p, 1, none⟩ = some (.int .i64 1) ∧ W.cell? ⟨p, 2, none⟩ = some (.int .i64 7) from fun W p h => ⟨by rw [Lib.cell_of_heap h]; rfl, by rw [Lib.cell_of_heap h]; rfl⟩)
  have hsz : (T cb17).size = 11 := by rw [T_size, cb17_len]
  clear hm hq5
  unfold clv mgobj at *
  generalize (clm 1 7).cs.toArray = A7 at *
  generalize (clm 0 7).cs.toArray = A0 at *
  generalize cb17 = cb at *
  generalize Lx.quote abw = q at *
  go_enter Tryz.func5, Tryz.ntmps5
  go_wp2_with fail
  (with_reducible refine HQ.out.mono ?_); rintro e w1 ⟨rfl, b1⟩
  have HB1 := Lib.hid b1
  have hm1 := (b1.cell (p := ⟨0, 0, none⟩) hm0).trans HM.out
  clear b1
  go_wp2_with fail
  refine (HP.out _ hm1).mono ?_; rintro e w2 ⟨l, p, cb2, cc, k, wc, rfl, hci, hkey, b2⟩
  have HB2 := Lib.hid (bnext HB1.out b2)
  have hll : l.length = 2 := by have := congrArg List.length hkey; simpa using this
  obtain ⟨t, ht⟩ : ∃ t, l[1]? = some t := ⟨_, List.getElem?_eq_getElem (by omega)⟩
  have htk : t.key = Lx.key abw := by
    have h2 : (l.map Tok.key)[1]? = some t.key := by rw [List.getElem?_map, ht]; rfl
    rw [hkey] at h2
    exact (Option.some.inj h2).symm
  have htx : t.text = abw := congrArg (fun x => x.2.1) htk
  have htq : t.quoted = Lx.marks abw := congrArg (fun x => x.2.2) htk
  obtain ⟨⟨c0, c1, c2, c3, c4, c5⟩, _, hk, hw⟩ := hci
  obtain ⟨t', ht', d0, d1, d2, d3, d4⟩ := hw 1 (by omega)
  obtain rfl : t' = t := Option.some.inj (ht'.symm.trans ht)
  rw [htx] at d1
  rw [htq] at d2
  rw [hll] at c3
  have HE1 := Lib.hid (HE.out ⟨1, 0, abw, Lx.marks abw⟩ w2 (marks_length abw))
  clear b2 hm1 HB1 HQ HP hkey hll ht htk htx htq hk hw ht' HE
  generalize Lx.marks abw = ms at *
  have kab : (T abw = T [97, 32, 98]) = True := eq_true rfl
  go_wp2_with fail
  (with_reducible refine HE1.out.mono ?_); rintro e w3 ⟨a, ac, b, bd, rfl, h0, h2, b3⟩
  have HB3 := Lib.hid (bnext HB2.out b3)
  have ha := block_lt_of_cell h0
  have H0 := Lib.hid h0
  clear b3 HB2 c0 c1 c2 c3 c4 c5 d0 d1 d2 d3 d4 h0 h2 HE1
  go_wp2_with fail
  (with_reducible refine (HNW.out _).mono ?_); rintro e w4 ⟨rfl, b4⟩
  have HB4 := Lib.hid (bnext HB3.out b4)
  have H04 := Lib.hid ((b4.cell (p := ⟨a, 0, none⟩) ha).trans H0.out)
  have ha4 : a < w4.heap.size := Nat.lt_of_lt_of_le ha b4.size
  clear b4 HB3 H0 ha
  go_wp2_with (refine wpList_build_at rfl 48 _ rfl A0 (by simp only [List.map_toArray, List.map_cons, List.map_nil]; exact HBU.out) ?_)
  (with_reducible refine (HST.out _).mono ?_); rintro e w5 ⟨ao, n, c, rfl, b5⟩
  have HB5 := Lib.hid (bnext HB4.out b5)
  have H05 := Lib.hid ((b5.cell (p := ⟨a, 0, none⟩) ha4).trans H04.out)
  have ha5 : a < w5.heap.size := Nat.lt_of_lt_of_le ha4 b5.size
  clear b5 HB4 H04 ha4
  go_upto_region 6 with fail
  generalize hw6 : World.alloc _ _ = w6
  have b6 := (show Below w5.heap.size w5 w6 from by rw [← hw6]; exact alloc_below w5 _)
  have HB6 := Lib.hid (bnext HB5.out b6)
  have H06 := Lib.hid ((b6.cell (p := ⟨a, 0, none⟩) ha5).trans H05.out)
  have ha6 : a < w6.heap.size := Nat.lt_of_lt_of_le ha5 b6.size
  clear b6 HB5 H05 ha5 hw6
  go_wp2_with fail
  (with_reducible refine (HGE.out _).mono ?_); rintro e w7 ⟨rfl, b7⟩
  have HB7 := Lib.hid (bnext HB6.out b7)
  have H07 := Lib.hid ((b7.cell (p := ⟨a, 0, none⟩) ha6).trans H06.out)
  have ha7 : a < w7.heap.size := Nat.lt_of_lt_of_le ha6 b7.size
  clear b7 HB6 H06 ha6
  have hz7 := heap_alloc_new w7 (.cells mg0.cs.toArray 48)
  go_upto_region 7 with (refine wpList_store_row rfl 48 _ _ rfl w7.heap.size A7 rfl rfl 48 mg0.cs.toArray hz7 HSZ.out HSY.out HAL.out ?_)
  generalize hw8 : World.setRow _ _ _ = w8
  have b8 := (show Below w7.heap.size w7 w8 from by rw [← hw8]; exact below_setRow (alloc_below w7 _) (Nat.le_refl _) _)
  have KP8 := Lib.hid (show w8.heap[w7.heap.size]? = some (.cells A7 48) from by rw [← hw8]; exact heap_setRow_same (heap_alloc_new w7 _))
  clear hw8 hz7
  have HB8 := Lib.hid (bnext HB7.out b8)
  have h0 := (b8.cell (p := ⟨a, 0, none⟩) ha7).trans H07.out
  obtain ⟨k1, k2⟩ := HC.out _ _ KP8.out
  clear b8 HB7 H07 ha7
  generalize w7.heap.size = g at *
  go_wp2_with fail
  go_ret
  exact ⟨rfl, HB8.out⟩
theorem words_true (m : Int) (s : List UInt8) (w : World) (hm : w.cell? ⟨0, 0, none⟩ = some (.int .i64 m)) :
    Calls Tryz.prog 3 #[.string (T s)] w fun e w' => e = .returned (.bool true) ∧ Below w.heap.size w w' :=
  words_any m s w hm (fun W h => awake_any m W h)
end Go.Proofs.YtfibaopngpfmjaaGreatDoor
set_option linter.unusedVariables false
namespace Go.Proofs.YtfibaopngpfmjaaGreatDoor.partsWordsDone
open Go.ChangeShapes Go.WideShapes Go.ChangeAt Go.RowKit
open Go.ChangeMaps (open_string shut_string)

theorem own : ownKnob Tryz.prog.godebug = none := by kernel_rfl
theorem laidOut : laidOutB Tryz.prog = true := by kernel_rfl
set_option maxRecDepth 100000 in
def zA : Array Value := #[.int .u8 0, .int .u8 1, .int .u8 28, .int .u8 2, .int .u8 29, .int .u8 14, .int .u8 24, .int .u8 3, .int .u8 30, .int .u8 22, .int .u8 20, .int .u8 15, .int .u8 25, .int .u8 17, .int .u8 4, .int .u8 8, .int .u8 31, .int .u8 27, .int .u8 13, .int .u8 23, .int .u8 21, .int .u8 19, .int .u8 16, .int .u8 7, .int .u8 26, .int .u8 12, .int .u8 18, .int .u8 6, .int .u8 11, .int .u8 5, .int .u8 10, .int .u8 9]
set_option maxRecDepth 100000 in
def zB : Array Value := #[.int .u8 0, .int .u8 1, .int .u8 56, .int .u8 2, .int .u8 57, .int .u8 49, .int .u8 28, .int .u8 3, .int .u8 61, .int .u8 58, .int .u8 42, .int .u8 50, .int .u8 38, .int .u8 29, .int .u8 17, .int .u8 4, .int .u8 62, .int .u8 47, .int .u8 59, .int .u8 36, .int .u8 45, .int .u8 43, .int .u8 51, .int .u8 22, .int .u8 53, .int .u8 39, .int .u8 33, .int .u8 30, .int .u8 24, .int .u8 18, .int .u8 12, .int .u8 5, .int .u8 63, .int .u8 55, .int .u8 48, .int .u8 27, .int .u8 60, .int .u8 41, .int .u8 37, .int .u8 16, .int .u8 46, .int .u8 35, .int .u8 44, .int .u8 21, .int .u8 52, .int .u8 32, .int .u8 23, .int .u8 11, .int .u8 54, .int .u8 26, .int .u8 40, .int .u8 15, .int .u8 34, .int .u8 20, .int .u8 31, .int .u8 10, .int .u8 25, .int .u8 14, .int .u8 19, .int .u8 9, .int .u8 13, .int .u8 8, .int .u8 7, .int .u8 6]
set_option maxRecDepth 100000 in
def zC : Array Value := #[.int .u64 1, .int .u64 10, .int .u64 100, .int .u64 1000, .int .u64 10000, .int .u64 100000, .int .u64 1000000, .int .u64 10000000, .int .u64 100000000, .int .u64 1000000000, .int .u64 10000000000, .int .u64 100000000000, .int .u64 1000000000000, .int .u64 10000000000000, .int .u64 100000000000000, .int .u64 1000000000000000, .int .u64 10000000000000000, .int .u64 100000000000000000, .int .u64 1000000000000000000, .int .u64 10000000000000000000]
set_option maxRecDepth 100000 in
def zD : Array Value := #[.int .u8 128, .int .u8 191, .int .u8 160, .int .u8 191, .int .u8 128, .int .u8 159, .int .u8 144, .int .u8 191, .int .u8 128, .int .u8 143, .int .u8 0, .int .u8 0, .int .u8 0, .int .u8 0, .int .u8 0, .int .u8 0, .int .u8 0, .int .u8 0, .int .u8 0, .int .u8 0, .int .u8 0, .int .u8 0, .int .u8 0, .int .u8 0, .int .u8 0, .int .u8 0, .int .u8 0, .int .u8 0, .int .u8 0, .int .u8 0, .int .u8 0, .int .u8 0]
def zE : Array Value := (Go.Pinned.utf8FirstZ.map fun (n : Nat) => Value.int .u8 (n : Int)).toArray
set_option maxRecDepth 100000 in
def sR : ByteArray := ⟨#[118, 97, 108, 117, 101, 32, 111, 117, 116, 32, 111, 102, 32, 114, 97, 110, 103, 101]⟩
def sS : ByteArray := ⟨#[105, 110, 118, 97, 108, 105, 100, 32, 115, 121, 110, 116, 97, 120]⟩

set_option maxRecDepth 20000 in
theorem contract (H : Type) (enc : TypeId × Value → H) (W : World) (base : Nat) (args : Array Value) (ds gs : List (DataW H)) (before : List MemPlace)
    (hval0 : ∀ (j : Nat) t v, Tryz.f3.params[j]? = some t → args[j]? = some v → Value.okWide Tryz.prog W .any base t v)
    (hW : DataW.Whole enc Tryz.prog Tryz.f3.params.toList Rows.partsWordsSpec.vars false W args.toList ds gs before) (hS : W.ShapedOpen Tryz.prog) :
    Calls Tryz.prog 3 args W fun e W' => ∃ v, e = .returned v ∧ Rows.partsWordsSpec.post enc Tryz.prog Tryz.f3 false true false false W args v W' := by
  have hval : ∀ (j : Nat) t v, Tryz.f3.params[j]? = some t → args[j]? = some v → Value.okWide Tryz.prog W .any base t v := hval0
  have hW' := hW
  obtain ⟨p, q, hA0, hV, rfl, hfz, hnd⟩ := hW
  have hA : DataW.TrodAll enc Tryz.prog W 0 (fun _ => true) true Tryz.f3.params.toList args.toList ds p := hA0
  rw [Tryz.params3] at hA hval
  obtain ⟨v0, vs0, d0, ds0, p0, q0, hargs, rfl, rfl, h0, r0⟩ := trodAll_cons hA
  obtain ⟨rfl, rfl, rfl⟩ := trodAll_nil r0
  obtain rfl : args = #[v0] := by cases args; simp_all
  obtain ⟨rfl, rfl⟩ := trodVars_none hV
  have k0 := h0
  have lt0 : ∀ x ∈ p0, x.block < W.heap.size := by obtain ⟨m, hm⟩ := k0; exact DataW.trod_lt m _ _ _ hm
  obtain ⟨a0, rfl, e0, f0, w0⟩ := open_string Tryz.underlying9 (hval 0 9 v0 rfl rfl) h0
  clear hA0 hval0
  obtain ⟨mx, hmx⟩ := cell_of_shapedOpen_int (P := Tryz.prog) (g := 0) (t := 3) (zero := #[.int .i64 0]) hS (of_decide_eq_true (by kernel_rfl)) (by kernel_rfl) rfl (by kernel_rfl) (by kernel_rfl) Tryz.underlying3
  have walk := words_true mx a0.data.toList W hmx
  try simp only [T_of] at walk
  refine walk.mono fun e W' ⟨he, bel⟩ => ?_
  subst he
  exact ⟨_, rfl, _, _, _, [], _, [], hW', trodAll_mk1 (shut_bool Tryz.underlying4 _), (trodAll_cons_mk (Below.trod laidOut (by kernel_rfl) (of_decide_eq_true (by kernel_rfl)) k0 bel lt0) trodAll_mk0), rfl, bel.frame _, fun h => by cases h⟩

/-- A world for the witness. -/
noncomputable def laidWorld (os : Os) : World :=
  let N := (World.settled Tryz.prog os).heap.size
  let w0 := World.holding Tryz.prog os ⟨#[.cells #[.string sR] 311, .cells #[.string sS] 311], #[], []⟩
  let put (h : Array Obj) (g : Nat) (cs : Array Value) : Array Obj := h.modify g fun
    | .cells _ t frozen => .cells cs t frozen
    | o => o
  let h1 := put (put w0.heap 6 zA) 7 zB
  let h2 := put (put h1 3 zC) 2 zD
  let h3 := put (put h2 5 #[.iface 309 (.pointer (some ⟨N, 0, none⟩))]) 4 #[.iface 309 (.pointer (some ⟨N + 1, 0, none⟩))]
  { w0 with heap := put h3 1 zE }
set_option maxRecDepth 1000000 in
theorem laid_met (os : Os) : laidMet Tryz.prog Rows.partsWordsRow.laid ((laidWorld os).forCall (fun _ _ => 0) ⟨#[], #[.string ByteArray.empty], []⟩).memory :=
  laidMet_of_run3 300 (by kernel_rfl) (by kernel_rfl) (by kernel_rfl)
theorem reads (os : Os) {H : Type} (enc : TypeId × Value → H) : ∃ places, DataW.whole enc Tryz.prog ((laidWorld os).forCall (fun _ _ => 0) ⟨#[], #[.string ByteArray.empty], []⟩).memory Tryz.f3.params.toList Rows.partsWordsSpec.vars false #[Value.string ByteArray.empty].toList 8 = some ([.lit (.string [])], [], places) :=
  ⟨[], by kernel_rfl⟩

set_option maxRecDepth 100000 in
theorem lifted (os : Os) (started : os.Started) (H : Type) (enc : TypeId × Value → H) (F : Stop.Interp) :
    ReturnsInHanded {} Tryz.checked os 3 .any ((OpenSpec.ofChange Rows.partsWordsSpec).preRow enc Tryz.prog Tryz.f3 Rows.partsWordsRow.domain false Rows.partsWordsRow.laid) (((OpenSpec.ofChange Rows.partsWordsSpec).at F).post enc Tryz.prog Tryz.f3 false true false false) := by
  obtain ⟨places, hx⟩ := reads os enc
  refine returnsInHanded_of_row (C := Tryz.checked) (s := OpenSpec.ofChange Rows.partsWordsSpec) own started (by kernel_rfl) Tryz.func3
    (witness_row_at (enc := enc) (C := Tryz.checked) false (laidWorld os) #[.string ByteArray.empty] rfl (by kernel_rfl) (by kernel_rfl) (by kernel_rfl)
      (OpenSpec.preRow_of_cond 8 hx (by kernel_rfl) (fun k hk => by cases hk) (by kernel_rfl) (laid_met os))) ?_
  intro W base args ds gs before hval hW _ _ _ _ hS _
  exact contract H enc W base args ds gs before hval hW hS

theorem said : Rows.PartsWordsSaid :=
  OpenClaim.holds_of_cond 3 Tryz.f3 rfl rfl rfl rfl rfl rfl rfl ⟨rfl, rfl, rfl, rfl, rfl⟩ rfl rfl rfl rfl rfl (by kernel_rfl) Tryz.func3 (by kernel_rfl)
    (of_decide_eq_true (by kernel_rfl)) (by unfold Func.isWrapper; first | (rw [if_pos (by decide +kernel)]; kernel_rfl) | (rw [if_neg (by decide +kernel)]; exact ⟨rfl, rfl⟩))
    (fun os started H enc _ F => by rw [OpenClaim.pre_eq_preRow]; exact lifted os started H enc F)

theorem plain (f : FuncId) (fn : Func) (hf : Tryz.pinned.checked.prog.funcNamed "filespace/filespacetop.PartsWords" = some f) (hfn : Tryz.pinned.checked.prog.funcs[f]? = some fn) :
    true = Tryz.pinned.checked.prog.looks [] ∧ ∀ (j : Nat) t, fn.params[j]? = some t → Tryz.pinned.checked.prog.wantsStandIn t = false := by
  obtain rfl : f = 3 := Option.some.inj ((show Tryz.prog.funcNamed "filespace/filespacetop.PartsWords" = some 3 by kernel_rfl).symm.trans hf) |>.symm
  obtain rfl : fn = Tryz.f3 := (Option.some.inj (Tryz.func3.symm.trans hfn)).symm
  refine ⟨by kernel_rfl, fun j t ht => ?_⟩
  rw [Tryz.params3] at ht
  have hm : t = 9 := by simpa using Array.mem_of_getElem? ht
  subst hm
  exact (show Tryz.prog.wantsStandIn 9 = false by kernel_rfl)

/-- The card. -/
theorem proved : Rows.PartsWordsCardSaid :=
  Claim7.holds_tied_plain_at .later [] _ _ _ _ said (fun _ h => by cases h) (by kernel_rfl) (fun _ h => by cases h) partsWords_row_tie rfl ⟨rfl, rfl⟩ (by kernel_rfl) rfl plain (by kernel_rfl)
#print axioms proved
end Go.Proofs.YtfibaopngpfmjaaGreatDoor.partsWordsDone
