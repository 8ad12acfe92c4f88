/- The law PartsRequest. Conditions: those that each theorem names. -/
import Derived.Test.YtfibaopngpfmjaaGreatDoorRzH2
import Derived.Test.YtfibaopngpfmjaaGreatDoorRzJ4
import Derived.Test.YtfibaopngpfmjaaGreatDoorRzB7
set_option linter.unusedVariables false
set_option linter.unusedSimpArgs false
set_option maxRecDepth 100000
set_option maxHeartbeats 16000000
namespace Go.Proofs.YtfibaopngpfmjaaGreatDoor
open Go.RowKit Go.Proofs
/-- The boxes of the client and of the message. -/
def LwSt (w W : World) (cs : Array Value) (m : Mg) : Prop := W.heap[w.heap.size]? = some (.cells cs 41 (0, 0)) ∧ W.heap[w.heap.size + 1]? = some (mgobj m) ∧ Below w.heap.size w W
theorem LwSt.next {w W W' : World} {cs : Array Value} {m : Mg} (h : LwSt w W cs m) (hb : Below W.heap.size W W') : LwSt w W' cs m := ⟨(hb.block _ (row_ltP h.1)).trans h.1, (hb.block _ (row_ltP h.2.1)).trans h.2.1, bnext h.2.2 hb⟩
theorem LwSt.cells {w W : World} {c : Cln} {fv cv : Value} {m : Mg} (h : LwSt w W (c.cs fv cv) m) : W.cell? ⟨w.heap.size, 0, none⟩ = some (.bool c.up) ∧ W.cell? ⟨w.heap.size, 1, none⟩ = some (.int .i64 c.ms) ∧ W.cell? ⟨w.heap.size, 2, none⟩ = some (.string (T c.ss)) ∧ W.cell? ⟨w.heap.size, 3, none⟩ = some fv ∧ W.cell? ⟨w.heap.size, 4, none⟩ = some cv ∧ W.cell? ⟨w.heap.size, 5, none⟩ = some (.string (T c.pt)) :=
 ⟨by rw [Lib.cell_of_heap h.1]; rfl, by rw [Lib.cell_of_heap h.1]; rfl, by rw [Lib.cell_of_heap h.1]; rfl, by rw [Lib.cell_of_heap h.1]; rfl, by rw [Lib.cell_of_heap h.1]; rfl, by rw [Lib.cell_of_heap h.1]; rfl⟩
theorem lw_start (w : World) (cs : Array Value) (m : Mg) : LwSt w ((w.alloc (.cells cs 41)).alloc (mgobj m)) cs m := by
 have h2 := heap_alloc_new (w.alloc (.cells cs 41)) (mgobj m)
 rw [show (w.alloc (.cells cs 41)).heap.size = w.heap.size + 1 from by simp] at h2
 exact ⟨(Lib.alloc_old _ _ _ (by simp)).trans (heap_alloc_new w _), h2, bnext (alloc_below w _) (alloc_below _ _)⟩
theorem request_true (mx : Int) (c : Cln) (fv cv : Value) (fl : List Int) (l : List Cll) (m : Mg) (ns : List (List UInt8)) (qs : List (Int × Int × Int)) (w : World) (hmx : w.cell? ⟨0, 0, none⟩ = some (.int .i64 mx))
  (hf : Its w fv fl) (hc : Clls w cv l) (hm : MgIn w m ns qs) (hq : ∀ x ∈ l, x.ns.length ≤ 8796093021952 ∧ x.qs.length ≤ 5864062014634) (hns : ns.length ≤ 8796093021952) (hqs : qs.length ≤ 5864062014634)
  (hss : c.ss.length ≤ 1000000000000000000) (hA : m.sumA ≤ 1000000000000000000) (hB : m.sumB ≤ 1000000000000000000) :
  Calls Tryz.prog 4 #[.agg (c.cs fv cv), .agg m.cs.toArray] w fun e w' => e = .returned (.bool true) ∧ Below w.heap.size w w' := by
 have hm0 : 0 < w.heap.size := block_lt_of_cell hmx
 have HAW := lh (fun (W : World) (h : Below w.heap.size w W) => awake_any mx W ((h.cell (p := ⟨0, 0, none⟩) hm0).trans hmx))
 have HRI := lh (fun (W : World) (h : Below w.heap.size w W) (hl : l.length ≤ 1000000) (hfl : fl.length ≤ 2000000) (hp : c.pt.length ≤ 9000000000) => rright_any c fv cv fl l W (hf.below h) (hc.below h) hfl hl hp hss)
 have HST := lh (fun (W : World) (h : Below w.heap.size w W) (hl7 : l.length ≤ 70 ∧ fl.length ≤ 300) => start_any c fv cv fl l m ns qs W (hf.below h) (hc.below h) (hm.below h) (by omega) (by omega) hq hns hqs)
 have HMI := lh (fun (W : World) (h : Below w.heap.size w W) => hm.below h)
 have HBR := lh (show ∀ (W : World) (h : Below w.heap.size w W), Calls Tryz.prog 9 #[.agg m.cs.toArray] W (RetB (fun _ => True) W) from fun W h => by
  obtain ⟨aq, nq, cq, eq⟩ := hm.2.1.form
  refine (brief_any m ns aq nq cq W (hm.below h).1 eq hm.2.2.1 hA hB).mono fun e w' hr => ?_
  obtain ⟨b, h1, _, h3⟩ := hr
  exact ⟨b, h1, trivial, h3⟩)
 have HS0 := lh (lw_start w (c.cs fv cv) m)
 have HU := lh (Tryz.underlying48)
 have HUC := lh (Tryz.underlying41)
 have HZM := lh (mg_size m)
 have HZC := lh (show (Tryz.prog.info? 41).map (·.size) = some 6 from by kernel_rfl)
 have HOK := lh hm.ok
 have hz1 : (T c.pt).size = c.pt.length := T_size _
 obtain ⟨af, cf, rfl, hcf, hnf, _⟩ := hf
 obtain ⟨ac, cc, rfl, hcc, hnc, _⟩ := hc
 obtain ⟨up, ms, ss, pt⟩ := c
 clear hcf hnf hcc hnc hmx hm hq hns hqs hA hB
 dsimp only at *
 go_enter Tryz.func4, Tryz.ntmps4
 go_upto_region 1 with fail
 generalize hw1 : World.alloc _ _ = w1
 have HS1 := lh (show LwSt w w1 (Cln.cs ⟨up, ms, ss, pt⟩ (.slice af fl.length cf) (.slice ac l.length cc)) m from by rw [← hw1]; exact HS0.out)
 clear hw1 HS0
 go_cut [36] (fun v w' => ∃ b : Bool, v = .bool b ∧ Hid ((b = false → l.length ≤ 70 ∧ fl.length ≤ 300) ∧ LwSt w w' (Cln.cs ⟨up, ms, ss, pt⟩ (.slice af fl.length cf) (.slice ac l.length cc)) m))
 case first =>
  have hb1 := HS1.out.2.2
  go_wp2_with (refine wpList_load_row rfl 48 _ rfl (w.heap.size + 1) rfl 48 m.cs.toArray (0, 0) _ HS1.out.2.1 HU.out rfl HZM.out ?_)
  (with_reducible refine (HBR.out _ hb1).mono ?_); rintro e w2 ⟨b, rfl, _, b2⟩
  have HS2 := lh (HS1.out.next b2)
  clear b2 HS1 hb1
  obtain ⟨c0, c1, c2, c3, c4, c5⟩ := HS2.out.cells
  dsimp only at c0 c1 c2 c3 c4 c5
  cases b
  ·go_wp2_with fail
   go_meet
   exact ⟨_, rfl, lh ⟨fun h => absurd h (by decide), HS2.out⟩⟩
  cases h1 : decide ((70 : Int) < (l.length : Int))
  rotate_left
  ·go_wp2_with fail
   go_meet
   exact ⟨_, rfl, lh ⟨fun h => absurd h (by decide), HS2.out⟩⟩
  cases h2 : decide ((300 : Int) < (fl.length : Int))
  rotate_left
  ·go_wp2_with fail
   go_meet
   exact ⟨_, rfl, lh ⟨fun h => absurd h (by decide), HS2.out⟩⟩
  cases h3 : decide ((9000 : Int) < (pt.length : Int))
  rotate_left
  ·go_wp2_with fail
   go_meet
   exact ⟨_, rfl, lh ⟨fun h => absurd h (by decide), HS2.out⟩⟩
  have hb2 := HS2.out.2.2
  have hl1 : l.length ≤ 1000000 := by have := of_decide_eq_false h1; omega
  have hl2 : fl.length ≤ 2000000 := by have := of_decide_eq_false h2; omega
  have hl3 : pt.length ≤ 9000000000 := by have := of_decide_eq_false h3; omega
  go_wp2_with fail
  (with_reducible refine (HRI.out _ hb2 hl1 hl2 hl3).mono ?_); rintro e w3 ⟨b, rfl, _, b3⟩
  have HS3 := lh (HS2.out.next b3)
  have HL := lh (show l.length ≤ 70 ∧ fl.length ≤ 300 from by have := of_decide_eq_false h1; have := of_decide_eq_false h2; omega)
  clear b3 HS2 hb2 c0 c1 c2 c3 c4 c5
  go_wp2_with fail
  go_meet
  exact ⟨_, rfl, lh ⟨fun _ => HL.out, HS3.out⟩⟩
 case rest =>
 obtain ⟨bz, rfl, hx⟩ := hcut
 have HL7 := lh hx.out.1
 have HS2 := lh hx.out.2
 clear HS1 HRI HBR hx
 cases bz with
 | true =>
  have hb := HS2.out.2.2
  go_wp2_with fail
  (with_reducible refine (HAW.out _ hb).mono ?_); rintro e w3 ⟨rfl, b3⟩
  have HB3 := lh (bnext HS2.out.2.2 b3)
  clear b3 hb
  go_wp2_with fail
  go_ret
  exact ⟨rfl, HB3.out⟩
 | false =>
 have hl7 := HL7.out rfl
 have hb := HS2.out.2.2
 obtain ⟨c0, c1, c2, c3, c4, c5⟩ := HS2.out.cells
 dsimp only at c0 c1 c2 c3 c4 c5
 go_wp2_with (refine wpList_load_row rfl 48 _ rfl (w.heap.size + 1) rfl 48 m.cs.toArray (0, 0) _ HS2.out.2.1 HU.out rfl HZM.out ?_)
 (with_reducible refine (HST.out _ hb hl7).mono ?_); rintro e w3 ⟨⟨dv, hdv, hor⟩, b3⟩
 have HS3 := lh (HS2.out.next b3)
 clear b3 HS2 hb hl7 HL7 HST c0 c1 c2 c3 c4 c5
 have hz3 := heap_alloc_new w3 (.cells cln0 41)
 have HDS := lh hdv.1
 have HDA := lh hdv.2
 clear hdv
 have HZD := lh (show (Tryz.prog.info? 41).map (·.size) = some dv.size from by rw [HDS.out]; exact HZC.out)
 have HYD := lh (show cln0.size = dv.size from by rw [HDS.out]; rfl)
 rcases hor with ⟨k, hk, rfl⟩ | ⟨t, ⟨hreq, hchk, hlen⟩, rfl⟩
 ·have hk2 : (k != 0) = true := by simp [hk]
  go_upto_region 4 with (refine wpList_store_row rfl 41 _ _ rfl w3.heap.size dv rfl rfl 41 cln0 hz3 HZD.out HYD.out HDA.out ?_)
  generalize hw4 : World.setRow _ _ _ = w4
  have b4 := (show Below w3.heap.size w3 w4 from by rw [← hw4]; exact below_setRow (alloc_below w3 _) (Nat.le_refl _) _)
  have HS4 := lh (HS3.out.next b4)
  clear b4 hw4 hz3 HS3
  have hb := HS4.out.2.2
  go_wp2_with fail
  (with_reducible refine (HAW.out _ hb).mono ?_); rintro e w5 ⟨rfl, b5⟩
  have HB5 := lh (bnext HS4.out.2.2 b5)
  clear b5 hb
  go_wp2_with fail
  go_ret
  exact ⟨rfl, HB5.out⟩
 ·obtain ⟨_, _, rfl⟩ := chk_back { m with tag := t } ns qs hreq hchk
  have hbl : (reqb { m with tag := t } ns).length = (reqc { m with tag := t } ns).length + 4 := by unfold reqb; rw [List.length_append, Oct.le_length]; omega
  have HGE := lh (fun (W : World) (h : MgIn W { m with tag := t } ns []) => mget_any { m with tag := t } ns [] W hreq h hchk hlen)
  have HSA := lh (fun (x : Mg) (W : World) (hb : x.bare = ({ m with tag := t } : Mg).bare) (hx : MgIn W x ns []) (hm : MgIn W { m with tag := t } ns []) => rsame_any x { m with tag := t } ns W hb hx hm)
  have HMT := lh (fun (W : World) (h : Below w.heap.size w W) => show MgIn W { m with tag := t } ns [] from HMI.out W h)
  have HZT := lh (mg_size { m with tag := t })
  have hszb : (T (reqb { m with tag := t } ns)).size = (reqb { m with tag := t } ns).length := T_size _
  have HZX := lh (fun x : Mg => mg_size x)
  have HAX := lh (fun (x : Mg) (h : x.ok) => mg_all x h)
  have HYX := lh (show ∀ x : Mg, mg0.cs.toArray.size = x.cs.toArray.size from fun x => rfl)
  clear hreq hchk hlen hbl
  go_upto_region 4 with (refine wpList_store_row rfl 41 _ _ rfl w3.heap.size dv rfl rfl 41 cln0 hz3 HZD.out HYD.out HDA.out ?_)
  generalize hw4 : World.setRow _ _ _ = w4
  have b4 := (show Below w3.heap.size w3 w4 from by rw [← hw4]; exact below_setRow (alloc_below w3 _) (Nat.le_refl _) _)
  have HS4 := lh (HS3.out.next b4)
  clear b4 hw4 hz3 HS3
  obtain ⟨d0, e0⟩ := (show ∀ W : World, W.heap[w.heap.size + 1]? = some (mgobj m) → (W.cell? ⟨w.heap.size + 1, 1, none⟩ = some (.int .i64 m.tag) ∧ W.frozen? ⟨w.heap.size + 1, 1, none⟩ = false) from fun W h => ⟨by rw [Lib.cell_of_heap h]; rfl, Lib.frozen_of_heap h _⟩) _ HS4.out.2.1
  have HK5 := lh (mg_set (m' := { m with tag := t }) HS4.out.2.1 1 (.int .i64 t) rfl)
  have HB5 := lh (HS4.out.2.2.setCell (p := ⟨w.heap.size + 1, 1, none⟩) (Nat.le_succ _) (.int .i64 t))
  go_upto_region 7 with fail
  generalize (w4.setCell ⟨w.heap.size + 1, 1, none⟩ (.int .i64 t)) = w5 at *
  clear d0 e0 HS4
  have hmi := HMT.out _ HB5.out
  generalize hmt : ({ m with tag := t } : Mg) = mt at *
  generalize reqb mt ns = rb at *
  go_wp2_with fail
  (with_reducible refine (HGE.out _ hmi).mono ?_); rintro e w6 ⟨x, rfl, ⟨hxb, hxi⟩, b6⟩
  have HK6 := lh ((b6.block _ (row_ltP HK5.out)).trans HK5.out)
  have HB6 := lh (bnext HB5.out b6)
  have HXI := lh hxi
  have HXB := lh hxb
  clear b6 HK5 HB5 hmi hxi hxb HGE
  have hz6 := heap_alloc_new w6 (mgobj mg0)
  unfold mgobj at hz6 HK6
  have HZX1 := lh (HZX.out x)
  have HAX1 := lh (HAX.out x HXI.out.ok)
  have HYX1 := lh (HYX.out x)
  go_upto_region 8 with (refine wpList_store_row rfl 48 _ _ rfl w6.heap.size x.cs.toArray rfl rfl 48 mg0.cs.toArray hz6 HZX1.out HYX1.out HAX1.out ?_)
  generalize hw7 : World.setRow _ _ _ = w7
  have b7 := (show Below w6.heap.size w6 w7 from by rw [← hw7]; exact below_setRow (alloc_below w6 _) (Nat.le_refl _) _)
  have HX7 := lh (show w7.heap[w6.heap.size]? = some (.cells x.cs.toArray 48 (0, 0)) from by rw [← hw7]; exact heap_setRow_same (heap_alloc_new w6 _))
  have HK7 := lh ((b7.block _ (row_ltP HK6.out)).trans HK6.out)
  have HB7 := lh (bnext HB6.out b7)
  have HXI7 := lh (HXI.out.below b7)
  clear b7 hw7 hz6 HK6 HB6 HXI
  generalize w6.heap.size = gx at *
  have hsx := HSA.out x w7 HXB.out HXI7.out (HMT.out _ HB7.out)
  have HSX := lh hsx
  clear hsx HSA HMT
  generalize x.cs.toArray = AX at *
  generalize mt.cs.toArray = AM at *
  go_wp2_with (first | refine wpList_load_rowG (by kernel_rfl) 48 _ rfl gx rfl 48 AX (0, 0) _ HX7.out HU.out rfl HZX1.out ?_ | refine wpList_load_rowG (by kernel_rfl) 48 _ rfl (w.heap.size + 1) rfl 48 AM (0, 0) _ HK7.out HU.out rfl HZT.out ?_)
  (with_reducible refine HSX.out.mono ?_); rintro e w8 ⟨b, rfl, rfl, b8⟩
  have HB8 := lh (bnext HB7.out b8)
  clear b8 HX7 HK7 HB7
  have hb := HB8.out
  go_wp2_with fail
  (with_reducible refine (HAW.out _ hb).mono ?_); rintro e w9 ⟨rfl, b9⟩
  have HB9 := lh (bnext HB8.out b9)
  clear b9 hb
  go_wp2_with fail
  go_ret
  exact ⟨rfl, HB9.out⟩
end Go.Proofs.YtfibaopngpfmjaaGreatDoor
