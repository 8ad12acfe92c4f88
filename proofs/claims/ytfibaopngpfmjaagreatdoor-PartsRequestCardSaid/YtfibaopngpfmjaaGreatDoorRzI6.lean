/- The reference's readList of a description; read of any field. Conditions: those that each theorem names. -/
import Derived.Test.YtfibaopngpfmjaaGreatDoorRzI1
import Derived.Test.YtfibaopngpfmjaaGreatDoorRzI5
import Derived.Test.YtfibaopngpfmjaaGreatDoorRzI2
import Derived.Test.YtfibaopngpfmjaaGreatDoorRzI3
set_option linter.unusedVariables false
set_option linter.unusedSimpArgs false
set_option maxRecDepth 100000
set_option maxHeartbeats 16000000
namespace Go.Proofs.YtfibaopngpfmjaaGreatDoor
open Go.RowKit Go.Proofs
theorem rlist_21 (s : List UInt8) (b : Bool) (m : Mg) (ns : List (List UInt8)) (qs : List (Int × Int × Int)) (w : World) (hm : MgIn w m ns qs) (hs : s.length ≤ 9000000000) : Calls Tryz.prog 186 #[.agg (inc s b), .agg m.cs.toArray, .int .i64 21] w (RdSay s.length 21 m w) := by
 have HN := lh (fun W => show Calls Tryz.prog 120 #[.agg (inc s b), .int .i64 2] W (InI s.length 2 W) from r9num_any s b 2 (by omega) (by omega) W hs)
 have HR := lh (fun s1 b1 (k : Nat) W (h : s1.length ≤ 9000000000) => r9raw_any s1 b1 k W h)
 have HG := lh (fun t W (h : t.length ≤ 9000000000) => r7get_any t 0 W h)
 have HBI := lh (show ∀ (s : List UInt8) (b : Bool), Tryz.prog.built 172 [(0, .string (T s)), (1, .bool b)] = some (inc s b) from fun s b => by kernel_rfl)
 have HUD := lh (Tryz.underlying46)
 have HSD := lh (show ∀ (a b c d f g h i j : Int) (p q r t : List UInt8), (Tryz.prog.info? 46).map (·.size) = some (dirv a b c d f g h i j p q r t).size from fun _ _ _ _ _ _ _ _ _ _ _ _ _ => by kernel_rfl)
 have HAD := lh (show ∀ (a b c d f g h i j : Int) (p q r t : List UInt8), (dirv a b c d f g h i j p q r t).all (fun x => x.oneCell') = true from fun _ _ _ _ _ _ _ _ _ _ _ _ _ => by unfold dirv; simp [Value.oneCell'])
 have HDZ := lh (show ∀ (a b c d f g h i j : Int) (p q r t : List UInt8), (dirv 0 0 0 0 0 0 0 0 0 [] [] [] []).size = (dirv a b c d f g h i j p q r t).size from fun _ _ _ _ _ _ _ _ _ _ _ _ _ => rfl)
 have HS0 := lh (RdSt.start w s b m)
 have HOKM := lh hm.ok
 have HM := lh hm
 go_enter Tryz.func186, Tryz.ntmps186
 go_upto_region 1 with fail
 generalize hw1 : World.alloc _ _ = w1
 have HS1 := lh (show RdSt w w1 w.heap.size (w.heap.size + 1) (w.heap.size + 1 + 1) (w.heap.size + 1 + 1 + 1) s b m from by rw [← hw1]; exact HS0.out)
 clear hw1 HS0 hm
 generalize w.heap.size + 1 + 1 + 1 = q at HS1 ⊢
 generalize w.heap.size + 1 + 1 = r at HS1 ⊢
 generalize w.heap.size + 1 = p at HS1 ⊢
 generalize w.heap.size = g at HS1 ⊢
 obtain ⟨⟨c0, c1⟩, _, _⟩ := HS1.out.cells
 go_wp2_with fail
 (with_reducible refine (HN.out _).mono ?_); rintro e w2 ⟨s1, b1, k1, rfl, ⟨l1, hk0, hk⟩, b2⟩
 obtain ⟨k, rfl⟩ := Int.eq_ofNat_of_zero_le hk0
 clear c0 c1 HN hk0
 have HS2 := lh (HS1.out.next b2)
 obtain ⟨⟨c0, c1⟩, f0, f1⟩ := HS2.out.cells
 have HS3 := lh (HS2.out.setX (s' := s1) (b' := b1))
 clear b2 HS1 HS2
 go_upto_region 29 with fail
 generalize ((w2.setCell ⟨g, 0, none⟩ (.string (T s1))).setCell ⟨g, 1, none⟩ (.bool b1)) = w3 at *
 clear c0 c1 f0 f1
 have hs1 : s1.length ≤ 9000000000 := by omega
 obtain ⟨⟨c0, c1⟩, _, _⟩ := HS3.out.cells
 go_wp2_with fail
 (with_reducible refine (HR.out _ _ _ _ hs1).mono ?_); rintro e w4 ⟨s2, b2, t1, rfl, ⟨l2, l3⟩, bb⟩
 clear c0 c1 HR
 have HS4 := lh (HS3.out.next bb)
 clear bb HS3
 go_upto_region 30 with fail
 have ba := alloc_below w4 (.cells (inc s2 b2) 172)
 have HY5 := lh (heap_alloc_new w4 (.cells (inc s2 b2) 172))
 have HS5 := lh (HS4.out.next ba)
 have hy0 : q < w4.heap.size := row_ltP HS4.out.2.2.2.1
 clear ba HS4
 generalize World.alloc w4 _ = w5 at *
 generalize w4.heap.size = y at *
 have ht1 : t1.length ≤ 9000000000 := by omega
 go_wp2_with fail
 (with_reducible refine (HG.out _ _ ht1).mono ?_); rintro e w6 ⟨a0, a1, a2, a3, a4, a5, a6, a7, a8, p0, p1, p2, p3, kn, ke, rfl, ⟨n0, n1, n2, n3⟩, b6⟩
 have HS6 := lh (HS5.out.next b6)
 have HY6 := lh ((b6.block _ (row_ltP HY5.out)).trans HY5.out)
 clear b6 HS5 HY5 HG
 have hz6 := heap_alloc_new w6 (.cells (dirv 0 0 0 0 0 0 0 0 0 [] [] [] []) 46)
 go_upto_region 31 with (refine wpList_store_row rfl 46 _ _ rfl w6.heap.size (dirv a0 a1 a2 a3 a4 a5 a6 a7 a8 p0 p1 p2 p3) rfl rfl 46 (dirv 0 0 0 0 0 0 0 0 0 [] [] [] []) hz6 (HSD.out _ _ _ _ _ _ _ _ _ _ _ _ _) (HDZ.out _ _ _ _ _ _ _ _ _ _ _ _ _) (HAD.out _ _ _ _ _ _ _ _ _ _ _ _ _) ?_)
 generalize hw7 : World.setRow _ _ _ = w7
 have b7 := (show Below w6.heap.size w6 w7 from by rw [← hw7]; exact below_setRow (alloc_below w6 _) (Nat.le_refl _) _)
 have HD7 := lh (show w7.heap[w6.heap.size]? = some (.cells (dirv a0 a1 a2 a3 a4 a5 a6 a7 a8 p0 p1 p2 p3) 46 (0, 0)) from by rw [← hw7]; exact heap_setRow_same (heap_alloc_new w6 _))
 have HS7 := lh (HS6.out.next b7)
 have HY7 := lh ((b7.block _ (row_ltP HY6.out)).trans HY6.out)
 clear b7 hw7 hz6 HS6 HY6
 generalize w6.heap.size = dg at *
 obtain ⟨⟨d0, e0⟩, ⟨d1, e1⟩, ⟨d2, e2⟩, ⟨d3, e3⟩, ⟨d4, e4⟩, ⟨d5, e5⟩, ⟨d6, e6⟩, ⟨d7, e7⟩, ⟨d8, e8⟩, ⟨d9, e9⟩, ⟨d10, e10⟩, ⟨d11, e11⟩, ⟨d12, e12⟩⟩ := (show ∀ W : World, W.heap[p]? = some (mgobj m) → (W.cell? ⟨p, 22, none⟩ = some (.int .i64 m.st) ∧ W.frozen? ⟨p, 22, none⟩ = false) ∧ (W.cell? ⟨p, 23, none⟩ = some (.int .i64 m.sd) ∧ W.frozen? ⟨p, 23, none⟩ = false) ∧ (W.cell? ⟨p, 24, none⟩ = some (.int .i64 m.s0) ∧ W.frozen? ⟨p, 24, none⟩ = false) ∧ (W.cell? ⟨p, 25, none⟩ = some (.int .i64 m.s1) ∧ W.frozen? ⟨p, 25, none⟩ = false) ∧ (W.cell? ⟨p, 26, none⟩ = some (.int .i64 m.s2) ∧ W.frozen? ⟨p, 26, none⟩ = false) ∧ (W.cell? ⟨p, 27, none⟩ = some (.int .i64 m.sm) ∧ W.frozen? ⟨p, 27, none⟩ = false) ∧ (W.cell? ⟨p, 28, none⟩ = some (.int .i64 m.sat) ∧ W.frozen? ⟨p, 28, none⟩ = false) ∧ (W.cell? ⟨p, 29, none⟩ = some (.int .i64 m.smt) ∧ W.frozen? ⟨p, 29, none⟩ = false) ∧ (W.cell? ⟨p, 30, none⟩ = some (.int .i64 m.sl) ∧ W.frozen? ⟨p, 30, none⟩ = false) ∧ (W.cell? ⟨p, 31, none⟩ = some (.string (T m.sn)) ∧ W.frozen? ⟨p, 31, none⟩ = false) ∧ (W.cell? ⟨p, 32, none⟩ = some (.string (T m.su)) ∧ W.frozen? ⟨p, 32, none⟩ = false) ∧ (W.cell? ⟨p, 33, none⟩ = some (.string (T m.sg)) ∧ W.frozen? ⟨p, 33, none⟩ = false) ∧ (W.cell? ⟨p, 34, none⟩ = some (.string (T m.smu)) ∧ W.frozen? ⟨p, 34, none⟩ = false) from fun W h => ⟨⟨by rw [Lib.cell_of_heap h]; rfl, Lib.frozen_of_heap h _⟩, ⟨by rw [Lib.cell_of_heap h]; rfl, Lib.frozen_of_heap h _⟩, ⟨by rw [Lib.cell_of_heap h]; rfl, Lib.frozen_of_heap h _⟩, ⟨by rw [Lib.cell_of_heap h]; rfl, Lib.frozen_of_heap h _⟩, ⟨by rw [Lib.cell_of_heap h]; rfl, Lib.frozen_of_heap h _⟩, ⟨by rw [Lib.cell_of_heap h]; rfl, Lib.frozen_of_heap h _⟩, ⟨by rw [Lib.cell_of_heap h]; rfl, Lib.frozen_of_heap h _⟩, ⟨by rw [Lib.cell_of_heap h]; rfl, Lib.frozen_of_heap h _⟩, ⟨by rw [Lib.cell_of_heap h]; rfl, Lib.frozen_of_heap h _⟩, ⟨by rw [Lib.cell_of_heap h]; rfl, Lib.frozen_of_heap h _⟩, ⟨by rw [Lib.cell_of_heap h]; rfl, Lib.frozen_of_heap h _⟩, ⟨by rw [Lib.cell_of_heap h]; rfl, Lib.frozen_of_heap h _⟩, ⟨by rw [Lib.cell_of_heap h]; rfl, Lib.frozen_of_heap h _⟩⟩) _ HS7.out.2.1
 have hyp : p ≠ y := by have := HS7.out.2.2.2.2.1; omega
 have HS9 := lh (((((((((((((HS7.out.setM (m' := { m with st := a0 }) 22 (.int .i64 a0) rfl).setM (m' := { m with st := a0, sd := a1 }) 23 (.int .i64 a1) rfl).setM (m' := { m with st := a0, sd := a1, s0 := a2 }) 24 (.int .i64 a2) rfl).setM (m' := { m with st := a0, sd := a1, s0 := a2, s1 := a3 }) 25 (.int .i64 a3) rfl).setM (m' := { m with st := a0, sd := a1, s0 := a2, s1 := a3, s2 := a4 }) 26 (.int .i64 a4) rfl).setM (m' := { m with st := a0, sd := a1, s0 := a2, s1 := a3, s2 := a4, sm := a5 }) 27 (.int .i64 a5) rfl).setM (m' := { m with st := a0, sd := a1, s0 := a2, s1 := a3, s2 := a4, sm := a5, sat := a6 }) 28 (.int .i64 a6) rfl).setM (m' := { m with st := a0, sd := a1, s0 := a2, s1 := a3, s2 := a4, sm := a5, sat := a6, smt := a7 }) 29 (.int .i64 a7) rfl).setM (m' := { m with st := a0, sd := a1, s0 := a2, s1 := a3, s2 := a4, sm := a5, sat := a6, smt := a7, sl := a8 }) 30 (.int .i64 a8) rfl).setM (m' := { m with st := a0, sd := a1, s0 := a2, s1 := a3, s2 := a4, sm := a5, sat := a6, smt := a7, sl := a8, sn := p0 }) 31 (.string (T p0)) rfl).setM (m' := { m with st := a0, sd := a1, s0 := a2, s1 := a3, s2 := a4, sm := a5, sat := a6, smt := a7, sl := a8, sn := p0, su := p1 }) 32 (.string (T p1)) rfl).setM (m' := { m with st := a0, sd := a1, s0 := a2, s1 := a3, s2 := a4, sm := a5, sat := a6, smt := a7, sl := a8, sn := p0, su := p1, sg := p2 }) 33 (.string (T p2)) rfl).setM (m' := { m with st := a0, sd := a1, s0 := a2, s1 := a3, s2 := a4, sm := a5, sat := a6, smt := a7, sl := a8, sn := p0, su := p1, sg := p2, smu := p3 }) 34 (.string (T p3)) rfl)
 have HY9 := lh (far_setCell (i := 34) (far_setCell (i := 33) (far_setCell (i := 32) (far_setCell (i := 31) (far_setCell (i := 30) (far_setCell (i := 29) (far_setCell (i := 28) (far_setCell (i := 27) (far_setCell (i := 26) (far_setCell (i := 25) (far_setCell (i := 24) (far_setCell (i := 23) (far_setCell (i := 22) HY7.out hyp (.int .i64 a0)) hyp (.int .i64 a1)) hyp (.int .i64 a2)) hyp (.int .i64 a3)) hyp (.int .i64 a4)) hyp (.int .i64 a5)) hyp (.int .i64 a6)) hyp (.int .i64 a7)) hyp (.int .i64 a8)) hyp (.string (T p0))) hyp (.string (T p1))) hyp (.string (T p2))) hyp (.string (T p3)))
 clear HS7 HY7
 have HSDX := lh (HSD.out a0 a1 a2 a3 a4 a5 a6 a7 a8 p0 p1 p2 p3)
 clear HSD HAD HDZ
 unfold dirv at *
 go_upto_region 32 with (refine wpList_load_row rfl 46 _ rfl dg rfl 46 _ (0, 0) _ HD7.out HUD.out rfl HSDX.out ?_)
 skip; try (rename (∀ (a : Act) (w : World), Code.wp _ _ _ a w → _) => ax1; have AX1 := lh ax1; clear ax1)
 generalize (((((((((((((w7.setCell ⟨p, 22, none⟩ (.int .i64 a0)).setCell ⟨p, 23, none⟩ (.int .i64 a1)).setCell ⟨p, 24, none⟩ (.int .i64 a2)).setCell ⟨p, 25, none⟩ (.int .i64 a3)).setCell ⟨p, 26, none⟩ (.int .i64 a4)).setCell ⟨p, 27, none⟩ (.int .i64 a5)).setCell ⟨p, 28, none⟩ (.int .i64 a6)).setCell ⟨p, 29, none⟩ (.int .i64 a7)).setCell ⟨p, 30, none⟩ (.int .i64 a8)).setCell ⟨p, 31, none⟩ (.string (T p0))).setCell ⟨p, 32, none⟩ (.string (T p1))).setCell ⟨p, 33, none⟩ (.string (T p2))).setCell ⟨p, 34, none⟩ (.string (T p3))) = w9 at *
 clear HD7 HSDX HUD d0 e0 d1 e1 d2 e2 d3 e3 d4 e4 d5 e5 d6 e6 d7 e7 d8 e8 d9 e9 d10 e10 d11 e11 d12 e12
 have HOK := lh (show ({ m with st := a0, sd := a1, s0 := a2, s1 := a3, s2 := a4, sm := a5, sat := a6, smt := a7, sl := a8, sn := p0, su := p1, sg := p2, smu := p3 } : Mg).ok from HOKM.out)
 have HFIN := lh (finOk_old (W := w9) (r := r) (q := q) (show MgIn w ({ m with st := a0, sd := a1, s0 := a2, s1 := a3, s2 := a4, sm := a5, sat := a6, smt := a7, sl := a8, sn := p0, su := p1, sg := p2, smu := p3 } : Mg) ns qs from ⟨HM.out.1, HM.out.2.1, HM.out.2.2.1, HM.out.2.2.2.1, HM.out.2.2.2.2.1, HM.out.2.2.2.2.2.1, (by show p0.length ≤ _; omega)⟩))
 have HLE := lh (show s2.length ≤ s.length from by omega)
 have HN12 := lh (show ({ m with st := a0, sd := a1, s0 := a2, s1 := a3, s2 := a4, sm := a5, sat := a6, smt := a7, sl := a8, sn := p0, su := p1, sg := p2, smu := p3 } : Mg).names = m.names ∨ ((21 : Int) = 12 ∧ NewF w.heap.size ({ m with st := a0, sd := a1, s0 := a2, s1 := a3, s2 := a4, sm := a5, sat := a6, smt := a7, sl := a8, sn := p0, su := p1, sg := p2, smu := p3 } : Mg).names) from Or.inl rfl)
 have HN13 := lh (show ({ m with st := a0, sd := a1, s0 := a2, s1 := a3, s2 := a4, sm := a5, sat := a6, smt := a7, sl := a8, sn := p0, su := p1, sg := p2, smu := p3 } : Mg).qids = m.qids ∨ ((21 : Int) = 13 ∧ NewF w.heap.size ({ m with st := a0, sd := a1, s0 := a2, s1 := a3, s2 := a4, sm := a5, sat := a6, smt := a7, sl := a8, sn := p0, su := p1, sg := p2, smu := p3 } : Mg).qids) from Or.inl rfl)
 clear HM HOKM
 generalize ({ m with st := a0, sd := a1, s0 := a2, s1 := a3, s2 := a4, sm := a5, sat := a6, smt := a7, sl := a8, sn := p0, su := p1, sg := p2, smu := p3 } : Mg) = mx at *
 have HS := HS9
 clear HS9
 have HY := HY9
 clear HY9
 have hyr : r ≠ y := by have := HS.out.2.2.2.2.1; omega
 have hyq : q ≠ y := by omega
 clear n0 n1 n2 n3 l1 l2 l3 hyp hy0 ht1 hs1
 cases b2
 ·by_cases he0 : ke = 0
  ·subst he0
   by_cases hnk : kn = (k : Int)
   ·have hnk2 : (kn != (k : Int)) = false := by simp [hnk]
    clear hnk
    have hS0 := sx_start HS.out HY.out
    refine wp_region_held_drew (S := (Sx y p s2 false mx)) (by kernel_rfl) hS0 (fun hHeld => ?_)
    refine tk2 0 142 ?_
    refine tk2 1 143 ?_
    refine tk2 2 144 ?_
    refine tk2 3 145 ?_
    refine tk2 4 146 ?_
    refine tk2 5 147 ?_
    refine tk2 6 148 ?_
    refine tk2 7 149 ?_
    refine tk2 8 150 ?_
    refine tk2 9 151 ?_
    refine tk2 10 152 ?_
    refine tk2 11 153 ?_
    refine tk2 12 154 ?_
    refine tkY (v := .agg (inc s2 false)) 13 155 rfl (yieldsIf_build (by rfl) 172 _ rfl (inc s2 false) (by simp only [List.map_toArray, List.map_cons, List.map_nil]; exact HBI.out _ _)) ?_
    refine tkY (v := .agg mx.cs.toArray) 14 156 rfl (yM (by rfl) _ rfl (by rfl)) ?_
    refine rd_fin 15 16 HS.out HY.out hyr hyq HOK.out false (fun wb Y3 Y4 YB YG => ?_)
    clear hHeld hS0
    try have ax1 := AX1.out
    go_wp2_with fail
    exact rd_ret Tryz.results186 rfl rfl rfl Y3 Y4 ⟨HLE.out, HFIN.out _ YB YG, HN12.out, HN13.out⟩ YB
   ·have hnk2 : (kn != (k : Int)) = true := by simp [hnk]
    clear hnk
    have hS0 := sx_start HS.out HY.out
    refine wp_region_held_drew (S := (Sx y p s2 false mx)) (by kernel_rfl) hS0 (fun hHeld => ?_)
    refine tk2 0 142 ?_
    refine tk2 1 143 ?_
    refine tk2 2 144 ?_
    refine tk2 3 145 ?_
    refine tk2 4 146 ?_
    refine tk2 5 147 ?_
    refine tk2 6 148 ?_
    refine tk2 7 149 ?_
    refine tk2 8 150 ?_
    refine tk2 9 151 ?_
    refine tk2 10 152 ?_
    refine tk2 11 153 ?_
    refine tk2 12 154 ?_
    refine tkY (v := .agg (inc s2 true)) 13 155 rfl (yieldsIf_build (by rfl) 172 _ rfl (inc s2 true) (by simp only [List.map_toArray, List.map_cons, List.map_nil]; exact HBI.out _ _)) ?_
    refine tkY (v := .agg mx.cs.toArray) 14 156 rfl (yM (by rfl) _ rfl (by rfl)) ?_
    refine rd_fin 15 16 HS.out HY.out hyr hyq HOK.out true (fun wb Y3 Y4 YB YG => ?_)
    clear hHeld hS0
    try have ax1 := AX1.out
    go_wp2_with fail
    exact rd_ret Tryz.results186 rfl rfl rfl Y3 Y4 ⟨HLE.out, HFIN.out _ YB YG, HN12.out, HN13.out⟩ YB
  ·have hke : (ke != 0) = true := by simp [he0]
   clear he0
   have hS0 := sx_start HS.out HY.out
   refine wp_region_held_drew (S := (Sx y p s2 false mx)) (by kernel_rfl) hS0 (fun hHeld => ?_)
   refine tk2 0 142 ?_
   refine tk2 1 143 ?_
   refine tk2 2 144 ?_
   refine tk2 3 145 ?_
   refine tk2 4 146 ?_
   refine tk2 5 147 ?_
   refine tk2 6 148 ?_
   refine tk2 7 149 ?_
   refine tk2 8 150 ?_
   refine tkU 9 151 ?_
   refine tkU 10 152 ?_
   refine tkU 11 153 ?_
   refine tk2 12 154 ?_
   refine tkY (v := .agg (inc s2 true)) 13 155 rfl (yieldsIf_build (by rfl) 172 _ rfl (inc s2 true) (by simp only [List.map_toArray, List.map_cons, List.map_nil]; exact HBI.out _ _)) ?_
   refine tkY (v := .agg mx.cs.toArray) 14 156 rfl (yM (by rfl) _ rfl (by rfl)) ?_
   refine rd_fin 15 16 HS.out HY.out hyr hyq HOK.out true (fun wb Y3 Y4 YB YG => ?_)
   clear hHeld hS0
   try have ax1 := AX1.out
   go_wp2_with fail
   exact rd_ret Tryz.results186 rfl rfl rfl Y3 Y4 ⟨HLE.out, HFIN.out _ YB YG, HN12.out, HN13.out⟩ YB
 ·have hS0 := sx_start HS.out HY.out
  refine wp_region_held_drew (S := (Sx y p s2 true mx)) (by kernel_rfl) hS0 (fun hHeld => ?_)
  refine tk2 0 142 ?_
  refine tk2 1 143 ?_
  refine tk2 2 144 ?_
  refine tk2 3 145 ?_
  refine tk2 4 146 ?_
  refine tkU 5 147 ?_
  refine tkU 6 148 ?_
  refine tk2 7 149 ?_
  refine tk2 8 150 ?_
  refine tkU 9 151 ?_
  refine tkU 10 152 ?_
  refine tkU 11 153 ?_
  refine tk2 12 154 ?_
  refine tkY (v := .agg (inc s2 true)) 13 155 rfl (yieldsIf_build (by rfl) 172 _ rfl (inc s2 true) (by simp only [List.map_toArray, List.map_cons, List.map_nil]; exact HBI.out _ _)) ?_
  refine tkY (v := .agg mx.cs.toArray) 14 156 rfl (yM (by rfl) _ rfl (by rfl)) ?_
  refine rd_fin 15 16 HS.out HY.out hyr hyq HOK.out true (fun wb Y3 Y4 YB YG => ?_)
  clear hHeld hS0
  try have ax1 := AX1.out
  go_wp2_with fail
  exact rd_ret Tryz.results186 rfl rfl rfl Y3 Y4 ⟨HLE.out, HFIN.out _ YB YG, HN12.out, HN13.out⟩ YB
theorem rlist_any (f : Int) (s : List UInt8) (b : Bool) (m : Mg) (ns : List (List UInt8)) (qs : List (Int × Int × Int)) (w : World) (h12 : f = 12 → m.names = .slice none 0 0) (h13 : f = 13 → m.qids = .slice none 0 0) (hm : MgIn w m ns qs) (hs : s.length ≤ 9000000000) : Calls Tryz.prog 186 #[.agg (inc s b), .agg m.cs.toArray, .int .i64 f] w (RdSay s.length f m w) := by
 by_cases e9 : f = 9
 ·subst e9; exact rlist_9 s b m ns qs w hm hs
 by_cases e12 : f = 12
 ·subst e12; exact rlist_12 s b m ns qs w (h12 rfl) hm hs
 by_cases e13 : f = 13
 ·subst e13; exact rlist_13 s b m ns qs w (h13 rfl) hm hs
 by_cases e20 : f = 20
 ·subst e20; exact rlist_20 s b m ns qs w hm hs
 by_cases e21 : f = 21
 ·subst e21; exact rlist_21 s b m ns qs w hm hs
 exact rlist_other s b m ns qs w f (by simp [e9]) (by simp [e12]) (by simp [e13]) (by simp [e20]) (by simp [e21]) hm hs
theorem rread_other (f : Int) (h1 : (f == 1) = false) (h2 : (f == 2) = false) (h3 : (f == 3) = false) (h4 : (f == 4) = false) (h5 : (f == 5) = false) (h6 : (f == 6) = false) (h7 : (f == 7) = false) (h8 : (f == 8) = false) (h10 : (f == 10) = false) (h11 : (f == 11) = false) (h14 : (f == 14) = false) (h15 : (f == 15) = false) (h16 : (f == 16) = false) (h17 : (f == 17) = false) (h18 : (f == 18) = false) (h19 : (f == 19) = false) (h22 : (f == 22) = false) (h23 : (f == 23) = false) (s : List UInt8) (b : Bool) (m : Mg) (ns : List (List UInt8)) (qs : List (Int × Int × Int)) (w : World) (h12 : f = 12 → m.names = .slice none 0 0) (h13 : f = 13 → m.qids = .slice none 0 0) (hm : MgIn w m ns qs) (hs : s.length ≤ 9000000000) : Calls Tryz.prog 122 #[.agg (inc s b), .agg m.cs.toArray, .int .i64 f] w (RdSay s.length f m w) := by
 have HL := lh (fun W (h : MgIn W m ns qs) => rlist_any f s b m ns qs W h12 h13 h hs)
 clear h12 h13
 have HS0 := lh (RdSt.start w s b m)
 have HOKM := lh hm.ok
 have HM := lh hm
 go_enter Tryz.func122, Tryz.ntmps122
 go_upto_region 1 with fail
 generalize hw1 : World.alloc _ _ = w1
 have HS1 := lh (show RdSt w w1 w.heap.size (w.heap.size + 1) (w.heap.size + 1 + 1) (w.heap.size + 1 + 1 + 1) s b m from by rw [← hw1]; exact HS0.out)
 clear hw1 HS0 hm
 generalize w.heap.size + 1 + 1 + 1 = q at HS1 ⊢
 generalize w.heap.size + 1 + 1 = r at HS1 ⊢
 generalize w.heap.size + 1 = p at HS1 ⊢
 generalize w.heap.size = g at HS1 ⊢
 have HU2 := lh (Tryz.underlying48)
 have HZM := lh (mg_size m)
 have HMI := lh (HM.out.below HS1.out.2.2.2.2.2)
 obtain ⟨⟨c0, c1⟩, _, _⟩ := HS1.out.cells
 go_wp2_with (refine wpList_load_row rfl 48 _ rfl p rfl 48 m.cs.toArray (0, 0) _ HS1.out.2.1 HU2.out rfl HZM.out ?_)
 (with_reducible refine (HL.out _ HMI.out).mono ?_); rintro e w2 ⟨s1, b1, mx, ns1, qs1, rfl, ⟨l1, hin, hn12, hn13⟩, b2⟩
 have HS2 := lh (HS1.out.next b2)
 have hq1 : q < w1.heap.size := row_ltP HS1.out.2.2.2.1
 have hpw := HS1.out.2.2.2.2.1
 have HIN := lh hin
 have HN1 := lh hn12
 have HN2 := lh hn13
 have HFIN := lh (show ∃ ns2 qs2, FinOk w w2 r q mx ns2 qs2 from by
  classical
  refine ⟨if mx.names = m.names then ns else ns1, if mx.qids = m.qids then qs else qs1, fun W' hb hg => ?_⟩
  have hB := hin
  refine ⟨?_, ?_, ?_, ?_, ?_, hB.2.2.2.2.2⟩
  ·split
   ·rename_i e; rw [e]; exact HM.out.1.below hb
   ·rename_i e; exact hB.1.gr2 (fun ad n c ee => by have := (hn12.resolve_left e).2 ad n c ee; omega) hg
  ·split
   ·rename_i e; rw [e]; exact HM.out.2.1.below hb
   ·rename_i e; exact hB.2.1.gr2 (fun ad n c ee => by have := (hn13.resolve_left e).2 ad n c ee; omega) hg
  ·split; exact HM.out.2.2.1; exact hB.2.2.1
  ·split; exact HM.out.2.2.2.1; exact hB.2.2.2.1
  ·split; exact HM.out.2.2.2.2.1; exact hB.2.2.2.2.1)
 have HBW := lh (HS1.out.2.2.2.2.2.size)
 clear hin hn12 hn13 b2 HS1 HL HMI c0 c1
 have HU1 := lh (Tryz.underlying172)
 have HZ1 := lh (in_size s1 b1)
 have HZ2 := lh (mg_size mx)
 have HAL := lh (mg_all mx HIN.out.ok)
 have HSY : RowKit.Hid (mg0.cs.toArray.size = mx.cs.toArray.size) := lh rfl
 have HSI : RowKit.Hid ((inc [] false).size = (inc s1 b1).size) := lh rfl
 have HAI : RowKit.Hid ((inc s1 b1).all (·.oneCell') = true) := lh (by simp [inc, Value.oneCell'])
 obtain ⟨K1, K2, K3, K4, ⟨eg, ep, er, eq⟩, KB⟩ := HS2.out
 have hrq : r ≠ q := by omega
 have hwr : w.heap.size ≤ r := by omega
 have hwq : w.heap.size ≤ q := by omega
 have H3 := lh K3
 have H4 := lh (setRow_far (inc s1 b1) K4 hrq)
 have Y3 := lh (setRow_far mx.cs.toArray (heap_setRow_same (cs' := inc s1 b1) K3) hrq.symm)
 have Y4 := lh (heap_setRow_same (cs' := mx.cs.toArray) H4.out)
 have YB := lh (below_setRow (below_setRow KB hwr (inc s1 b1)) hwq mx.cs.toArray)
 have YG := lh ((Gr2.of_g (p := q) (grown_setRow (W := w2) (g := r) (inc s1 b1))).trans (Gr2.of_p (g := r) (grown_setRow (W := w2.setRow r (inc s1 b1)) (g := q) mx.cs.toArray)))
 clear K1 K2 K3 K4 KB eg ep er eq hpw hq1 HS2
 go_wp2_with (first | refine wpList_store_row rfl 172 _ _ rfl r (inc s1 b1) rfl rfl 172 (inc [] false) H3.out HZ1.out HSI.out HAI.out ?_ | refine wpList_store_row rfl 48 _ _ rfl q mx.cs.toArray rfl rfl 48 mg0.cs.toArray H4.out HZ2.out HSY.out HAL.out ?_)
 obtain ⟨ns2, qs2, hfin⟩ := HFIN.out
 refine bodyPost_ret (v := .tuple #[.agg (inc s1 b1), .agg mx.cs.toArray]) ?_ rfl (rdSay s1 b1 mx ns2 qs2 ⟨l1, hfin _ YB.out YG.out, HN1.out.imp id (fun h => ⟨h.1, fun ad n c e => Nat.le_trans HBW.out (h.2 ad n c e)⟩), HN2.out.imp id (fun h => ⟨h.1, fun ad n c e => Nat.le_trans HBW.out (h.2 ad n c e)⟩)⟩ YB.out)
 exact results_two_rows Tryz.results122 _ _ r q 172 48 (inc s1 b1) mx.cs.toArray (0, 0) (0, 0) _ _ rfl rfl Y3.out Y4.out HU1.out rfl HZ1.out HU2.out rfl HZ2.out
/-- Any field. -/
theorem rread_any (f : Int) (s : List UInt8) (b : Bool) (m : Mg) (ns : List (List UInt8)) (qs : List (Int × Int × Int)) (w : World) (h12 : f = 12 → m.names = .slice none 0 0) (h13 : f = 13 → m.qids = .slice none 0 0) (hm : MgIn w m ns qs) (hs : s.length ≤ 9000000000) : Calls Tryz.prog 122 #[.agg (inc s b), .agg m.cs.toArray, .int .i64 f] w (RdSay s.length f m w) := by
 by_cases e1 : f = 1
 ·subst e1; exact rread_1 s b m ns qs w hm hs
 by_cases e2 : f = 2
 ·subst e2; exact rread_2 s b m ns qs w hm hs
 by_cases e3 : f = 3
 ·subst e3; exact rread_3 s b m ns qs w hm hs
 by_cases e4 : f = 4
 ·subst e4; exact rread_4 s b m ns qs w hm hs
 by_cases e5 : f = 5
 ·subst e5; exact rread_5 s b m ns qs w hm hs
 by_cases e6 : f = 6
 ·subst e6; exact rread_6 s b m ns qs w hm hs
 by_cases e7 : f = 7
 ·subst e7; exact rread_7 s b m ns qs w hm hs
 by_cases e8 : f = 8
 ·subst e8; exact rread_8 s b m ns qs w hm hs
 by_cases e10 : f = 10
 ·subst e10; exact rread_10 s b m ns qs w hm hs
 by_cases e11 : f = 11
 ·subst e11; exact rread_11 s b m ns qs w hm hs
 by_cases e14 : f = 14
 ·subst e14; exact rread_14 s b m ns qs w hm hs
 by_cases e15 : f = 15
 ·subst e15; exact rread_15 s b m ns qs w hm hs
 by_cases e16 : f = 16
 ·subst e16; exact rread_16 s b m ns qs w hm hs
 by_cases e17 : f = 17
 ·subst e17; exact rread_17 s b m ns qs w hm hs
 by_cases e18 : f = 18
 ·subst e18; exact rread_18 s b m ns qs w hm hs
 by_cases e19 : f = 19
 ·subst e19; exact rread_19 s b m ns qs w hm hs
 by_cases e22 : f = 22
 ·subst e22; exact rread_22 s b m ns qs w hm hs
 by_cases e23 : f = 23
 ·subst e23; exact rread_23 s b m ns qs w hm hs
 exact rread_other f (by simp [e1]) (by simp [e2]) (by simp [e3]) (by simp [e4]) (by simp [e5]) (by simp [e6]) (by simp [e7]) (by simp [e8]) (by simp [e10]) (by simp [e11]) (by simp [e14]) (by simp [e15]) (by simp [e16]) (by simp [e17]) (by simp [e18]) (by simp [e19]) (by simp [e22]) (by simp [e23]) s b m ns qs w h12 h13 hm hs
end Go.Proofs.YtfibaopngpfmjaaGreatDoor
