/- The reference's Check. Conditions: those that each theorem names. -/
import Derived.Test.YtfibaopngpfmjaaGreatDoorRzC1
import Derived.Test.YtfibaopngpfmjaaGreatDoorRzB1
import Derived.Test.YtfibaopngpfmjaaGreatDoorRzB3
import Derived.Test.YtfibaopngpfmjaaGreatDoorRzA1
set_option linter.unusedVariables false
set_option linter.unusedSimpArgs false
set_option maxRecDepth 100000
set_option maxHeartbeats 8000000
namespace Go.Proofs.YtfibaopngpfmjaaGreatDoor
open Go.RowKit Go.Proofs
theorem r8fault_any (m : Mg) (ns : List (List UInt8)) (qs : List (Int × Int × Int)) (c : Int) (w : World) (hm : MgIn w m ns qs) : Calls Tryz.prog 118 #[.agg m.cs.toArray, .int .u8 c] w (RetI (fun _ => True) w) := by
  have HB := lh (alloc_below w (mgobj m))
  have H1 := lh (heap_alloc_new w (mgobj m))
  have HC := lh (fun (W : World) (h : W.heap[w.heap.size]? = some (mgobj m)) => mg_cells h)
  have HNU := lh (fun n k W => r8num_any n k W)
  have HLE := lh (fun s k W => r8len_any s k W)
  have HQI := lh (fun a b d W => r8qid_any a b d W)
  have hm1 := hm.below HB.out
  obtain ⟨h1, h2, h3, h4, h5, h6, h7⟩ := hm1
  have HNA := lh (rnames_any m.names ns _ h1 h5 h3)
  have HQS := lh (r8qids_any m.qids qs _ h2 h4)
  have HFL := lh (fun W => r8fl_any m h6 h7 c W)
  have HU := lh (Tryz.underlying48)
  have HSZ := lh (mg_size m)
  obtain ⟨⟨an, nn, cn, hn⟩, ⟨aq, nq, cq, hq⟩⟩ := hm.ok
  rw [hn, hq] at HC
  rw [hn] at HNA
  rw [hq] at HQS
  unfold mgobj at *
  clear hn hq hm h1 h2 h3 h4 h5 h6 h7
  generalize m.cs = cs at *
  go_enter Tryz.func118, Tryz.ntmps118
  go_upto_region 1 with fail
  generalize World.alloc _ _ = w1 at *
  obtain ⟨c0, c1, c2, c3, c4, c5, c6, c7, c8, c9, c10, c11, c12, c13, c14, c15, c16, c17, c18, c19, c20, c21, c22, c23, c24, c25, c26, c27, c28, c29, c30, c31, c32, c33, c34, c35, c36, c37, c38⟩ := HC.out _ H1.out
  go_wp2_with (refine wpList_load_row rfl 48 _ rfl w.heap.size rfl 48 cs.toArray (0, 0) _ H1.out HU.out rfl HSZ.out ?_)
  repeat' (first
    | (go_ret; exact retI _ trivial HB.out)
    | ((with_reducible refine (HNU.out _ _ _).mono ?_); rintro e wx ⟨b, rfl, rfl⟩; go_wp2_with fail)
    | ((with_reducible refine (HLE.out _ _ _).mono ?_); rintro e wx ⟨b, rfl, rfl⟩; go_wp2_with fail)
    | ((with_reducible refine HNA.out.mono ?_); rintro e wx ⟨b, rfl, rfl⟩; go_wp2_with fail)
    | ((with_reducible refine (HFL.out _).mono ?_); rintro e w2 ⟨b, rfl, _, b2⟩; have HB2 := lh (bnext HB.out b2); clear b2; go_wp2_with fail; go_ret; exact retI _ trivial HB2.out)
    | ((with_reducible refine HQS.out.mono ?_); rintro e w2 ⟨b, rfl, _, b2⟩; have HB2 := lh (bnext HB.out b2); clear b2; go_wp2_with fail; go_ret; exact retI _ trivial HB2.out)
    | ((with_reducible refine (HQI.out _ _ _ _).mono ?_); rintro e w2 ⟨b, rfl, _, b2⟩; have HB2 := lh (bnext HB.out b2); clear b2; go_wp2_with fail; go_ret; exact retI _ trivial HB2.out))
theorem rzl_any (m : Mg) (h : m.ok) (c : Int) (w : World) : Calls Tryz.prog 177 #[.agg m.cs.toArray, .int .u8 c] w (RetB (fun _ => True) w) := by
  have HB := lh (alloc_below w (mgobj m))
  have H1 := lh (heap_alloc_new w (mgobj m))
  have HC := lh (fun (W : World) (h : W.heap[w.heap.size]? = some (mgobj m)) => mg_cells h)
  unfold mgobj at *
  clear h
  generalize m.cs = cs at *
  go_enter Tryz.func177, Tryz.ntmps177
  go_upto_region 1 with fail
  generalize World.alloc _ _ = w1 at *
  obtain ⟨c0, c1, c2, c3, c4, c5, c6, c7, c8, c9, c10, c11, c12, c13, c14, c15, c16, c17, c18, c19, c20, c21, c22, c23, c24, c25, c26, c27, c28, c29, c30, c31, c32, c33, c34, c35, c36, c37, c38⟩ := HC.out _ H1.out
  go_wp2_with fail
  all_goals (go_ret; exact retB _ trivial HB.out)
theorem rzero_any (m : Mg) (h : m.ok) (c : Int) (w : World) : Calls Tryz.prog 116 #[.agg m.cs.toArray, .int .u8 c] w (RetB (fun _ => True) w) := by
  have HB := lh (alloc_below w (mgobj m))
  have H1 := lh (heap_alloc_new w (mgobj m))
  have HC := lh (fun (W : World) (h : W.heap[w.heap.size]? = some (mgobj m)) => mg_cells h)
  have HZ := lh (fun W => rzl_any m h c W)
  have HU := lh (Tryz.underlying48)
  have HSZ := lh (mg_size m)
  obtain ⟨⟨an, nn, cn, hn⟩, ⟨aq, nq, cq, hq⟩⟩ := h
  rw [hn, hq] at HC
  unfold mgobj at *
  clear hn hq
  generalize m.cs = cs at *
  go_enter Tryz.func116, Tryz.ntmps116
  go_upto_region 1 with fail
  generalize World.alloc _ _ = w1 at *
  obtain ⟨c0, c1, c2, c3, c4, c5, c6, c7, c8, c9, c10, c11, c12, c13, c14, c15, c16, c17, c18, c19, c20, c21, c22, c23, c24, c25, c26, c27, c28, c29, c30, c31, c32, c33, c34, c35, c36, c37, c38⟩ := HC.out _ H1.out
  go_wp2_with (refine wpList_load_row rfl 48 _ rfl w.heap.size rfl 48 cs.toArray (0, 0) _ H1.out HU.out rfl HSZ.out ?_)
  all_goals (first
    | (go_ret; exact retB _ trivial HB.out)
    | ((with_reducible refine (HZ.out _).mono ?_); rintro e w2 ⟨b, rfl, _, b2⟩
       have HB2 := lh (bnext HB.out b2)
       clear b2
       go_wp2_with fail
       go_ret
       exact retB _ trivial HB2.out))
theorem r8check_any (m : Mg) (ns : List (List UInt8)) (qs : List (Int × Int × Int)) (w : World) (hm : MgIn w m ns qs) : Calls Tryz.prog 59 #[.agg m.cs.toArray] w (RetI (fun _ => True) w) := by
  have HB := lh (alloc_below w (mgobj m))
  have H1 := lh (heap_alloc_new w (mgobj m))
  have HC := lh (fun (W : World) (h : W.heap[w.heap.size]? = some (mgobj m)) => show W.cell? ⟨w.heap.size, 0, none⟩ = some (.int .i64 m.kind) ∧ (W.rangeAt w.heap.size 0 m.cs ∧ W.cell? ⟨w.heap.size, 0, none⟩ = some (.int .i64 m.kind)) from ⟨by rw [Lib.cell_of_heap h]; rfl, rng_of h, by rw [Lib.cell_of_heap h]; rfl⟩)
  have HN := lh (fun W => rname_any m.kind W)
  have HT := lh (fun W => rtag_any m W)
  have HUS := lh (fun c W => ruses_any m.kind c W)
  have HZ := lh (fun c W => rzero_any m hm.ok c W)
  have HFS := lh (fun W => rfields_any m.kind W)
  have HFT := lh (fun c (W : World) (hb : Below w.heap.size w W) => r8fault_any m ns qs c W (hm.below hb))
  have HU := lh (Tryz.underlying48)
  have HSZ := lh (mg_size m)
  have HSL : RowKit.Hid ((Tryz.prog.info? 48).map (·.size) = some m.cs.length) := lh (by kernel_rfl)
  unfold mgobj at *
  clear hm
  generalize m.cs = cs at *
  generalize m.kind = kd at *
  go_enter Tryz.func59, Tryz.ntmps59
  go_upto_region 1 with fail
  generalize World.alloc _ _ = w1 at *
  obtain ⟨c0, _⟩ := HC.out _ H1.out
  go_wp2_with fail
  (with_reducible refine (HN.out _).mono ?_); rintro e wx ⟨s, rfl, hs, rfl⟩
  clear hs
  go_wp2_with (refine wpList_load_row rfl 48 _ rfl w.heap.size rfl 48 cs.toArray (0, 0) _ H1.out HU.out rfl HSZ.out ?_)
  all_goals (first | (go_ret; exact retI _ trivial HB.out) | skip)
  (with_reducible refine (HT.out _).mono ?_); rintro e w2 ⟨tg, rfl, _, b2⟩
  have H2 := lh ((b2.block _ (row_ltP H1.out)).trans H1.out)
  have HB2 := lh (bnext HB.out b2)
  clear b2 c0 H1 HB
  by_cases htg : tg = 0
  rotate_left
  · have ht : (tg != 0) = true := by simp [htg]
    go_wp2_with fail
    go_ret
    exact retI _ trivial HB2.out
  subst htg
  go_wp2_with fail
  go_loopg [4] 23 (fun k s W => ∃ j : Nat, j ≤ 23 ∧ s = .int .i64 (j : Int) ∧ (W.heap[w.heap.size]? = some (.cells cs.toArray 48) ∧ Below w.heap.size w W) ∧ k = 23 - j)
  case atStart => exact ⟨0, by omega, rfl, ⟨H2.out, HB2.out⟩, rfl⟩
  case round =>
    obtain ⟨j, hj, rfl, hst, hk⟩ := hrel
    have H3 := lh hst.1
    have HB3 := lh hst.2
    have HK := lh hk
    clear hst hk H2 HB2
    by_cases hlt : j < 23
    · have hki : (j : Int) < 23 := by omega
      go_upto_region 9 with fail
      have H4 := lh (((below_drew1 wr).block _ (row_ltP H3.out)).trans H3.out)
      have HB4 := lh (bnext HB3.out (below_drew1 wr))
      have hr4 := (HC.out _ H4.out).2
      refine wp_region_held_drew (S := (fun W' => W'.rangeAt w.heap.size 0 cs ∧ W'.cell? ⟨w.heap.size, 0, none⟩ = some (.int .i64 kd))) (by kernel_rfl) hr4 (fun hHeld => ?_)
      refine tk (hy := by (intro w hSw; obtain ⟨_, hc⟩ := hSw; go_simp <;> with_reducible rfl)) 0 21 ?_
      refine tk (hy := by (intro w hSw; obtain ⟨_, hc⟩ := hSw; go_simp <;> with_reducible rfl)) 1 22 ?_
      refine tk (hy := by (intro w hSw; obtain ⟨_, hc⟩ := hSw; go_simp <;> with_reducible rfl)) 2 23 ?_
      refine tk (hy := by (intro w hSw; obtain ⟨_, hc⟩ := hSw; go_simp <;> with_reducible rfl)) 3 24 ?_
      refine rdy 4 (fun K hK => ?_)
      go_simp
      go_wp2_with (go_at_call 115; (with_reducible refine (HUS.out _ _).mono ?_); rintro e w5 ⟨b, rfl, rfl⟩)
      refine hK.out _ _ hr4 (fun hHeld => ?_)
      clear hK K
      try simp only [Act.put, px1, px2, px3]
      refine tk (hy := by (intro w hSw; obtain ⟨_, hc⟩ := hSw; go_simp <;> with_reducible rfl)) 5 26 ?_
      refine tk (hy := by (intro w hSw; obtain ⟨_, hc⟩ := hSw; go_simp <;> with_reducible rfl)) 6 27 ?_
      cases b with
      | true =>
        refine wpAnyH_skips (by kernel_rfl) (fun _ _ _ _ h => h) (by assumption) [(7, 28), (8, 29), (9, 30), (10, 31), (11, 32)] 1 _ _ _ rfl (by kernel_rfl) ?_
        simp only [skipAct, skipListed, Act.put, List.setIfInBounds_toArray, List.set_cons_zero, List.set_cons_succ]
        refine tk (hy := by (intro w hSw; obtain ⟨_, hc⟩ := hSw; go_simp <;> with_reducible rfl)) 12 33 ?_
        refine wpAnyH_done (by kernel_rfl) ?_ _
        clear hHeld
        go_wp2_with fail
        have hk := HK.out
        go_roundg (23 - (j + 1))
        case measure => omega
        case rel => exact ⟨j + 1, by omega, by go_num, ⟨H4.out, HB4.out⟩, rfl⟩
      | false =>
        refine tkY (v := .agg cs.toArray) 7 28 rfl (yieldsIf_load_mid (by rfl) 48 (.tmp 1) rfl w.heap.size 0 (by rfl) cs _ (fun _ h => h.1) HU.out rfl HSL.out) ?_
        refine tk (hy := by (intro w hSw; obtain ⟨_, hc⟩ := hSw; go_simp <;> with_reducible rfl)) 8 29 ?_
        refine tk (hy := by (intro w hSw; obtain ⟨_, hc⟩ := hSw; go_simp <;> with_reducible rfl)) 9 30 ?_
        refine rdy 10 (fun K hK => ?_)
        go_simp
        go_wp2_with (go_at_call 116; (with_reducible refine (HZ.out _ _).mono ?_); rintro e w6 ⟨b, rfl, _, b6⟩)
        have H6 := lh ((b6.block _ (row_ltP H4.out)).trans H4.out)
        have HB6 := lh (bnext HB4.out b6)
        clear b6
        refine hK.out _ _ (HC.out _ H6.out).2 (fun hHeld => ?_)
        clear hK K
        try simp only [Act.put, px1, px2, px3]
        refine tk (hy := by (intro w hSw; obtain ⟨_, hc⟩ := hSw; go_simp <;> with_reducible rfl)) 11 32 ?_
        refine tk (hy := by (intro w hSw; obtain ⟨_, hc⟩ := hSw; go_simp <;> with_reducible rfl)) 12 33 ?_
        refine wpAnyH_done (by kernel_rfl) ?_ _
        clear hHeld
        cases b
        all_goals
          go_wp2_with fail
          first
            | (go_ret; exact retI _ trivial HB6.out)
            | (have hk := HK.out
               go_roundg (23 - (j + 1))
               case measure => omega
               case rel => exact ⟨j + 1, by omega, by go_num, ⟨H6.out, HB6.out⟩, rfl⟩)
    · obtain rfl : j = 23 := by omega
      clear HZ HUS HN HT
      obtain ⟨c0, _⟩ := HC.out _ H3.out
      go_wp2_with fail
      (with_reducible refine (HFS.out _).mono ?_); rintro e wx ⟨s2, rfl, hs2, rfl⟩
      have hsz2 : (T s2).size = s2.length := T_size s2
      clear HK c0
      go_wp2_with fail
      go_loopg [6] s2.length (fun k s W => ∃ j : Nat, j ≤ s2.length ∧ s = .int .i64 (j : Int) ∧ (W.heap[w.heap.size]? = some (.cells cs.toArray 48) ∧ Below w.heap.size w W) ∧ k = s2.length - j)
      case atStart => exact ⟨0, by omega, rfl, ⟨H3.out, HB3.out⟩, rfl⟩
      case round =>
        obtain ⟨j, hj, rfl, hst, hk⟩ := hrel
        have H7 := lh hst.1
        have HB7 := lh hst.2
        have HK := lh hk
        clear hst hk H3 HB3
        by_cases hlt : j < s2.length
        · have hki : (j : Int) < s2.length := by omega
          go_upto_region 15 with fail
          have H8 := lh (((below_drew1 wr).block _ (row_ltP H7.out)).trans H7.out)
          have HB8 := lh (bnext HB7.out (below_drew1 wr))
          have hr8 := (HC.out _ H8.out).2
          refine wp_region_held_drew (S := (fun W' => W'.rangeAt w.heap.size 0 cs ∧ W'.cell? ⟨w.heap.size, 0, none⟩ = some (.int .i64 kd))) (by kernel_rfl) hr8 (fun hHeld => ?_)
          refine tkY (v := .agg cs.toArray) 0 43 rfl (yieldsIf_load_mid (by rfl) 48 (.tmp 1) rfl w.heap.size 0 (by rfl) cs _ (fun _ h => h.1) HU.out rfl HSL.out) ?_
          refine tk (hy := by (intro w hSw; obtain ⟨_, hc⟩ := hSw; go_simp <;> with_reducible rfl)) 1 44 ?_
          refine tk (hy := by (intro w hSw; obtain ⟨_, hc⟩ := hSw; go_simp <;> with_reducible rfl)) 2 45 ?_
          refine tk (hy := by (intro w hSw; obtain ⟨_, hc⟩ := hSw; go_simp <;> with_reducible rfl)) 3 46 ?_
          refine rdy 4 (fun K hK => ?_)
          go_simp
          have hb8 := HB8.out
          go_wp2_with (go_at_call 118; (with_reducible refine (HFT.out _ _ hb8).mono ?_); rintro e w9 ⟨r, rfl, _, b9⟩)
          have H9 := lh ((b9.block _ (row_ltP H8.out)).trans H8.out)
          have HB9 := lh (bnext HB8.out b9)
          clear b9 hb8
          refine hK.out _ _ (HC.out _ H9.out).2 (fun hHeld => ?_)
          clear hK K
          try simp only [Act.put, px1, px2, px3]
          refine tk (hy := by (intro w hSw; obtain ⟨_, hc⟩ := hSw; go_simp <;> with_reducible rfl)) 5 7 ?_
          refine wpAnyH_done (by kernel_rfl) ?_ _
          clear hHeld
          by_cases hr : r = 0
          rotate_left
          · have ht : (r != 0) = true := by simp [hr]
            go_wp2_with fail
            go_ret
            exact retI _ trivial HB9.out
          subst hr
          go_wp2_with fail
          have hk := HK.out
          go_roundg (s2.length - (j + 1))
          case measure => omega
          case rel => exact ⟨j + 1, by omega, by go_num, ⟨H9.out, HB9.out⟩, rfl⟩
        · obtain rfl : j = s2.length := by omega
          go_wp2_with fail
          go_ret
          exact retI _ trivial HB7.out
end Go.Proofs.YtfibaopngpfmjaaGreatDoor
