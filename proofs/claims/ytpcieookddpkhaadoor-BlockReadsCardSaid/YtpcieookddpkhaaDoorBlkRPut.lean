/- What the reference's Put returns: Blok.put. Conditions: the slice holds the given blocks; at most 10^6 of them, data of at most 10^6 bytes. -/
import Derived.Test.YtpcieookddpkhaaDoorBlkPut
set_option linter.unusedVariables false
set_option linter.unusedSimpArgs false
namespace Go.Proofs.YtpcieookddpkhaaDoor
open Go.RowKit
/-- The box of the store, the cell of the result. -/
def RPutSt (w W : World) (c : Int) (v : Value) : Prop :=
  W.heap[w.heap.size]? = some (.cells #[.int .i64 c, v] 24 (0, 0)) ∧ W.heap[w.heap.size + 1]? = some (.cells #[.int .i64 0, .slice none 0 0] 24 (0, 0)) ∧ Below w.heap.size w W
theorem RPutSt.next {w W W' : World} {c : Int} {v : Value} (h : RPutSt w W c v) (hb : Below W.heap.size W W') : RPutSt w W' c v := by
  obtain ⟨h0, h1, h5⟩ := h
  exact ⟨(hb.block _ (row_lt h0)).trans h0, (hb.block _ (row_lt h1)).trans h1, bnext h5 hb⟩
theorem RPutSt.start (w : World) (c : Int) (v : Value) : RPutSt w ((w.alloc (.cells #[.int .i64 c, v] 24)).alloc (.cells #[.int .i64 0, .slice none 0 0] 24)) c v := by
  have e : (w.alloc (.cells #[.int .i64 c, v] 24)).heap.size = w.heap.size + 1 := by simp
  refine ⟨(Lib.alloc_old _ _ _ (by simp)).trans (heap_alloc_new _ _), ?_, ((Below.refl _ _).alloc (Nat.le_refl _) _).alloc (by simp) _⟩
  rw [← e]; exact heap_alloc_new _ _
theorem RPutSt.reads {w W : World} {c : Int} {v : Value} (h : RPutSt w W c v) :
    W.cell? ⟨w.heap.size, 0, none⟩ = some (.int .i64 c) ∧ W.cell? ⟨w.heap.size, 1, none⟩ = some v ∧ W.cell? ⟨w.heap.size + 1, 0, none⟩ = some (.int .i64 0) ∧ W.cell? ⟨w.heap.size + 1, 1, none⟩ = some (.slice none 0 0) ∧ W.frozen? ⟨w.heap.size + 1, 0, none⟩ = false ∧ W.frozen? ⟨w.heap.size + 1, 1, none⟩ = false := by
  obtain ⟨h0, h1, h5⟩ := h
  refine ⟨?_, ?_, ?_, ?_, frozen_of_row W _ 0 _ _ h1, frozen_of_row W _ 1 _ _ h1⟩
  · rw [cell_of_row _ _ _ _ _ _ h0]; rfl
  · rw [cell_of_row _ _ _ _ _ _ h0]; rfl
  · rw [cell_of_row _ _ _ _ _ _ h1]; rfl
  · rw [cell_of_row _ _ _ _ _ _ h1]; rfl
theorem RPutSt.done {w W : World} {c : Int} {v v1 : Value} {bs : List Blk} (hv : Blks w v1 bs) (h : RPutSt w W c v) (a b : Value) : Blks ((W.setCell ⟨w.heap.size + 1, 0, none⟩ a).setCell ⟨w.heap.size + 1, 1, none⟩ b) v1 bs ∧ Below w.heap.size w ((W.setCell ⟨w.heap.size + 1, 0, none⟩ a).setCell ⟨w.heap.size + 1, 1, none⟩ b) := by
  obtain ⟨h0, h1, h5⟩ := h
  have hb := (h5.setCell (p := ⟨w.heap.size + 1, 0, none⟩) (Nat.le_succ _) a).setCell (p := ⟨w.heap.size + 1, 1, none⟩) (Nat.le_succ _) b
  exact ⟨hv.below hb, hb⟩
set_option maxRecDepth 20000 in
set_option maxHeartbeats 4000000 in
theorem rbput_any (c : Int) (v : Value) (bs : List Blk) (k : Int) (d : List UInt8) (w : World) (hv : Blks w v bs) (hl : bs.length ≤ 1000000) (hd : d.length ≤ 1000000) :
    Calls Tryd.prog 24 #[.agg #[.int .i64 c, v], .int .i64 k, .string (T d)] w (BkPutSays c (Blok.put c bs k d) w) := by
  obtain ⟨ao, n, cp, rfl⟩ := hv.form
  obtain ⟨rfl, k1⟩ := hv.at
  have H1 := Lib.hid k1
  clear k1
  have HV := Lib.hid hv
  have HST := Lib.hid (RPutSt.start w c (.slice ao bs.length cp))
  have HKN := Lib.hid (fun (W : World) (h : RPutSt w W c (.slice ao bs.length cp)) => (kind_any k W).mono fun e w' (h' : e = _ ∧ W = w') => (⟨h'.1, h'.2 ▸ h⟩ : e = .returned (.bool (Blok.known k)) ∧ RPutSt w w' c (.slice ao bs.length cp)))
  have HMD := Lib.hid (fun (W : World) (h : RPutSt w W c (.slice ao bs.length cp)) => (rscore_T k d W hd).mono fun e w' (h' : e = _ ∧ Below W.heap.size W w') => (⟨h'.1, h.next h'.2⟩ : e = .returned (.string (T (Blok.scr k d))) ∧ RPutSt w w' c (.slice ao bs.length cp)))
  have HIX := Lib.hid (fun (x : List UInt8) (o : Obj) (W : World) (h : RPutSt w W c (.slice ao bs.length cp)) => (rat_any (.slice ao bs.length cp) bs x (W.alloc o) (hv.below (h.2.2.alloc h.2.2.size _)) hl).mono fun e w' (h' : e = _ ∧ W.alloc o = w') => (⟨h'.1, h.next (h'.2 ▸ (Below.refl _ _).alloc (Nat.le_refl _) _), h'.2 ▸ heap_alloc_new _ _⟩ : e = .returned (.int .i64 (Blok.idx x bs)) ∧ RPutSt w w' c (.slice ao bs.length cp) ∧ w'.heap[W.heap.size]? = some o))
  clear hv
  go_enter Tryd.func24, Tryd.ntmps24
  go_wp2_with fail
  refine (HKN.out _ HST.out).mono ?_; rintro e W ⟨rfl, hst⟩
  have l0 : w.heap.size + 1 < W.heap.size := row_lt hst.2.1
  obtain ⟨r1, r2, r3, r4, r5, r6⟩ := hst.reads
  have HS := Lib.hid hst
  clear hst
  cases hkn : Blok.known k
  · have HR := Lib.hid (Blok.put_arg (c := c) (bs := bs) (d := d) hkn)
    go_wp2_with fail
    exact bodyPost_ret (v := .tuple #[.agg #[.int .i64 c, .slice _ bs.length cp], .string (T []), .int .i64 1]) (by simp [results, Tryd.results24, go_sem, r1, r2, r3, r4]) rfl (bkput_says HR.out (RPutSt.done HV.out HS.out _ _).1 (RPutSt.done HV.out HS.out _ _).2)
  rcases Nat.lt_or_ge 1024 d.length with hdl | hdl
  · have HR := Lib.hid (Blok.put_long (c := c) (bs := bs) hkn hdl)
    have hdi : (1024 : Int) < d.length := by omega
    go_wp2_with fail
    exact bodyPost_ret (v := .tuple #[.agg #[.int .i64 c, .slice _ bs.length cp], .string (T []), .int .i64 4]) (by simp [results, Tryd.results24, go_sem, r1, r2, r3, r4]) rfl (bkput_says HR.out (RPutSt.done HV.out HS.out _ _).1 (RPutSt.done HV.out HS.out _ _).2)
  have hdi : (d.length : Int) ≤ 1024 := by omega
  go_wp2_with fail
  clear r1 r2 r3 r4 r5 r6
  refine (HMD.out _ HS.out).mono ?_; rintro e W2 ⟨rfl, hst⟩
  have l1 : w.heap.size + 1 < W2.heap.size := row_lt hst.2.1
  have l2 : w.heap.size < W2.heap.size := row_lt hst.1
  have ne1 : W2.heap.size ≠ w.heap.size + 1 := by omega
  have ne2 : w.heap.size + 1 ≠ W2.heap.size := by omega
  have q2 : (W2.alloc (.cells #[.string (T (Blok.scr k d)), .int .i64 k, .string (T d)] 49)).cell? ⟨w.heap.size, 1, none⟩ = some (.slice ao bs.length cp) := by rw [World.cell?_alloc_lt _ _ _ l2]; exact hst.reads.2.1
  have HS2 := Lib.hid hst
  clear hst
  go_wp2_with fail
  refine (HIX.out _ _ _ HS2.out).mono ?_; rintro e W3 ⟨rfl, hst, hrow⟩
  obtain ⟨r1, r2, r3, r4, r5, r6⟩ := hst.reads
  have e0 : W3.cell? ⟨W2.heap.size, 0, none⟩ = some (.string (T (Blok.scr k d))) := by rw [cell_of_row _ _ _ _ _ _ hrow]; rfl
  have e1 : W3.cell? ⟨W2.heap.size, 1, none⟩ = some (.int .i64 k) := by rw [cell_of_row _ _ _ _ _ _ hrow]; rfl
  have e2 : W3.cell? ⟨W2.heap.size, 2, none⟩ = some (.string (T d)) := by rw [cell_of_row _ _ _ _ _ _ hrow]; rfl
  have HS3 := Lib.hid hst
  have HROW := Lib.hid hrow
  have l3 : W2.heap.size < W3.heap.size := row_lt hrow
  clear hst hrow q2
  rcases Int.lt_or_le (Blok.idx (Blok.scr k d) bs) 0 with hi | hi
  · rcases Int.lt_or_le bs.length c with hc | hc
    · have HR := Lib.hid (Blok.put_new hkn hdl hi hc)
      generalize Blok.idx (Blok.scr k d) bs = I at *
      obtain ⟨i0, hi0, hz0, hz1, hz2⟩ := info_parts (P := Tryd.prog) (e := 49) (z := .agg #[.string ByteArray.empty, .int .i64 0, .string ByteArray.empty]) (size := 3) (bytes := 40) (by kernel_rfl)
      have l5 : w.heap.size < W3.heap.size := by omega
      have q3 : (W3.alloc (.cells #[] 49)).cell? ⟨w.heap.size, 1, none⟩ = some (.slice ao bs.length cp) := by rw [World.cell?_alloc_lt _ _ _ l5]; exact r2
      have HW3 := Lib.hid ((Below.refl W3.heap.size W3).alloc (Nat.le_refl _) (.cells #[] 49))
      have c00 : (W3.alloc (.cells #[] 49)).ownsRow W3.heap.size 49 3 (.slice (some ⟨W3.heap.size, 0, none⟩) 0 0) 0 [] := ⟨rfl, .inr ⟨W3.heap.size, 0, #[], rfl, Nat.le_refl _, heap_alloc_new W3 _, Nat.le_refl _, by unfold maxLen; omega, rfl, rfl⟩⟩
      have HO := Lib.hid c00
      go_upto_region 13 with fail
      clear r1 r2 r3 r4 r5 r6 e0 e1 e2 c00
      cases ao with
      | none =>
        have h0 : bs = [] ∧ cp = 0 := by
          obtain ⟨_, _, e, h1, h2, _⟩ := HV.out
          cases e
          have := h2 rfl
          exact ⟨List.eq_nil_of_length_eq_zero (by omega), this⟩
        obtain ⟨rfl, rfl⟩ := h0
        go_upto_region 14 with fail
        have HB6 := HW3
        have HO6 := HO
        clear HW3 HO q3
        generalize W3.alloc (.cells #[] 49) = w6 at *
        have hr6 := (HB6.out.block _ l3).trans HROW.out
        have e0 : w6.cell? ⟨W2.heap.size, 0, none⟩ = some (.string (T (Blok.scr k d))) := by rw [cell_of_row _ _ _ _ _ _ hr6]; rfl
        have e1 : w6.cell? ⟨W2.heap.size, 1, none⟩ = some (.int .i64 k) := by rw [cell_of_row _ _ _ _ _ _ hr6]; rfl
        have e2 : w6.cell? ⟨W2.heap.size, 2, none⟩ = some (.string (T d)) := by rw [cell_of_row _ _ _ _ _ _ hr6]; rfl
        clear hr6
        go_wp2_with (at_builtin; refine wpList_append_own _ rfl _ _ 22 rfl W3.heap.size 49 i0 (.agg #[.string ByteArray.empty, .int .i64 0, .string ByteArray.empty]) 3 40 Tryd.underlying22 hi0 hz0 hz1 hz2 rfl (by decide) (.slice (some ⟨W3.heap.size, 0, none⟩) 0 0) 0 [] rfl ?d0 ⟨w6.heap.size, 0, none⟩ 1 1 (bcs [Blok.made k d]) rfl ?d1 ?d2 ?d3 ?d4 ?d5 ?d6 ?_)
        case d0 => exact HO6.out.alloc _
        case d1 => rfl
        case d2 =>
          intro j u hj
          match j, hj with
          | 0, hj => simp [bcs, Blok.made] at hj; subst hj; simp [Addr.add]
          | 1, hj => simp [bcs, Blok.made] at hj; subst hj; simp [Addr.add]
          | 2, hj => simp [bcs, Blok.made] at hj; subst hj; simp [Addr.add]
          | j + 3, hj => simp [bcs] at hj
        case d3 => exact bcs_one _
        case d4 => unfold maxLen; omega
        case d5 => omega
        case d6 => have := HB6.out.size; simp; omega
        intro v7 w7 hown hgrow _
        have hb7 := (HB6.out.alloc HB6.out.size _).grown hgrow (by have := HB6.out.size; simp; omega) (fun k hk => (HO6.out.lt k hk).1)
        have hst7 := HS3.out.next hb7
        have HO7 := Lib.hid (show w7.ownsRow W3.heap.size 49 3 v7 ([Blok.made k d]).length (bcs ([Blok.made k d])) from by simpa using hown)
        have HB7 := Lib.hid hb7
        clear hown hgrow hb7 e0 e1 e2
        have hr7 := (HB7.out.block _ l3).trans HROW.out
        have e0 : w7.cell? ⟨W2.heap.size, 0, none⟩ = some (.string (T (Blok.scr k d))) := by rw [cell_of_row _ _ _ _ _ _ hr7]; rfl
        obtain ⟨r1, r2, r3, r4, r5, r6⟩ := hst7.reads
        obtain ⟨a7, n7, p7, rfl⟩ : ∃ a n c, v7 = .slice a n c := by
          rcases HO7.out.2 with ⟨e, _⟩ | ⟨g', cap', cur, e, _⟩
          · exact ⟨_, _, _, e⟩
          · exact ⟨_, _, _, e⟩
        have HS7 := Lib.hid hst7
        clear hst7 hr7
        have l6 : w.heap.size + 1 < W3.heap.size := by omega
        generalize Blok.scr k d = M at *
        go_upto_region 15 with fail
        go_region
        all_goals
          go_wp2_with fail
          exact bodyPost_ret (v := .tuple #[.agg #[.int .i64 c, .slice a7 n7 p7], .string (T M), .int .i64 0]) (by simp [results, Tryd.results24, go_sem, r1, r2, r3, r4]) rfl (bkput_says HR.out (blks_own (ownsRow_setCell_below (ownsRow_setCell_below (own_below HO7.out (below_drewN (Below.refl _ _) _)) (a := ⟨w.heap.size + 1, 0, none⟩) l6 _) (a := ⟨w.heap.size + 1, 1, none⟩) l6 _)) (((HS7.out.next (below_drewN (Below.refl _ _) _)).2.2.setCell (p := ⟨w.heap.size + 1, 0, none⟩) (Nat.le_succ _) _).setCell (p := ⟨w.heap.size + 1, 1, none⟩) (Nat.le_succ _) _))
      | some a =>
        have HCC := Lib.hid (HV.out.below HS3.out.2.2).cells
        go_wp2_with (at_builtin; refine wpList_append_own _ rfl _ _ 22 rfl W3.heap.size 49 i0 (.agg #[.string ByteArray.empty, .int .i64 0, .string ByteArray.empty]) 3 40 Tryd.underlying22 hi0 hz0 hz1 hz2 rfl (by decide) (.slice (some ⟨W3.heap.size, 0, none⟩) 0 0) 0 [] rfl HO.out a bs.length cp (bcs bs) rfl ?c1 ?c2 ?c3 ?c4 ?c5 ?c6 ?_)
        case c1 => exact bcs_length bs
        case c2 =>
          intro j u hu
          obtain ⟨h1, h2⟩ := HCC.out j u hu
          rw [HW3.out.cell (p := a.add j) h2]
          exact h1
        case c3 => exact bcs_one bs
        case c4 => unfold maxLen; omega
        case c5 => omega
        case c6 => simp
        intro v6 w6 hown hgrow _
        have hb6 := HW3.out.grown hgrow (by simp) (fun k hk => by cases hk; exact Nat.le_refl _)
        have HO6 := Lib.hid (show w6.ownsRow W3.heap.size 49 3 v6 bs.length (bcs bs) from by simpa using hown)
        have HB6 := Lib.hid hb6
        clear hown hgrow hb6 q3
        have hr6 := (HB6.out.block _ l3).trans HROW.out
        have e0 : w6.cell? ⟨W2.heap.size, 0, none⟩ = some (.string (T (Blok.scr k d))) := by rw [cell_of_row _ _ _ _ _ _ hr6]; rfl
        have e1 : w6.cell? ⟨W2.heap.size, 1, none⟩ = some (.int .i64 k) := by rw [cell_of_row _ _ _ _ _ _ hr6]; rfl
        have e2 : w6.cell? ⟨W2.heap.size, 2, none⟩ = some (.string (T d)) := by rw [cell_of_row _ _ _ _ _ _ hr6]; rfl
        obtain ⟨a6, n6, p6, rfl⟩ : ∃ a n c, v6 = .slice a n c := by
          rcases HO6.out.2 with ⟨e, _⟩ | ⟨g', cap', cur, e, _⟩
          · exact ⟨_, _, _, e⟩
          · exact ⟨_, _, _, e⟩
        clear hr6
        go_wp2_with (at_builtin; refine wpList_append_own _ rfl _ _ 22 rfl W3.heap.size 49 i0 (.agg #[.string ByteArray.empty, .int .i64 0, .string ByteArray.empty]) 3 40 Tryd.underlying22 hi0 hz0 hz1 hz2 rfl (by decide) (.slice a6 n6 p6) bs.length (bcs bs) rfl ?d0 ⟨w6.heap.size, 0, none⟩ 1 1 (bcs [Blok.made k d]) rfl ?d1 ?d2 ?d3 ?d4 ?d5 ?d6 ?_)
        case d0 => exact HO6.out.alloc _
        case d1 => rfl
        case d2 =>
          intro j u hj
          match j, hj with
          | 0, hj => simp [bcs, Blok.made] at hj; subst hj; simp [Addr.add]
          | 1, hj => simp [bcs, Blok.made] at hj; subst hj; simp [Addr.add]
          | 2, hj => simp [bcs, Blok.made] at hj; subst hj; simp [Addr.add]
          | j + 3, hj => simp [bcs] at hj
        case d3 => exact bcs_one _
        case d4 => unfold maxLen; omega
        case d5 => omega
        case d6 => have := HB6.out.size; simp; omega
        intro v7 w7 hown hgrow _
        have hb7 := (HB6.out.alloc HB6.out.size _).grown hgrow (by have := HB6.out.size; simp; omega) (fun k hk => (HO6.out.lt k hk).1)
        have hst7 := HS3.out.next hb7
        have HO7 := Lib.hid (show w7.ownsRow W3.heap.size 49 3 v7 (bs ++ [Blok.made k d]).length (bcs (bs ++ [Blok.made k d])) from by rw [bcs_append]; simpa using hown)
        have HB7 := Lib.hid hb7
        clear hown hgrow hb7 e0 e1 e2
        have hr7 := (HB7.out.block _ l3).trans HROW.out
        have e0 : w7.cell? ⟨W2.heap.size, 0, none⟩ = some (.string (T (Blok.scr k d))) := by rw [cell_of_row _ _ _ _ _ _ hr7]; rfl
        obtain ⟨r1, r2, r3, r4, r5, r6⟩ := hst7.reads
        obtain ⟨a7, n7, p7, rfl⟩ : ∃ a n c, v7 = .slice a n c := by
          rcases HO7.out.2 with ⟨e, _⟩ | ⟨g', cap', cur, e, _⟩
          · exact ⟨_, _, _, e⟩
          · exact ⟨_, _, _, e⟩
        have HS7 := Lib.hid hst7
        clear hst7 hr7
        have l6 : w.heap.size + 1 < W3.heap.size := by omega
        generalize Blok.scr k d = M at *
        go_upto_region 15 with fail
        go_region
        all_goals
          go_wp2_with fail
          exact bodyPost_ret (v := .tuple #[.agg #[.int .i64 c, .slice a7 n7 p7], .string (T M), .int .i64 0]) (by simp [results, Tryd.results24, go_sem, r1, r2, r3, r4]) rfl (bkput_says HR.out (blks_own (ownsRow_setCell_below (ownsRow_setCell_below (own_below HO7.out (below_drewN (Below.refl _ _) _)) (a := ⟨w.heap.size + 1, 0, none⟩) l6 _) (a := ⟨w.heap.size + 1, 1, none⟩) l6 _)) (((HS7.out.next (below_drewN (Below.refl _ _) _)).2.2.setCell (p := ⟨w.heap.size + 1, 0, none⟩) (Nat.le_succ _) _).setCell (p := ⟨w.heap.size + 1, 1, none⟩) (Nat.le_succ _) _))
    · have HR := Lib.hid (Blok.put_full hkn hdl hi hc)
      generalize Blok.idx (Blok.scr k d) bs = I at *
      go_wp2_with fail
      exact bodyPost_ret (v := .tuple #[.agg #[.int .i64 c, .slice _ bs.length cp], .string (T []), .int .i64 22]) (by simp [results, Tryd.results24, go_sem, r1, r2, r3, r4]) rfl (bkput_says HR.out (RPutSt.done HV.out HS3.out _ _).1 (RPutSt.done HV.out HS3.out _ _).2)
  · obtain ⟨i, hil, hii, hsc⟩ := Blok.hit hi
    obtain ⟨x1, o1, rfl, l4, c0, c1', c2'⟩ := H1.out i hil
    rw [← HS3.out.2.2.cell (p := ⟨x1, o1 + i * 3, none⟩) l4] at c0
    rw [← HS3.out.2.2.cell (p := ⟨x1, o1 + i * 3 + 1, none⟩) l4] at c1'
    rw [← HS3.out.2.2.cell (p := ⟨x1, o1 + i * 3 + 2, none⟩) l4] at c2'
    have hli : (i : Int) < bs.length := by omega
    rw [hii]
    by_cases he : bs[i] = Blok.made k d
    · have HR := Lib.hid (Blok.put_same (c := c) hkn hdl hii hil he)
      rw [he] at c0 c1' c2'
      unfold Blok.made at c0 c1' c2'
      simp only [] at c0 c1' c2'
      generalize Blok.scr k d = M at *
      go_upto_region 8 with fail
      go_quiet (fail)
      go_upto_region 10 with fail
      go_region
      all_goals
        go_wp2_with fail
        exact bodyPost_ret (v := .tuple #[.agg #[.int .i64 c, .slice _ bs.length cp], .string (T M), .int .i64 0]) (by simp [results, Tryd.results24, go_sem, r1, r2, r3, r4]) rfl (bkput_says HR.out (RPutSt.done HV.out (HS3.out.next (below_drewN (Below.refl _ _) _)) _ _).1 (RPutSt.done HV.out (HS3.out.next (below_drewN (Below.refl _ _) _)) _ _).2)
    · have HR := Lib.hid (Blok.put_bad (c := c) hkn hdl hii hil he)
      have hq1 := teq_yes hsc
      have HNE := Lib.hid (fun (h2 : (bs[i].kd == k) = true) (h3 : (bs[i].dt == d) = true) => he (bk_ext hsc (show bs[i].kd = k by simpa using h2) (show bs[i].dt = d by simpa using h3)))
      generalize Blok.scr k d = M at *
      generalize bs[i] = B at *
      clear he
      cases hq2 : (B.kd == k)
      · go_upto_region 8 with fail
        go_quiet (fail)
        go_wp2_with fail
        exact bodyPost_ret (v := .tuple #[.agg #[.int .i64 c, .slice _ bs.length cp], .string (T []), .int .i64 34]) (by simp [results, Tryd.results24, go_sem, r1, r2, r3, r4]) rfl (bkput_says HR.out (RPutSt.done HV.out (HS3.out.next (below_drewN (Below.refl _ _) _)) _ _).1 (RPutSt.done HV.out (HS3.out.next (below_drewN (Below.refl _ _) _)) _ _).2)
      · cases hq3 : (B.dt == d)
        · go_upto_region 8 with fail
          go_quiet (fail)
          go_wp2_with fail
          exact bodyPost_ret (v := .tuple #[.agg #[.int .i64 c, .slice _ bs.length cp], .string (T []), .int .i64 34]) (by simp [results, Tryd.results24, go_sem, r1, r2, r3, r4]) rfl (bkput_says HR.out (RPutSt.done HV.out (HS3.out.next (below_drewN (Below.refl _ _) _)) _ _).1 (RPutSt.done HV.out (HS3.out.next (below_drewN (Below.refl _ _) _)) _ _).2)
        · exact (HNE.out hq2 hq3).elim
end Go.Proofs.YtpcieookddpkhaaDoor
