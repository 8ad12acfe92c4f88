/- What the reference's Load returns: Blok.load. Conditions: a text of at most 10^6 bytes. -/
import Derived.Test.YtpcieookddpkhaaDoorBlkRRec
import Derived.Test.YtpcieookddpkhaaDoorBlkLoad
import Derived.Test.YtpcieookddpkhaaDoorBlkLog
set_option linter.unusedVariables false
set_option linter.unusedSimpArgs false
namespace Go.Proofs.YtpcieookddpkhaaDoor
open Go.RowKit
/-- The cell of the result, the box of the store, the box of the block. -/
def RLdSt (w W : World) (g h : Nat) (c : Int) (v : Value) (bs : List Blk) (B : Blk) : Prop :=
  W.heap[w.heap.size]? = some (.cells #[.int .i64 0, .slice none 0 0] 24 (0, 0)) ∧ W.heap[g]? = some (.cells #[.int .i64 c, v] 24 (0, 0)) ∧ W.heap[h]? = some (.cells #[.string (T B.sc), .int .i64 B.kd, .string (T B.dt)] 49 (0, 0)) ∧ w.heap.size + 1 ≤ g ∧ g + 1 ≤ h ∧
  W.ownsRow (h + 1) 49 3 v bs.length (bcs bs) ∧ Below w.heap.size w W
theorem RLdSt.next {w W W' : World} {g h : Nat} {c : Int} {v : Value} {bs : List Blk} {B : Blk} (s : RLdSt w W g h c v bs B) (hb : Below W.heap.size W W') : RLdSt w W' g h c v bs B := by
  obtain ⟨h0, h1, h2, h3, h4, h5, h6⟩ := s
  exact ⟨(hb.block _ (row_lt h0)).trans h0, (hb.block _ (row_lt h1)).trans h1, (hb.block _ (row_lt h2)).trans h2, h3, h4, own_below h5 hb, bnext h6 hb⟩
theorem RLdSt.start {w w1 w2 : World} {c : Int} {B : Blk} (hb : Below (w.alloc (.cells #[.int .i64 0, .slice none 0 0] 24)).heap.size (w.alloc (.cells #[.int .i64 0, .slice none 0 0] 24)) w1)
    (hb2 : Below (w1.alloc (.cells #[.int .i64 c, .slice none 0 0] 24)).heap.size (w1.alloc (.cells #[.int .i64 c, .slice none 0 0] 24)) w2) :
    RLdSt w (w2.alloc (.cells #[.string (T B.sc), .int .i64 B.kd, .string (T B.dt)] 49)) w1.heap.size w2.heap.size c (.slice none 0 0) [] B := by
  have r0 := after_alloc1_new hb
  have hbw := after_alloc1 hb
  have r1 := after_alloc1_new hb2
  have hbw2 := after_alloc1 hb2
  have r02 := (hbw2.block _ (row_lt r0)).trans r0
  exact ⟨(Lib.alloc_old _ _ _ (row_lt r02)).trans r02, (Lib.alloc_old _ _ _ (row_lt r1)).trans r1, heap_alloc_new _ _, row_lt r0, row_lt r1, World.ownsRow_nil _ _ _ _, (bnext hbw hbw2).alloc (bnext hbw hbw2).size _⟩
theorem RLdSt.reads {w W : World} {g h : Nat} {c : Int} {v : Value} {bs : List Blk} {B : Blk} (s : RLdSt w W g h c v bs B) :
    (W.cell? ⟨w.heap.size, 0, none⟩ = some (.int .i64 0) ∧ W.cell? ⟨w.heap.size, 1, none⟩ = some (.slice none 0 0) ∧ W.frozen? ⟨w.heap.size, 0, none⟩ = false ∧ W.frozen? ⟨w.heap.size, 1, none⟩ = false) ∧ (W.cell? ⟨g, 0, none⟩ = some (.int .i64 c) ∧ W.cell? ⟨g, 1, none⟩ = some v ∧ W.frozen? ⟨g, 1, none⟩ = false) ∧
    W.cell? ⟨h, 0, none⟩ = some (.string (T B.sc)) ∧ W.cell? ⟨h, 1, none⟩ = some (.int .i64 B.kd) ∧ W.cell? ⟨h, 2, none⟩ = some (.string (T B.dt)) ∧ W.frozen? ⟨h, 0, none⟩ = false ∧ W.frozen? ⟨h, 1, none⟩ = false ∧ W.frozen? ⟨h, 2, none⟩ = false := by
  obtain ⟨h0, h1, h2, h3, h4, h5, h6⟩ := s
  refine ⟨⟨?_, ?_, frozen_of_row W _ 0 _ _ h0, frozen_of_row W _ 1 _ _ h0⟩, ⟨?_, ?_, frozen_of_row W _ 1 _ _ h1⟩, ?_, ?_, ?_, frozen_of_row W _ 0 _ _ h2, frozen_of_row W _ 1 _ _ h2, frozen_of_row W _ 2 _ _ h2⟩
  · rw [cell_of_row _ _ _ _ _ _ h0]; rfl
  · rw [cell_of_row _ _ _ _ _ _ h0]; rfl
  · rw [cell_of_row _ _ _ _ _ _ h1]; rfl
  · rw [cell_of_row _ _ _ _ _ _ h1]; rfl
  · rw [cell_of_row _ _ _ _ _ _ h2]; rfl
  · rw [cell_of_row _ _ _ _ _ _ h2]; rfl
  · rw [cell_of_row _ _ _ _ _ _ h2]; rfl
theorem RLdSt.done {w W : World} {g h : Nat} {c : Int} {v : Value} {bs : List Blk} {B : Blk} (s : RLdSt w W g h c v bs B) (a b : Value) : Blks ((W.setCell ⟨w.heap.size, 0, none⟩ a).setCell ⟨w.heap.size, 1, none⟩ b) v bs ∧ Below w.heap.size w ((W.setCell ⟨w.heap.size, 0, none⟩ a).setCell ⟨w.heap.size, 1, none⟩ b) := by
  obtain ⟨h0, h1, h2, h3, h4, h5, h6⟩ := s
  exact ⟨blks_own (ownsRow_setCell_below (ownsRow_setCell_below h5 (a := ⟨w.heap.size, 0, none⟩) (by simp; omega) _) (a := ⟨w.heap.size, 1, none⟩) (by simp; omega) _), (h6.setCell (p := ⟨w.heap.size, 0, none⟩) (Nat.le_refl _) _).setCell (p := ⟨w.heap.size, 1, none⟩) (Nat.le_refl _) _⟩
theorem RLdSt.slice {w W : World} {g h : Nat} {c : Int} {v : Value} {bs : List Blk} {B : Blk} (s : RLdSt w W g h c v bs B) : ∃ a cp, v = .slice a bs.length cp := by
  obtain ⟨h0, h1, h2, h3, h4, h5, h6⟩ := s
  rcases h5.2 with ⟨e, e0⟩ | ⟨g', cap', cur, e, _⟩
  · exact ⟨none, 0, by rw [e0]; exact e⟩
  · exact ⟨_, _, e⟩
/-- Behind an append to the list. -/
theorem RLdSt.push {w W w6 : World} {g h : Nat} {c : Int} {v v' : Value} {bs : List Blk} {B x : Blk} {o : Obj} (s : RLdSt w W g h c v bs B) (hown : w6.ownsRow (h + 1) 49 3 v' (bs.length + 1) (bcs bs ++ bcs [x])) (hg : (W.alloc o).grownBy w6 v.ownBlock) :
    w6.heap[g]? = some (.cells #[.int .i64 c, v] 24 (0, 0)) ∧ RLdSt w (w6.setCell ⟨g, 1, none⟩ v') g h c v' (bs ++ [x]) B := by
  obtain ⟨h0, h1, h2, h3, h4, h5, h6⟩ := s
  have kp : ∀ (b : Nat) (o : Obj), b ≤ h → W.heap[b]? = some o → w6.heap[b]? = some o := fun b o hbh hb =>
    (hg.block b (by have := row_lt hb; simp; omega) (fun e => by have := (h5.lt b e.symm).1; omega)).trans ((Lib.alloc_old _ _ _ (row_lt hb)).trans hb)
  have g0 := kp _ _ (by omega) h0
  have g1 := kp _ _ (by omega) h1
  have g2 := kp _ _ (by omega) h2
  refine ⟨g1, ?_, heap_setCell_same w6 g 1 _ _ v' g1, ?_, h3, h4, ?_, ?_⟩
  · rw [Below.heap_setCell _ _ _ _ (by simp; omega)]; exact g0
  · rw [Below.heap_setCell _ _ _ _ (by simp; omega)]; exact g2
  · have := ownsRow_setCell_below hown (a := ⟨g, 1, none⟩) (by simp; omega) v'
    rw [bcs_append]; simpa using this
  · exact ((h6.alloc h6.size o).grown hg (by have := h6.size; simp; omega) (fun k hk => by have := (h5.lt k hk).1; omega)).setCell (p := ⟨g, 1, none⟩) (by simp; omega) _
/-- Behind a store into the block's box. -/
theorem RLdSt.put {w W : World} {g h : Nat} {c : Int} {v : Value} {bs : List Blk} {B : Blk} (s : RLdSt w W g h c v bs B) (x : Blk) : RLdSt w (((W.setCell ⟨h, 0, none⟩ (.string (T x.sc))).setCell ⟨h, 1, none⟩ (.int .i64 x.kd)).setCell ⟨h, 2, none⟩ (.string (T x.dt))) g h c v bs x := by
  obtain ⟨h0, h1, h2, h3, h4, h5, h6⟩ := s
  have k1 := heap_setCell_same W h 0 _ _ (.string (T x.sc)) h2
  have k2 := heap_setCell_same _ h 1 _ _ (.int .i64 x.kd) k1
  have k3 := heap_setCell_same _ h 2 _ _ (.string (T x.dt)) k2
  refine ⟨?_, ?_, k3, h3, h4, ownsRow_setCell_below (ownsRow_setCell_below (ownsRow_setCell_below h5 (a := ⟨h, 0, none⟩) (Nat.lt_succ_self _) _) (a := ⟨h, 1, none⟩) (Nat.lt_succ_self _) _) (a := ⟨h, 2, none⟩) (Nat.lt_succ_self _) _, ((h6.setCell (p := ⟨h, 0, none⟩) (by simp; omega) _).setCell (p := ⟨h, 1, none⟩) (by simp; omega) _).setCell (p := ⟨h, 2, none⟩) (by simp; omega) _⟩
  · rw [Below.heap_setCell _ _ _ _ (by simp; omega), Below.heap_setCell _ _ _ _ (by simp; omega), Below.heap_setCell _ _ _ _ (by simp; omega)]; exact h0
  · rw [Below.heap_setCell _ _ _ _ (by simp; omega), Below.heap_setCell _ _ _ _ (by simp; omega), Below.heap_setCell _ _ _ _ (by simp; omega)]; exact h1
theorem RLdSt.blks {w W : World} {g h : Nat} {c : Int} {v : Value} {bs : List Blk} {B : Blk} (s : RLdSt w W g h c v bs B) : Blks W v bs := blks_own s.2.2.2.2.2.1
theorem fair_sound {l : List UInt8} {b : Blk} (h : Blok.sound l = some b) : Blok.fair b := by
  have hf := Blok.sound_fits h
  have hk : 1 ≤ b.kd ∧ b.kd ≤ 4 := by
    have := hf.2.2.1
    unfold Blok.known at this; rw [Bool.and_eq_true, decide_eq_true_eq, decide_eq_true_eq] at this; exact this
  exact ⟨hk.1, hk.2, hf.2.2.2.1, hf.2.1⟩
set_option maxRecDepth 20000 in
set_option maxHeartbeats 4000000 in
theorem rload_any (l : List UInt8) (most : Int) (w : World) (hl : l.length ≤ 1000000) :
    Calls Tryd.prog 26 #[.string (T l), .int .i64 most] w (BkLoadSays (Blok.load l most) w) := by
  have HN := Lib.hid (fun w => rnew_any most w)
  have hcap := Blok.capOf_ge most
  have HA0 := Lib.hid (Blok.at_start most l)
  have HSO := Lib.hid (fun (f : Nat) (hf : f ≤ 10000000) (w : World) => sound_any l f w hl hf)
  have HSO0 := Lib.hid (fun (w : World) => sound_any l 0 w hl (by omega))
  rw [show ((0 : Nat) : Int) = 0 from rfl, List.drop_zero] at HSO0
  unfold RecSays at HSO HSO0
  go_enter Tryd.func26, Tryd.ntmps26
  go_wp2_with fail
  refine (HN.out _).mono ?_; rintro e w1 ⟨rfl, b1⟩
  go_wp2_with fail
  refine (HSO0.out _).mono ?_; rintro e w2 ⟨B0, o0, rfl, hs0, b2⟩
  have HL0 := Lib.hid (RLdSt.start (c := Blok.capOf most) (B := B0) b1 b2)
  clear b1 b2 HN HSO0
  go_wp2_with fail
  go_loopw [8, 10] (fun i o wr => ∃ (u : Nat) (v : Value) (acc : List Blk) (B : Blk) (ok : Bool), i = .int .i64 (u : Int) ∧ o = .bool ok ∧ Hid (Blok.At most l acc u) ∧ Hid (Blok.sound (l.drop u) = if ok = true then some B else none) ∧ Hid (RLdSt w wr w1.heap.size w2.heap.size (Blok.capOf most) v acc B)) (fun i _ _ => l.length - (intOf i).toNat)
  case atStart => exact ⟨0, _, [], B0, o0, rfl, rfl, HA0, (by rw [List.drop_zero]; exact hs0), HL0⟩
  case round =>
    obtain ⟨u, v, acc, B, ok, rfl, rfl, HA, HS, HL⟩ := hrel
    have hul : u ≤ l.length := HA.out.1
    have hui : (u : Int) ≤ l.length := by omega
    obtain ⟨ra, rc, rfl⟩ := HL.out.slice
    have hgw : w1.heap.size ≠ w.heap.size := by have := HL.out.2.2.2.1; omega
    have hgw2 : w.heap.size ≠ w1.heap.size := fun e => hgw e.symm
    have hgh : w1.heap.size ≠ w2.heap.size := by have := HL.out.2.2.2.2.1; omega
    have hgh2 : w2.heap.size ≠ w1.heap.size := fun e => hgh e.symm
    have hwh : w.heap.size ≠ w2.heap.size := by have := HL.out.2.2.2.1; have := HL.out.2.2.2.2.1; omega
    have hwh2 : w2.heap.size ≠ w.heap.size := fun e => hwh e.symm
    cases ok
    · have hs' : Blok.sound (l.drop u) = none := by simpa using HS.out
      have HR0 := Lib.hid (Blok.at_stop HA.out hs')
      have HHD := Lib.hid (fun W => header_any l u W hl (by omega))
      unfold HdSays at HHD
      obtain ⟨m0, m1⟩ := Blok.hN_bounds (l.drop u)
      obtain ⟨m, hm⟩ := Int.eq_ofNat_of_zero_le m0
      have HBR := Lib.hid (show Blok.broken l u = (Blok.hOK (l.drop u) && (Blok.sound (l.drop (u + (39 + m)))).isSome) from by unfold Blok.broken; rw [hm]; rfl)
      rw [hm] at HHD m1
      have hm2 : m < 65536 := by omega
      clear hs' m0 m1 hm
      generalize Blok.hK (l.drop u) = K at *
      cases hok : Blok.hOK (l.drop u)
      · have HR := Lib.hid (HR0.out.trans (if_neg (by rw [HBR.out, hok]; simp)))
        rw [hok] at HHD
        go_wp2_with fail
        refine (HHD.out _).mono ?_; rintro e w3 ⟨rfl, b3⟩
        have HL3 := Lib.hid (HL.out.next b3)
        obtain ⟨⟨r1, r2, r3, r4⟩, ⟨s1, s2, s3⟩, t1, t2, t3, t4, t5, t6⟩ := HL3.out.reads
        clear b3
        go_wp2_with fail
        exact bodyPost_ret (v := .tuple #[.agg #[.int .i64 (Blok.capOf most), .slice ra acc.length rc], .int .i64 (u : Int), .int .i64 0]) (by simp [results, Tryd.results26, go_sem, r1, r2]) rfl (bkload_says HR.out (HL3.out.done _ _).1 (HL3.out.done _ _).2)
      · rw [hok] at HHD
        have HSO2 := Lib.hid (HSO.out (u + 39 + m) (by omega))
        have hc1 : ((u + 39 + m : Nat) : Int) = (u : Int) + 39 + m := by omega
        rw [hc1] at HSO2
        have hc2 : (u : Int) + 39 + m ≤ 10000000 := by omega
        have h3 : u + (39 + m) = u + 39 + m := by omega
        go_wp2_with fail
        refine (HHD.out _).mono ?_; rintro e w3 ⟨rfl, b3⟩
        have HL3a := Lib.hid (HL.out.next b3)
        clear b3 hc1
        go_wp2_with fail
        refine (HSO2.out _).mono ?_; rintro e w4 ⟨B2, o2, rfl, hs2, b4⟩
        have HL3 := Lib.hid (HL3a.out.next (b4.alloc b4.size (.cells #[.string (T B2.sc), .int .i64 B2.kd, .string (T B2.dt)] 49)))
        clear b4 HSO2
        go_upto_region 14 with fail
        generalize w4.alloc (.cells #[.string (T B2.sc), .int .i64 B2.kd, .string (T B2.dt)] 49) = W4 at *
        obtain ⟨⟨r1, r2, r3, r4⟩, ⟨s1, s2, s3⟩, t1, t2, t3, t4, t5, t6⟩ := HL3.out.reads
        cases o2
        · have HR := Lib.hid (HR0.out.trans (if_neg (by rw [HBR.out, hok, h3, hs2]; simp)))
          clear hs2 h3
          go_wp2_with fail
          exact bodyPost_ret (v := .tuple #[.agg #[.int .i64 (Blok.capOf most), .slice ra acc.length rc], .int .i64 (u : Int), .int .i64 0]) (by simp [results, Tryd.results26, go_sem, r1, r2]) rfl (bkload_says HR.out (HL3.out.done _ _).1 (HL3.out.done _ _).2)
        · have HR := Lib.hid (HR0.out.trans (if_pos (by rw [HBR.out, hok, h3, hs2]; rfl)))
          clear hs2 h3
          go_wp2_with fail
          exact bodyPost_ret (v := .tuple #[.agg #[.int .i64 (0), .slice none 0 0], .int .i64 0, .int .i64 34]) (by simp [results, Tryd.results26, go_sem, r1, r2]) rfl (bkload_says HR.out (blks_nil _) (HL3.out.done _ _).2)
    · have hs : Blok.sound (l.drop u) = some B := by simpa using HS.out
      have hf := Blok.sound_fits hs
      have hfair := fair_sound hs
      obtain ⟨HN1, HN2, HN3⟩ := Blok.at_next HA.out hs
      rw [List.length_drop] at hf
      have hacc : acc.length ≤ 1000000 := by have := HA.out.2.1; omega
      have hdl : B.dt.length ≤ 1000000 := by omega
      have hdu : u + (39 + B.dt.length) ≤ 1000000 := by omega
      have hdi0 : (39 : Int) + (B.dt.length : Int) ≤ 1000000 := by omega
      have hdi : (u : Int) + (39 + (B.dt.length : Int)) ≤ 1000000 := by omega
      have hul2 : u < l.length := by omega
      have HRT := Lib.hid (fun (W : World) => rrec_T B W hfair)
      have HRL := Lib.hid (Blok.rec_length hfair)
      have HAT := Lib.hid (fun (W : World) (h : RLdSt w W w1.heap.size w2.heap.size (Blok.capOf most) (.slice ra acc.length rc) acc B) => (rat_any (.slice ra acc.length rc) acc B.sc W h.blks hacc).mono fun e w' (h' : e = _ ∧ W = w') => (⟨h'.1, h'.2 ▸ h⟩ : e = .returned (.int .i64 (Blok.idx B.sc acc)) ∧ RLdSt w w' w1.heap.size w2.heap.size (Blok.capOf most) (.slice ra acc.length rc) acc B))
      have HSO2 := Lib.hid (HSO.out (u + (39 + B.dt.length)) (by omega))
      have hc1 : ((u + (39 + B.dt.length) : Nat) : Int) = (u : Int) + (39 + (B.dt.length : Int)) := by omega
      have HRI : Hid (((Blok.rec B).length : Int) = 39 + (B.dt.length : Int)) := by have := HRL.out; show ((Blok.rec B).length : Int) = _; omega
      rw [hc1] at HSO2
      clear hf hfair hs
      obtain ⟨⟨r1, r2, r3, r4⟩, ⟨s1, s2, s3⟩, t1, t2, t3, t4, t5, t6⟩ := HL.out.reads
      generalize Blok.rec B = R at *
      rcases Int.lt_or_le (Blok.idx B.sc acc) 0 with hi | hi
      · by_cases hc : Blok.capOf most ≤ acc.length
        · have HR := Lib.hid (HN2 (by omega) hc)
          clear HN1 HN2 HN3
          go_wp2_with fail
          refine (HAT.out _ HL.out).mono ?_; rintro e W ⟨rfl, hst⟩
          have HL3 := Lib.hid hst
          clear hst r1 r2 r3 r4 s1 s2 s3 t1 t2 t3 t4 t5 t6
          obtain ⟨⟨r1, r2, r3, r4⟩, ⟨s1, s2, s3⟩, t1, t2, t3, t4, t5, t6⟩ := HL3.out.reads
          generalize Blok.idx B.sc acc = I at *
          go_wp2_with fail
          exact bodyPost_ret (v := .tuple #[.agg #[.int .i64 (0), .slice none 0 0], .int .i64 0, .int .i64 22]) (by simp [results, Tryd.results26, go_sem, r1, r2]) rfl (bkload_says HR.out (blks_nil _) (HL3.out.done (.int .i64 0) (.slice none 0 0)).2)
        · have HA1 := Lib.hid (HN3 (by omega) hc)
          obtain ⟨i0, hi0, hz0, hz1, hz2⟩ := info_parts (P := Tryd.prog) (e := 49) (z := .agg #[.string ByteArray.empty, .int .i64 0, .string ByteArray.empty]) (size := 3) (bytes := 40) (by kernel_rfl)
          clear HN1 HN2 HN3
          go_wp2_with fail
          refine (HAT.out _ HL.out).mono ?_; rintro e W ⟨rfl, hst⟩
          have HL2 := Lib.hid hst
          clear hst r1 r2 r3 r4 s1 s2 s3 t1 t2 t3 t4 t5 t6
          obtain ⟨⟨r1, r2, r3, r4⟩, ⟨s1, s2, s3⟩, t1, t2, t3, t4, t5, t6⟩ := HL2.out.reads
          have hWs : w2.heap.size + 1 ≤ W.heap.size := row_lt HL2.out.2.2.1
          generalize Blok.idx B.sc acc = I at *
          go_wp2_with (at_builtin; refine wpList_append_own _ rfl _ _ 22 rfl (w2.heap.size + 1) 49 i0 (.agg #[.string ByteArray.empty, .int .i64 0, .string ByteArray.empty]) 3 40 Tryd.underlying22 hi0 hz0 hz1 hz2 rfl (by decide) (.slice ra acc.length rc) acc.length (bcs acc) rfl ?c0 ⟨W.heap.size, 0, none⟩ 1 1 (bcs [B]) rfl ?c1 ?c2 ?c3 ?c4 ?c5 ?c6 ?_)
          case c0 => exact HL2.out.2.2.2.2.2.1.alloc _
          case c1 => rfl
          case c2 =>
            intro j x hj
            match j, hj with
            | 0, hj => simp [bcs] at hj; subst hj; simp [Addr.add]
            | 1, hj => simp [bcs] at hj; subst hj; simp [Addr.add]
            | 2, hj => simp [bcs] at hj; subst hj; simp [Addr.add]
            | j + 3, hj => simp [bcs] at hj
          case c3 => exact bcs_one _
          case c4 => unfold maxLen; omega
          case c5 => omega
          case c6 => simp; omega
          intro v6 w6 hown hgrow _
          obtain ⟨g2, hst6⟩ := HL2.out.push hown hgrow
          obtain ⟨a6, n6, p6, rfl⟩ : ∃ a n c, v6 = .slice a n c := by obtain ⟨a, c, e⟩ := hst6.slice; exact ⟨a, _, c, e⟩
          have d1 : w6.cell? ⟨w1.heap.size, 1, none⟩ = some (.slice ra acc.length rc) := by rw [cell_of_row _ _ _ _ _ _ g2]; rfl
          have fz := frozen_of_row w6 w1.heap.size 1 _ _ g2
          clear hown hgrow g2 r1 r2 r3 r4 s1 s2 s3 t1 t2 t3 t4 t5 t6
          go_upto_region 9 with fail
          generalize w6.setCell ⟨w1.heap.size, 1, none⟩ (.slice a6 n6 p6) = W7 at *
          have HL7 := Lib.hid hst6
          clear hst6 d1 fz
          obtain ⟨⟨r1, r2, r3, r4⟩, ⟨s1, s2, s3⟩, t1, t2, t3, t4, t5, t6⟩ := HL7.out.reads
          go_wp2_with fail
          refine (HRT.out _).mono ?_; rintro e w8 ⟨rfl, b8⟩
          have HL8 := Lib.hid (HL7.out.next b8)
          have hri := HRI.out
          clear b8 r1 r2 r3 r4 s1 s2 s3 t1 t2 t3 t4 t5 t6
          go_wp2_with fail
          refine (HSO2.out _).mono ?_; rintro e w9 ⟨B9, o9, rfl, hs9, b9⟩
          have HL9 := Lib.hid (HL8.out.next b9)
          obtain ⟨⟨r1, r2, r3, r4⟩, ⟨s1, s2, s3⟩, t1, t2, t3, t4, t5, t6⟩ := HL9.out.reads
          have HL10 := Lib.hid (HL9.out.put B9)
          clear b9
          go_wp2_with fail
          go_roundw
          case rel => exact ⟨u + (39 + B.dt.length), _, _, B9, o9, by go_num, rfl, HA1, hs9, HL10⟩
          case measure => simp [intOf]; omega
      · have HA1 := Lib.hid (HN1 hi)
        clear HN1 HN2 HN3
        go_wp2_with fail
        refine (HAT.out _ HL.out).mono ?_; rintro e W ⟨rfl, hst⟩
        have HL7 := Lib.hid hst
        clear hst r1 r2 r3 r4 s1 s2 s3 t1 t2 t3 t4 t5 t6
        generalize Blok.idx B.sc acc = I at *
        go_upto_region 9 with fail
        obtain ⟨⟨r1, r2, r3, r4⟩, ⟨s1, s2, s3⟩, t1, t2, t3, t4, t5, t6⟩ := HL7.out.reads
        go_wp2_with fail
        refine (HRT.out _).mono ?_; rintro e w8 ⟨rfl, b8⟩
        have HL8 := Lib.hid (HL7.out.next b8)
        have hri := HRI.out
        clear b8 r1 r2 r3 r4 s1 s2 s3 t1 t2 t3 t4 t5 t6
        go_wp2_with fail
        refine (HSO2.out _).mono ?_; rintro e w9 ⟨B9, o9, rfl, hs9, b9⟩
        have HL9 := Lib.hid (HL8.out.next b9)
        obtain ⟨⟨r1, r2, r3, r4⟩, ⟨s1, s2, s3⟩, t1, t2, t3, t4, t5, t6⟩ := HL9.out.reads
        have HL10 := Lib.hid (HL9.out.put B9)
        clear b9
        go_wp2_with fail
        go_roundw
        case rel => exact ⟨u + (39 + B.dt.length), _, _, B9, o9, by go_num, rfl, HA1, hs9, HL10⟩
        case measure => simp [intOf]; omega
end Go.Proofs.YtpcieookddpkhaaDoor
