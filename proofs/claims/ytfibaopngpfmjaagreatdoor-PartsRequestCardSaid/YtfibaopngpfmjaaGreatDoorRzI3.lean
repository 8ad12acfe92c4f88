/- The reference's readList of errors, data, names and qids. Conditions: those that each theorem names. -/
import Derived.Test.YtfibaopngpfmjaaGreatDoorRzC1
import Derived.Test.YtfibaopngpfmjaaGreatDoorRzI1
import Derived.Test.YtfibaopngpfmjaaGreatDoorRzA1
set_option linter.unusedVariables false
set_option linter.unusedSimpArgs false
set_option maxRecDepth 100000
set_option maxHeartbeats 8000000
namespace Go.Proofs.YtfibaopngpfmjaaGreatDoor
open Go.RowKit Go.Proofs
/-- The texts of the faults. -/
def fltTxt : List (List UInt8) := [[], [105, 110, 118, 97, 108, 105, 100, 32, 97, 114, 103, 117, 109, 101, 110, 116], [109, 97, 108, 102, 111, 114, 109, 101, 100, 32, 100, 97, 116, 97], [100, 97, 116, 97, 32, 116, 111, 111, 32, 115, 104, 111, 114, 116], [100, 97, 116, 97, 32, 116, 111, 111, 32, 108, 111, 110, 103], [110, 117, 109, 98, 101, 114, 32, 111, 117, 116, 32, 111, 102, 32, 114, 97, 110, 103, 101], [105, 110, 118, 97, 108, 105, 100, 32, 110, 97, 109, 101], [102, 105, 108, 101, 32, 97, 108, 114, 101, 97, 100, 121, 32, 101, 120, 105, 115, 116, 115], [102, 105, 108, 101, 32, 100, 111, 101, 115, 32, 110, 111, 116, 32, 101, 120, 105, 115, 116], [110, 111, 116, 32, 97, 32, 100, 105, 114, 101, 99, 116, 111, 114, 121], [102, 105, 108, 101, 32, 105, 115, 32, 97, 32, 100, 105, 114, 101, 99, 116, 111, 114, 121], [112, 101, 114, 109, 105, 115, 115, 105, 111, 110, 32, 100, 101, 110, 105, 101, 100], [105, 110, 118, 97, 108, 105, 100, 32, 111, 112, 101, 110, 32, 109, 111, 100, 101], [117, 110, 107, 110, 111, 119, 110, 32, 102, 105, 100], [102, 105, 100, 32, 105, 110, 32, 117, 115, 101], [102, 105, 108, 101, 32, 105, 115, 32, 111, 112, 101, 110], [102, 105, 108, 101, 32, 105, 115, 32, 110, 111, 116, 32, 111, 112, 101, 110], [116, 97, 103, 32, 105, 110, 32, 117, 115, 101], [110, 111, 32, 118, 101, 114, 115, 105, 111, 110, 32, 110, 101, 103, 111, 116, 105, 97, 116, 101, 100], [105, 110, 118, 97, 108, 105, 100, 32, 109, 101, 115, 115, 97, 103, 101, 32, 115, 105, 122, 101], [105, 110, 118, 97, 108, 105, 100, 32, 111, 102, 102, 115, 101, 116], [113, 117, 111, 116, 97, 32, 101, 120, 99, 101, 101, 100, 101, 100], [108, 105, 109, 105, 116, 32, 114, 101, 97, 99, 104, 101, 100], [100, 105, 114, 101, 99, 116, 111, 114, 121, 32, 105, 115, 32, 110, 111, 116, 32, 101, 109, 112, 116, 121], [101, 120, 99, 108, 117, 115, 105, 118, 101, 32, 117, 115, 101, 32, 102, 105, 108, 101, 32, 105, 115, 32, 111, 112, 101, 110], [117, 110, 107, 110, 111, 119, 110, 32, 117, 115, 101, 114], [110, 111, 116, 32, 97, 32, 109, 101, 109, 98, 101, 114, 32, 111, 102, 32, 116, 104, 101, 32, 103, 114, 111, 117, 112], [97, 116, 116, 114, 105, 98, 117, 116, 101, 115, 32, 99, 97, 110, 110, 111, 116, 32, 98, 101, 32, 99, 104, 97, 110, 103, 101, 100], [97, 117, 116, 104, 101, 110, 116, 105, 99, 97, 116, 105, 111, 110, 32, 102, 97, 105, 108, 101, 100], [97, 117, 116, 104, 101, 110, 116, 105, 99, 97, 116, 105, 111, 110, 32, 105, 115, 32, 110, 111, 116, 32, 114, 101, 113, 117, 105, 114, 101, 100], [99, 111, 110, 110, 101, 99, 116, 105, 111, 110, 32, 105, 115, 32, 100, 111, 119, 110], [115, 101, 115, 115, 105, 111, 110, 32, 100, 111, 101, 115, 32, 110, 111, 116, 32, 101, 120, 105, 115, 116], [108, 101, 97, 115, 101, 32, 100, 111, 101, 115, 32, 110, 111, 116, 32, 101, 120, 105, 115, 116], [102, 105, 108, 101, 32, 115, 121, 115, 116, 101, 109, 32, 105, 115, 32, 114, 101, 97, 100, 32, 111, 110, 108, 121], [98, 108, 111, 99, 107, 32, 105, 115, 32, 99, 111, 114, 114, 117, 112, 116], [110, 111, 32, 98, 108, 111, 99, 107, 32, 119, 105, 116, 104, 32, 116, 104, 105, 115, 32, 115, 99, 111, 114, 101], [105, 110, 118, 97, 108, 105, 100, 32, 100, 105, 97, 108, 32, 115, 116, 114, 105, 110, 103], [117, 110, 107, 110, 111, 119, 110, 32, 110, 101, 116, 119, 111, 114, 107], [117, 110, 107, 110, 111, 119, 110, 32, 104, 111, 115, 116], [117, 110, 107, 110, 111, 119, 110, 32, 115, 101, 114, 118, 105, 99, 101], [99, 111, 110, 110, 101, 99, 116, 105, 111, 110, 32, 114, 101, 102, 117, 115, 101, 100], [97, 100, 100, 114, 101, 115, 115, 32, 105, 110, 32, 117, 115, 101], [112, 114, 111, 99, 101, 115, 115, 32, 100, 111, 101, 115, 32, 110, 111, 116, 32, 101, 120, 105, 115, 116], [110, 111, 116, 32, 112, 111, 115, 115, 105, 98, 108, 101, 32, 105, 110, 32, 116, 104, 105, 115, 32, 115, 116, 97, 116, 101], [110, 111, 116, 32, 97, 110, 32, 111, 112, 101, 110, 32, 102, 105, 108, 101, 32, 100, 101, 115, 99, 114, 105, 112, 116, 111, 114], [110, 111, 116, 104, 105, 110, 103, 32, 105, 115, 32, 109, 111, 117, 110, 116, 101, 100, 32, 116, 104, 101, 114, 101], [99, 114, 101, 97, 116, 105, 111, 110, 32, 105, 115, 32, 110, 111, 116, 32, 112, 101, 114, 109, 105, 116, 116, 101, 100], [115, 121, 110, 116, 97, 120, 32, 101, 114, 114, 111, 114], [109, 105, 115, 115, 105, 110, 103, 32, 113, 117, 111, 116, 101], [109, 97, 108, 102, 111, 114, 109, 101, 100, 32, 114, 101, 103, 117, 108, 97, 114, 32, 101, 120, 112, 114, 101, 115, 115, 105, 111, 110], [109, 97, 108, 102, 111, 114, 109, 101, 100, 32, 114, 117, 108, 101], [117, 110, 107, 110, 111, 119, 110, 32, 112, 111, 114, 116], [110, 111, 32, 107, 101, 121, 32, 109, 97, 116, 99, 104, 101, 115], [112, 114, 111, 116, 111, 99, 111, 108, 32, 105, 115, 32, 111, 117, 116, 32, 111, 102, 32, 112, 104, 97, 115, 101], [117, 110, 107, 110, 111, 119, 110, 32, 99, 111, 110, 116, 114, 111, 108, 32, 114, 101, 113, 117, 101, 115, 116], [111, 116, 104, 101, 114, 32, 101, 110, 100, 32, 105, 115, 32, 99, 108, 111, 115, 101, 100], [114, 101, 113, 117, 101, 115, 116, 32, 119, 97, 115, 32, 102, 108, 117, 115, 104, 101, 100], [115, 116, 101, 112, 32, 108, 105, 109, 105, 116, 32, 114, 101, 97, 99, 104, 101, 100], [117, 110, 107, 110, 111, 119, 110, 32, 99, 111, 109, 109, 97, 110, 100], [99, 111, 109, 109, 97, 110, 100, 32, 102, 97, 105, 108, 101, 100]]
theorem fltTxt_len : fltTxt.length = 60 := rfl
/-- A block of texts is a list of texts in memory. -/
theorem txs_block {W : World} {g : Nat} {l : List (List UInt8)} {t : TypeId} {fr : Nat × Nat} (h : W.heap[g]? = some (.cells (l.map (fun x => Value.string (T x))).toArray t fr)) : Txs W (.slice (some ⟨g, 0, none⟩) l.length l.length) l := by
  refine ⟨some ⟨g, 0, none⟩, l.length, rfl, Nat.le_refl _, ?_, ?_⟩
  · intro h0
    cases h0
  intro j hj
  refine ⟨g, 0, rfl, row_ltP h, ?_⟩
  rw [Lib.cell_of_heap h]
  simp [hj]
theorem texts04_any (w : World) : Calls Tryz.prog 247 #[] w fun e w' => e = .returned (.slice (some ⟨w.heap.size, 0, none⟩) 60 60) ∧ Txs w' (.slice (some ⟨w.heap.size, 0, none⟩) 60 60) fltTxt ∧ Below w.heap.size w w' := by
  have HT := lh (show ∀ W : World, W = w.alloc (.cells (fltTxt.map (fun x => Value.string (T x))).toArray 9) → Txs W (.slice (some ⟨w.heap.size, 0, none⟩) 60 60) fltTxt from fun W h => by
    subst h
    exact txs_block (heap_alloc_new w _))
  have HB := lh (show ∀ W : World, W = w.alloc (.cells (fltTxt.map (fun x => Value.string (T x))).toArray 9) → Below w.heap.size w W from fun W h => by
    subst h
    exact alloc_below w _)
  go_enter Tryz.func247, Tryz.ntmps247
  go_wp2_with fail
  go_ret
  exact ⟨rfl, HT.out _ rfl, HB.out _ rfl⟩
/-- A fault's number and whether it was found. -/
def FndR (w : World) (e : Ending) (w' : World) : Prop := ∃ k b, e = .returned (.tuple #[.int .i64 k, .bool b]) ∧ Below w.heap.size w w'
theorem fndR {w w' : World} (k : Int) (b : Bool) (h : Below w.heap.size w w') : FndR w (.returned (.tuple #[.int .i64 k, .bool b])) w' := ⟨k, b, rfl, h⟩
theorem rfind_any (s : List UInt8) (w : World) : Calls Tryz.prog 224 #[.string (T s)] w (FndR w) := by
  have HT := lh (fun W => texts04_any W)
  have hln := fltTxt_len
  go_enter Tryz.func224, Tryz.ntmps224
  go_wp2_with fail
  (with_reducible refine (HT.out _).mono ?_); rintro e w1 ⟨rfl, ht, hb⟩
  have HB := lh hb
  obtain ⟨ao, cap, e0, _, _, hcell⟩ := ht
  cases e0
  have HC := lh (show ∀ j (h : j < fltTxt.length), w1.cell? ⟨w.heap.size, j, none⟩ = some (.string (T fltTxt[j])) from fun j h => by
    obtain ⟨b, off, e1, _, c1⟩ := hcell j h
    cases e1
    rw [Nat.zero_add] at c1
    exact c1)
  clear hb hcell HT
  go_wp2_with fail
  go_loop [5] (fun i => ∃ k : Nat, k ≤ 60 ∧ i = .int .i64 (k : Int)) (fun i => 60 - (intOf i).toNat)
  case atStart => exact ⟨1, by omega, rfl⟩
  case round =>
    obtain ⟨k, hk, rfl⟩ := hrel
    by_cases hlt : k < 60
    · have c1 := HC.out k (by omega)
      have hki : (k : Int) < 60 := by omega
      generalize fltTxt[k] = tx at *
      clear HC
      go_wp2_with fail
      all_goals (first
        | (go_ret2; exact fndR _ _ HB.out)
        | (go_round
           case rel => exact ⟨k + 1, by omega, by go_num⟩
           case measure => simp [intOf]; omega))
    · obtain rfl : k = 60 := by omega
      clear HC
      go_wp2_with fail
      go_ret2
      exact fndR _ _ HB.out
theorem rlist_other (s : List UInt8) (b : Bool) (m : Mg) (ns : List (List UInt8)) (qs : List (Int × Int × Int)) (w : World) (f : Int) (h9 : (f == 9) = false) (h12 : (f == 12) = false) (h13 : (f == 13) = false) (h20 : (f == 20) = false) (h21 : (f == 21) = false) (hm : MgIn w m ns qs) (hs : s.length ≤ 9000000000) : Calls Tryz.prog 186 #[.agg (inc s b), .agg m.cs.toArray, .int .i64 f] w (RdSay s.length f m w) := by
  have HS0 := lh (RdSt.start w s b m)
  have HOKM := lh hm.ok
  have HM := lh hm
  go_enter Tryz.func186, Tryz.ntmps186
  go_upto_region 1 with fail
  generalize hw1 : World.alloc _ _ = w1
  have HS1 := lh (show RdSt w w1 w.heap.size (w.heap.size + 1) (w.heap.size + 1 + 1) (w.heap.size + 1 + 1 + 1) s b m from by rw [← hw1]; exact HS0.out)
  clear hw1 HS0 hm
  generalize w.heap.size + 1 + 1 + 1 = q at HS1 ⊢
  generalize w.heap.size + 1 + 1 = r at HS1 ⊢
  generalize w.heap.size + 1 = p at HS1 ⊢
  generalize w.heap.size = g at HS1 ⊢
  go_upto_region 33 with fail
  skip; try (rename (∀ (a : Act) (w : World), Code.wp _ _ _ a w → _) => ax1; have AX1 := lh ax1; clear ax1)
  have HOK := HOKM
  have HFIN := lh (finOk_old (W := w1) (r := r) (q := q) HM.out)
  have HLE := lh (Nat.le_refl s.length)
  have HS := HS1
  clear HS1 HM HOKM
  have HY := lh HS.out.1
  have hyr : r ≠ g := by have := HS.out.2.2.2.2.1; omega
  have hyq : q ≠ g := by have := HS.out.2.2.2.2.1; omega
  have hS0 := sx_start HS.out HY.out
  refine wp_region_held_drew (S := (Sx g p s b m)) (by kernel_rfl) hS0 (fun hHeld => ?_)
  refine tk2 (v := .agg (inc s b)) 0 157 ?_
  refine tkY (v := .agg m.cs.toArray) 1 158 rfl (yM (by rfl) _ rfl (by rfl)) ?_
  refine rd_fin 2 3 HS.out HY.out hyr hyq HOK.out b (fun wb Y3 Y4 YB YG => ?_)
  clear hHeld hS0
  try have ax1 := AX1.out
  go_wp2_with fail
  exact rd_ret Tryz.results186 rfl rfl rfl Y3 Y4 ⟨HLE.out, HFIN.out _ YB YG, (Or.inl rfl), (Or.inl rfl)⟩ YB
theorem rlist_20 (s : List UInt8) (b : Bool) (m : Mg) (ns : List (List UInt8)) (qs : List (Int × Int × Int)) (w : World) (hm : MgIn w m ns qs) (hs : s.length ≤ 9000000000) : Calls Tryz.prog 186 #[.agg (inc s b), .agg m.cs.toArray, .int .i64 20] w (RdSay s.length 20 m w) := by
  have HN := lh (fun W => show Calls Tryz.prog 120 #[.agg (inc s b), .int .i64 4] W (InI s.length 4 W) from r9num_any s b 4 (by omega) (by omega) W hs)
  have HR := lh (fun s1 b1 (k : Nat) W (h : s1.length ≤ 9000000000) => r9raw_any s1 b1 k W h)
  have HS0 := lh (RdSt.start w s b m)
  have HOKM := lh hm.ok
  have HM := lh hm
  go_enter Tryz.func186, Tryz.ntmps186
  go_upto_region 1 with fail
  generalize hw1 : World.alloc _ _ = w1
  have HS1 := lh (show RdSt w w1 w.heap.size (w.heap.size + 1) (w.heap.size + 1 + 1) (w.heap.size + 1 + 1 + 1) s b m from by rw [← hw1]; exact HS0.out)
  clear hw1 HS0 hm
  generalize w.heap.size + 1 + 1 + 1 = q at HS1 ⊢
  generalize w.heap.size + 1 + 1 = r at HS1 ⊢
  generalize w.heap.size + 1 = p at HS1 ⊢
  generalize w.heap.size = g at HS1 ⊢
  obtain ⟨⟨c0, c1⟩, _, _⟩ := HS1.out.cells
  go_wp2_with fail
  (with_reducible refine (HN.out _).mono ?_); rintro e w2 ⟨s1, b1, k1, rfl, ⟨l1, hk0, hk⟩, b2⟩
  obtain ⟨k, rfl⟩ := Int.eq_ofNat_of_zero_le hk0
  clear c0 c1 HN hk0
  have HS2 := lh (HS1.out.next b2)
  obtain ⟨⟨c0, c1⟩, f0, f1⟩ := HS2.out.cells
  have HS3 := lh (HS2.out.setX (s' := s1) (b' := b1))
  clear b2 HS1 HS2
  go_upto_region 26 with fail
  generalize ((w2.setCell ⟨g, 0, none⟩ (.string (T s1))).setCell ⟨g, 1, none⟩ (.bool b1)) = w3 at *
  clear c0 c1 f0 f1
  have hs1 : s1.length ≤ 9000000000 := by omega
  obtain ⟨⟨c0, c1⟩, _, _⟩ := HS3.out.cells
  go_wp2_with fail
  (with_reducible refine (HR.out _ _ _ _ hs1).mono ?_); rintro e w4 ⟨s2, b2, t1, rfl, ⟨l2, l3⟩, bb⟩
  clear c0 c1 HR
  have HS4 := lh (HS3.out.next bb)
  obtain ⟨⟨c0, c1⟩, f0, f1⟩ := HS4.out.cells
  obtain ⟨d0, e0⟩ := (show ∀ W : World, W.heap[p]? = some (mgobj m) → (W.cell? ⟨p, 21, none⟩ = some (.string (T m.data)) ∧ W.frozen? ⟨p, 21, none⟩ = false) from fun W h => ⟨by rw [Lib.cell_of_heap h]; rfl, Lib.frozen_of_heap h _⟩) _ HS4.out.2.1
  have HS9 := lh ((HS4.out.setX (s' := s2) (b' := b2)).setM (m' := { m with data := t1 }) 21 (.string (T t1)) rfl)
  clear bb HS3 HS4
  go_upto_region 33 with fail
  skip; try (rename (∀ (a : Act) (w : World), Code.wp _ _ _ a w → _) => ax1; have AX1 := lh ax1; clear ax1)
  generalize (((w4.setCell ⟨g, 0, none⟩ (.string (T s2))).setCell ⟨g, 1, none⟩ (.bool b2)).setCell ⟨p, 21, none⟩ (.string (T t1))) = w9 at *
  clear c0 c1 f0 f1 d0 e0
  have HOK := lh (show ({ m with data := t1 } : Mg).ok from HOKM.out)
  have HFIN := lh (finOk_old (W := w9) (r := r) (q := q) (show MgIn w { m with data := t1 } ns qs from HM.out))
  have HLE := lh (show s2.length ≤ s.length from by omega)
  have HN12 := lh (show ({ m with data := t1 } : Mg).names = m.names ∨ ((20 : Int) = 12 ∧ NewF w.heap.size ({ m with data := t1 } : Mg).names) from Or.inl rfl)
  have HN13 := lh (show ({ m with data := t1 } : Mg).qids = m.qids ∨ ((20 : Int) = 13 ∧ NewF w.heap.size ({ m with data := t1 } : Mg).qids) from Or.inl rfl)
  clear HM HOKM
  generalize ({ m with data := t1 } : Mg) = mx at *
  have HS := HS9
  clear HS9
  have HY := lh HS.out.1
  have hyr : r ≠ g := by have := HS.out.2.2.2.2.1; omega
  have hyq : q ≠ g := by have := HS.out.2.2.2.2.1; omega
  have hS0 := sx_start HS.out HY.out
  refine wp_region_held_drew (S := (Sx g p s2 b2 mx)) (by kernel_rfl) hS0 (fun hHeld => ?_)
  refine tk2 (v := .agg (inc s2 b2)) 0 157 ?_
  refine tkY (v := .agg mx.cs.toArray) 1 158 rfl (yM (by rfl) _ rfl (by rfl)) ?_
  refine rd_fin 2 3 HS.out HY.out hyr hyq HOK.out b2 (fun wb Y3 Y4 YB YG => ?_)
  clear hHeld hS0
  try have ax1 := AX1.out
  go_wp2_with fail
  exact rd_ret Tryz.results186 rfl rfl rfl Y3 Y4 ⟨HLE.out, HFIN.out _ YB YG, HN12.out, HN13.out⟩ YB
theorem rlist_9 (s : List UInt8) (b : Bool) (m : Mg) (ns : List (List UInt8)) (qs : List (Int × Int × Int)) (w : World) (hm : MgIn w m ns qs) (hs : s.length ≤ 9000000000) : Calls Tryz.prog 186 #[.agg (inc s b), .agg m.cs.toArray, .int .i64 9] w (RdSay s.length 9 m w) := by
  have HN := lh (fun W => show Calls Tryz.prog 184 #[.agg (inc s b)] W (InS s.length W) from r9counted_any s b W hs)
  have HF := lh (fun t W => rfind_any t W)
  have HBI := lh (show ∀ (s : List UInt8) (b : Bool), Tryz.prog.built 172 [(0, .string (T s)), (1, .bool b)] = some (inc s b) from fun s b => by kernel_rfl)
  have HS0 := lh (RdSt.start w s b m)
  have HOKM := lh hm.ok
  have HM := lh hm
  go_enter Tryz.func186, Tryz.ntmps186
  go_upto_region 1 with fail
  generalize hw1 : World.alloc _ _ = w1
  have HS1 := lh (show RdSt w w1 w.heap.size (w.heap.size + 1) (w.heap.size + 1 + 1) (w.heap.size + 1 + 1 + 1) s b m from by rw [← hw1]; exact HS0.out)
  clear hw1 HS0 hm
  generalize w.heap.size + 1 + 1 + 1 = q at HS1 ⊢
  generalize w.heap.size + 1 + 1 = r at HS1 ⊢
  generalize w.heap.size + 1 = p at HS1 ⊢
  generalize w.heap.size = g at HS1 ⊢
  obtain ⟨⟨c0, c1⟩, _, _⟩ := HS1.out.cells
  go_wp2_with fail
  (with_reducible refine (HN.out _).mono ?_); rintro e w2 ⟨s1, b1, t1, rfl, ⟨l1, l2⟩, b2⟩
  clear c0 c1 HN
  have HS2 := lh (HS1.out.next b2)
  clear b2 HS1
  go_upto_region 5 with fail
  have ba := alloc_below w2 (.cells (inc s1 b1) 172)
  have HY3 := lh (heap_alloc_new w2 (.cells (inc s1 b1) 172))
  have HS3 := lh (HS2.out.next ba)
  have hy0 : q < w2.heap.size := row_ltP HS2.out.2.2.2.1
  clear ba HS2
  generalize World.alloc w2 _ = w3 at *
  generalize w2.heap.size = y at *
  go_wp2_with fail
  (with_reducible refine (HF.out _ _).mono ?_); rintro e w4 ⟨ke, kb, rfl, b4⟩
  have HS4 := lh (HS3.out.next b4)
  have HY4 := lh ((b4.block _ (row_ltP HY3.out)).trans HY3.out)
  clear b4 HS3 HY3 HF
  obtain ⟨d0, e0⟩ := (show ∀ W : World, W.heap[p]? = some (mgobj m) → (W.cell? ⟨p, 35, none⟩ = some (.int .i64 m.err) ∧ W.frozen? ⟨p, 35, none⟩ = false) from fun W h => ⟨by rw [Lib.cell_of_heap h]; rfl, Lib.frozen_of_heap h _⟩) _ HS4.out.2.1
  have hyp : p ≠ y := by have := HS4.out.2.2.2.2.1; omega
  have HS9 := lh (HS4.out.setM (m' := { m with err := ke }) 35 (.int .i64 ke) rfl)
  have HY9 := lh (far_setCell (i := 35) HY4.out hyp (.int .i64 ke))
  clear HS4 HY4
  go_upto_region 7 with fail
  skip; try (rename (∀ (a : Act) (w : World), Code.wp _ _ _ a w → _) => ax1; have AX1 := lh ax1; clear ax1)
  generalize (w4.setCell ⟨p, 35, none⟩ (.int .i64 ke)) = w9 at *
  clear d0 e0
  have HOK := lh (show ({ m with err := ke } : Mg).ok from HOKM.out)
  have HFIN := lh (finOk_old (W := w9) (r := r) (q := q) (show MgIn w { m with err := ke } ns qs from HM.out))
  have HLE := lh (show s1.length ≤ s.length from l1)
  have HN12 := lh (show ({ m with err := ke } : Mg).names = m.names ∨ ((9 : Int) = 12 ∧ NewF w.heap.size ({ m with err := ke } : Mg).names) from Or.inl rfl)
  have HN13 := lh (show ({ m with err := ke } : Mg).qids = m.qids ∨ ((9 : Int) = 13 ∧ NewF w.heap.size ({ m with err := ke } : Mg).qids) from Or.inl rfl)
  clear HM HOKM
  generalize ({ m with err := ke } : Mg) = mx at *
  have HS := HS9
  clear HS9
  have HY := HY9
  clear HY9
  have hyr : r ≠ y := by have := HS.out.2.2.2.2.1; omega
  have hyq : q ≠ y := by omega
  cases b1
  · cases kb
    · have hS0 := sx_start HS.out HY.out
      refine wp_region_held_drew (S := (Sx y p s1 false mx)) (by kernel_rfl) hS0 (fun hHeld => ?_)
      refine tk2 0 39 ?_
      refine tk2 1 40 ?_
      refine tk2 2 41 ?_
      refine tk2 3 42 ?_
      refine tk2 4 43 ?_
      refine tk2 5 44 ?_
      refine tk2 6 45 ?_
      refine tk2 7 46 ?_
      refine tkY (v := .agg (inc s1 true)) 8 47 rfl (yieldsIf_build (by rfl) 172 _ rfl (inc s1 true) (by simp only [List.map_toArray, List.map_cons, List.map_nil]; exact HBI.out _ _)) ?_
      refine tkY (v := .agg mx.cs.toArray) 9 48 rfl (yM (by rfl) _ rfl (by rfl)) ?_
      refine rd_fin 10 11 HS.out HY.out hyr hyq HOK.out true (fun wb Y3 Y4 YB YG => ?_)
      clear hHeld hS0
      try have ax1 := AX1.out
      go_wp2_with fail
      exact rd_ret Tryz.results186 rfl rfl rfl Y3 Y4 ⟨HLE.out, HFIN.out _ YB YG, HN12.out, HN13.out⟩ YB
    · have hS0 := sx_start HS.out HY.out
      refine wp_region_held_drew (S := (Sx y p s1 false mx)) (by kernel_rfl) hS0 (fun hHeld => ?_)
      refine tk2 0 39 ?_
      refine tk2 1 40 ?_
      refine tk2 2 41 ?_
      refine tk2 3 42 ?_
      refine tk2 4 43 ?_
      refine tk2 5 44 ?_
      refine tk2 6 45 ?_
      refine tk2 7 46 ?_
      refine tkY (v := .agg (inc s1 false)) 8 47 rfl (yieldsIf_build (by rfl) 172 _ rfl (inc s1 false) (by simp only [List.map_toArray, List.map_cons, List.map_nil]; exact HBI.out _ _)) ?_
      refine tkY (v := .agg mx.cs.toArray) 9 48 rfl (yM (by rfl) _ rfl (by rfl)) ?_
      refine rd_fin 10 11 HS.out HY.out hyr hyq HOK.out false (fun wb Y3 Y4 YB YG => ?_)
      clear hHeld hS0
      try have ax1 := AX1.out
      go_wp2_with fail
      exact rd_ret Tryz.results186 rfl rfl rfl Y3 Y4 ⟨HLE.out, HFIN.out _ YB YG, HN12.out, HN13.out⟩ YB
  · have hS0 := sx_start HS.out HY.out
    refine wp_region_held_drew (S := (Sx y p s1 true mx)) (by kernel_rfl) hS0 (fun hHeld => ?_)
    refine tk2 0 39 ?_
    refine tk2 1 40 ?_
    refine tk2 2 41 ?_
    refine tk2 3 42 ?_
    refine tk2 4 43 ?_
    refine tkU 5 44 ?_
    refine tkU 6 45 ?_
    refine tk2 7 46 ?_
    refine tkY (v := .agg (inc s1 true)) 8 47 rfl (yieldsIf_build (by rfl) 172 _ rfl (inc s1 true) (by simp only [List.map_toArray, List.map_cons, List.map_nil]; exact HBI.out _ _)) ?_
    refine tkY (v := .agg mx.cs.toArray) 9 48 rfl (yM (by rfl) _ rfl (by rfl)) ?_
    refine rd_fin 10 11 HS.out HY.out hyr hyq HOK.out true (fun wb Y3 Y4 YB YG => ?_)
    clear hHeld hS0
    try have ax1 := AX1.out
    go_wp2_with fail
    exact rd_ret Tryz.results186 rfl rfl rfl Y3 Y4 ⟨HLE.out, HFIN.out _ YB YG, HN12.out, HN13.out⟩ YB
theorem rlist_12 (s : List UInt8) (b : Bool) (m : Mg) (ns : List (List UInt8)) (qs : List (Int × Int × Int)) (w : World) (hnil : m.names = .slice none 0 0) (hm : MgIn w m ns qs) (hs : s.length ≤ 9000000000) : Calls Tryz.prog 186 #[.agg (inc s b), .agg m.cs.toArray, .int .i64 12] w (RdSay s.length 12 m w) := by
  obtain ⟨i0, hi, hz0, hz1, hz2⟩ := info_parts (P := Tryz.prog) (e := 9) (z := .string ByteArray.empty) (size := 1) (bytes := 16) (by kernel_rfl)
  have HN := lh (fun W => show Calls Tryz.prog 120 #[.agg (inc s b), .int .i64 2] W (InI s.length 2 W) from r9num_any s b 2 (by omega) (by omega) W hs)
  have HC := lh (fun s1 b1 W (h : s1.length ≤ 9000000000) => show Calls Tryz.prog 184 #[.agg (inc s1 b1)] W (InS s1.length W) from r9counted_any s1 b1 W h)
  have hmm : { m with names := .slice none 0 0 } = m := by cases m; simp only at hnil; subst hnil; rfl
  have HMM := lh hmm
  clear hmm hnil
  have HS0 := lh (RdSt.start w s b m)
  have HOKM := lh hm.ok
  have HM := lh hm
  go_enter Tryz.func186, Tryz.ntmps186
  go_upto_region 1 with fail
  generalize hw1 : World.alloc _ _ = w1
  have HS1 := lh (show RdSt w w1 w.heap.size (w.heap.size + 1) (w.heap.size + 1 + 1) (w.heap.size + 1 + 1 + 1) s b m from by rw [← hw1]; exact HS0.out)
  clear hw1 HS0 hm
  generalize w.heap.size + 1 + 1 + 1 = q at HS1 ⊢
  generalize w.heap.size + 1 + 1 = r at HS1 ⊢
  generalize w.heap.size + 1 = p at HS1 ⊢
  generalize w.heap.size = g at HS1 ⊢
  obtain ⟨⟨c0, c1⟩, _, _⟩ := HS1.out.cells
  go_wp2_with fail
  (with_reducible refine (HN.out _).mono ?_); rintro e w2 ⟨s1, b1, k1, rfl, ⟨l1, hk0, hk⟩, b2⟩
  obtain ⟨k, rfl⟩ := Int.eq_ofNat_of_zero_le hk0
  clear c0 c1 HN hk0
  have HS2 := lh (HS1.out.next b2)
  obtain ⟨⟨c0, c1⟩, f0, f1⟩ := HS2.out.cells
  have HS3 := lh (HS2.out.setX (s' := s1) (b' := b1))
  clear b2 HS1 HS2
  go_upto_region 10 with fail
  generalize ((w2.setCell ⟨g, 0, none⟩ (.string (T s1))).setCell ⟨g, 1, none⟩ (.bool b1)) = w3 at *
  clear c0 c1 f0 f1
  have hk := hk (by omega)
  have hk : k ≤ 65535 := by omega
  have HOKV := lh (fun (v : Value) (h : ∃ a n c, v = .slice a n c) => show ({ m with names := v } : Mg).ok from ⟨h, HOKM.out.2⟩)
  go_wp2_with fail
  go_loopg [13] k (fun kk i W => ∃ j : Nat, j ≤ k ∧ i = .int .i64 (j : Int) ∧ (∃ s2 b2 v, ∃ l : List (List UInt8), RdSt w W g p r q s2 b2 { m with names := v } ∧ W.ownsRow w.heap.size 9 1 v l.length (txv l) ∧ (s2.length ≤ s.length ∧ l.length ≤ j ∧ ∀ t ∈ l, t.length ≤ s.length)) ∧ kk = k - j)
  case atStart => exact ⟨0, by omega, rfl, ⟨s1, b1, .slice none 0 0, [], by rw [HMM.out]; exact HS3.out, ⟨by simp [txv], Or.inl ⟨rfl, rfl⟩⟩, by omega, by simp, by simp⟩, rfl⟩
  case round =>
    obtain ⟨j, hj, rfl, ⟨s2, b2, v, l, hst, hown, hl1, hl2, hl3⟩, hkk⟩ := hrel
    have HS4 := lh hst
    have HO4 := lh hown
    have HKK := lh hkk
    have HL3 := lh hl3
    clear hst hown hkk HS3 HMM hl3
    obtain ⟨⟨c0, c1⟩, f0, f1⟩ := HS4.out.cells
    obtain ⟨av, cv, rfl, _⟩ := own_form HO4.out
    by_cases hlt : j < k
    · have hlt2 : (j : Int) < k := by omega
      cases b2
      · have hs2 : s2.length ≤ 9000000000 := by omega
        go_wp2_with fail
        (with_reducible refine (HC.out _ _ _ hs2).mono ?_); rintro e w4 ⟨s3, b3, t3, rfl, ⟨l3, l4⟩, bb⟩
        have HS5 := lh (HS4.out.next bb)
        have HO5 := lh (own_next HO4.out bb)
        clear c0 c1 f0 f1 bb HS4 HO4 HC
        go_upto_region 14 with fail
        have ba := alloc_below w4 (.cells (inc s3 b3) 172)
        have HY5 := lh (heap_alloc_new w4 (.cells (inc s3 b3) 172))
        have HS6 := lh (HS5.out.next ba)
        have HO6 := lh (own_next HO5.out ba)
        clear ba HS5 HO5
        generalize World.alloc w4 _ = w5 at *
        generalize w4.heap.size = y at *
        obtain ⟨d0, d1⟩ := in_cells HY5.out
        obtain ⟨⟨c0, c1⟩, f0, f1⟩ := HS6.out.cells
        go_upto_region 15 with fail
        have hgA := grown_setG (grown_setG (below_grownBy (Below.refl _ w5) (some g)) 0 (.string (T s3))) 1 (.bool b3)
        have HO7 := lh (HO6.out.kept hgA (Or.inr (own_neP HO6.out HS6.out.1 (by decide))))
        have HS7 := lh (HS6.out.setX (s' := s3) (b' := b3))
        clear hgA HO6 HS6 HY5 c0 c1 f0 f1 d0 d1
        generalize ((w5.setCell ⟨g, 0, none⟩ (.string (T s3))).setCell ⟨g, 1, none⟩ (.bool b3)) = w6 at *
        have HGET := lh (show ∀ W : World, W.heap[p]? = some (mgobj { m with names := .slice av l.length cv }) → (W.cell? ⟨p, 10, none⟩ = some (.slice av l.length cv) ∧ W.frozen? ⟨p, 10, none⟩ = false) from fun W h => ⟨by rw [Lib.cell_of_heap h]; rfl, Lib.frozen_of_heap h _⟩)
        obtain ⟨e0, e1⟩ := HGET.out _ HS7.out.2.1
        have ba := alloc_below w6 (.cells #[.string (T t3)] 9)
        have HS8 := lh (HS7.out.next ba)
        have HO8 := lh (HO7.out.alloc (.cells #[.string (T t3)] 9))
        have HN8 := lh (heap_alloc_new w6 (.cells #[.string (T t3)] 9))
        have hw8 : w.heap.size ≤ (w6.alloc (.cells #[.string (T t3)] 9)).heap.size := by have h1 := ba.size; have h2 := HS7.out.2.2.2.2.2.size; omega
        clear ba HS7 HO7
        have HLB := lh (show l.length + 1 ≤ 100000 from by omega)
        go_wp2_with (at_builtin; refine wpList_append_any _ rfl _ _ 32 rfl w.heap.size 9 i0 (.string ByteArray.empty) 1 16 Tryz.underlying32 hi hz0 hz1 hz2 rfl (by decide) (.slice av l.length cv) l.length (txv l) rfl ?c0 (some ⟨w6.heap.size, 0, none⟩) 1 1 [.string (T t3)] rfl ?c1 rfl ?c2 ?c3 ?c4 ?c5 ?c6 ?_)
        case c0 => exact HO8.out
        case c1 => intro h; cases h
        case c2 =>
          intro ad had
          cases had
          exact World.news_of_block (t := 9) (fr := (0, 0)) (heap_alloc_new w6 _)
        case c3 =>
          intro u hu
          simp only [List.mem_cons, List.not_mem_nil, or_false] at hu
          rcases hu with rfl <;> rfl
        case c4 => have := HLB.out; unfold maxLen; omega
        case c5 => have := HLB.out; omega
        case c6 => exact hw8
        intro v7 w7 hown7 hgrow7 _
        have HS9 := lh (HS8.out.own HO8.out (by decide) (by decide) hgrow7)
        have hen : txv l ++ [.string (T t3)] = txv (l ++ [t3]) := by simp [txv]
        have hln : l.length + 1 = (l ++ [t3]).length := by simp
        rw [hen, hln] at hown7
        have HO9 := lh hown7
        have HLN := lh hln
        clear hen hln hown7 hgrow7 HS8 HO8 HN8 hw8 e0 e1
        obtain ⟨a7, n7, rfl, _⟩ := own_form HO9.out
        obtain ⟨e0, e1⟩ := HGET.out _ HS9.out.2.1
        have HSA := lh (HS9.out.setM (m' := { m with names := .slice a7 (l ++ [t3]).length n7 }) 10 (.slice a7 (l ++ [t3]).length n7) rfl)
        have hgB := grown_setG (below_grownBy (Below.refl _ w7) (some p)) 10 (.slice a7 (l ++ [t3]).length n7)
        have HOA := lh (HO9.out.kept hgB (Or.inr (own_neP HO9.out HS9.out.2.1 (by decide))))
        have HLL := lh (show s3.length ≤ s.length ∧ (l ++ [t3]).length ≤ j + 1 ∧ ∀ t ∈ l ++ [t3], t.length ≤ s.length from ⟨by omega, by have := HLN.out; omega, fun t ht => by rcases List.mem_append.1 ht with h | h; exact HL3.out t h; (simp only [List.mem_singleton] at h; subst h; omega)⟩)
        clear hgB HS9 HO9 HLN HGET HL3
        generalize hll : (l ++ [t3]) = l9 at *
        clear hll
        go_wp2_with fail
        have hkk := HKK.out
        go_roundg (k - (j + 1))
        case measure => omega
        case rel => exact ⟨j + 1, by omega, by go_num, ⟨s3, b3, _, l9, HSA.out, HOA.out, HLL.out⟩, rfl⟩
      · go_upto_region 33 with fail
        skip; try (rename (∀ (a : Act) (w : World), Code.wp _ _ _ a w → _) => ax1; have AX1 := lh ax1; clear ax1)
        clear c0 c1 f0 f1
        have HOK := lh (HOKV.out _ ⟨av, l.length, cv, rfl⟩)
        have HFIN := lh (finOk_names HM.out _ l HO4.out (by omega) (fun t ht => by have := HL3.out t ht; omega) HS4.out.2.2.1 HS4.out.2.2.2.1)
        have HLE := lh hl1
        have HN12 := lh (show ({ m with names := .slice av l.length cv } : Mg).names = m.names ∨ NewF w.heap.size ({ m with names := .slice av l.length cv } : Mg).names from Or.inr (txs_own HO4.out).2)
        have HN13 := lh (show ({ m with names := .slice av l.length cv } : Mg).qids = m.qids from rfl)
        clear HM HOKM HOKV HO4 HKK HL3
        generalize ({ m with names := .slice av l.length cv } : Mg) = mx at *
        have HS := HS4
        clear HS4
        have HY := lh HS.out.1
        have hyr : r ≠ g := by have := HS.out.2.2.2.2.1; omega
        have hyq : q ≠ g := by have := HS.out.2.2.2.2.1; omega
        have hS0 := sx_start HS.out HY.out
        refine wp_region_held_drew (S := (Sx g p s2 true mx)) (by kernel_rfl) hS0 (fun hHeld => ?_)
        refine tk2 (v := .agg (inc s2 true)) 0 157 ?_
        refine tkY (v := .agg mx.cs.toArray) 1 158 rfl (yM (by rfl) _ rfl (by rfl)) ?_
        refine rd_fin 2 3 HS.out HY.out hyr hyq HOK.out true (fun wb Y3 Y4 YB YG => ?_)
        clear hHeld hS0
        try have ax1 := AX1.out
        go_wp2_with fail
        exact rd_ret Tryz.results186 rfl rfl rfl Y3 Y4 ⟨HLE.out, HFIN.out _ YB YG, (HN12.out.imp id (fun h => ⟨rfl, h⟩)), (Or.inl HN13.out)⟩ YB
    · have hlt2 : decide ((j : Int) < k) = false := decide_eq_false (by omega)
      go_upto_region 33 with fail
      skip; try (rename (∀ (a : Act) (w : World), Code.wp _ _ _ a w → _) => ax1; have AX1 := lh ax1; clear ax1)
      clear c0 c1 f0 f1
      have HOK := lh (HOKV.out _ ⟨av, l.length, cv, rfl⟩)
      have HFIN := lh (finOk_names HM.out _ l HO4.out (by omega) (fun t ht => by have := HL3.out t ht; omega) HS4.out.2.2.1 HS4.out.2.2.2.1)
      have HLE := lh hl1
      have HN12 := lh (show ({ m with names := .slice av l.length cv } : Mg).names = m.names ∨ NewF w.heap.size ({ m with names := .slice av l.length cv } : Mg).names from Or.inr (txs_own HO4.out).2)
      have HN13 := lh (show ({ m with names := .slice av l.length cv } : Mg).qids = m.qids from rfl)
      clear HM HOKM HOKV HO4 HKK HL3
      generalize ({ m with names := .slice av l.length cv } : Mg) = mx at *
      have HS := HS4
      clear HS4
      have HY := lh HS.out.1
      have hyr : r ≠ g := by have := HS.out.2.2.2.2.1; omega
      have hyq : q ≠ g := by have := HS.out.2.2.2.2.1; omega
      have hS0 := sx_start HS.out HY.out
      refine wp_region_held_drew (S := (Sx g p s2 b2 mx)) (by kernel_rfl) hS0 (fun hHeld => ?_)
      refine tk2 (v := .agg (inc s2 b2)) 0 157 ?_
      refine tkY (v := .agg mx.cs.toArray) 1 158 rfl (yM (by rfl) _ rfl (by rfl)) ?_
      refine rd_fin 2 3 HS.out HY.out hyr hyq HOK.out b2 (fun wb Y3 Y4 YB YG => ?_)
      clear hHeld hS0
      try have ax1 := AX1.out
      go_wp2_with fail
      exact rd_ret Tryz.results186 rfl rfl rfl Y3 Y4 ⟨HLE.out, HFIN.out _ YB YG, (HN12.out.imp id (fun h => ⟨rfl, h⟩)), (Or.inl HN13.out)⟩ YB
theorem cells3 {W : World} {g : Nat} {a b c : Value} {t : TypeId} (h : W.heap[g]? = some (.cells #[a, b, c] t)) : (W.cell? ⟨g, 0, none⟩ = some a ∧ W.cell? ⟨g, 1, none⟩ = some b ∧ W.cell? ⟨g, 2, none⟩ = some c) ∧ True := ⟨⟨by rw [Lib.cell_of_heap h]; rfl, by rw [Lib.cell_of_heap h]; rfl, by rw [Lib.cell_of_heap h]; rfl⟩, trivial⟩
theorem rlist_13 (s : List UInt8) (b : Bool) (m : Mg) (ns : List (List UInt8)) (qs : List (Int × Int × Int)) (w : World) (hnil : m.qids = .slice none 0 0) (hm : MgIn w m ns qs) (hs : s.length ≤ 9000000000) : Calls Tryz.prog 186 #[.agg (inc s b), .agg m.cs.toArray, .int .i64 13] w (RdSay s.length 13 m w) := by
  obtain ⟨i0, hi, hz0, hz1, hz2⟩ := info_parts (P := Tryz.prog) (e := 44) (z := .agg #[.int .i64 0, .int .i64 0, .int .i64 0]) (size := 3) (bytes := 24) (by kernel_rfl)
  have HN := lh (fun W => show Calls Tryz.prog 120 #[.agg (inc s b), .int .i64 2] W (InI s.length 2 W) from r9num_any s b 2 (by omega) (by omega) W hs)
  have HC := lh (fun s1 b1 W (h : s1.length ≤ 9000000000) => show Calls Tryz.prog 185 #[.agg (inc s1 b1)] W (InQ s1.length W) from r9qid_any s1 b1 W h)
  have hmm : { m with qids := .slice none 0 0 } = m := by cases m; simp only at hnil; subst hnil; rfl
  have HMM := lh hmm
  clear hmm hnil
  have HS0 := lh (RdSt.start w s b m)
  have HOKM := lh hm.ok
  have HM := lh hm
  go_enter Tryz.func186, Tryz.ntmps186
  go_upto_region 1 with fail
  generalize hw1 : World.alloc _ _ = w1
  have HS1 := lh (show RdSt w w1 w.heap.size (w.heap.size + 1) (w.heap.size + 1 + 1) (w.heap.size + 1 + 1 + 1) s b m from by rw [← hw1]; exact HS0.out)
  clear hw1 HS0 hm
  generalize w.heap.size + 1 + 1 + 1 = q at HS1 ⊢
  generalize w.heap.size + 1 + 1 = r at HS1 ⊢
  generalize w.heap.size + 1 = p at HS1 ⊢
  generalize w.heap.size = g at HS1 ⊢
  obtain ⟨⟨c0, c1⟩, _, _⟩ := HS1.out.cells
  go_wp2_with fail
  (with_reducible refine (HN.out _).mono ?_); rintro e w2 ⟨s1, b1, k1, rfl, ⟨l1, hk0, hk⟩, b2⟩
  obtain ⟨k, rfl⟩ := Int.eq_ofNat_of_zero_le hk0
  clear c0 c1 HN hk0
  have HS2 := lh (HS1.out.next b2)
  obtain ⟨⟨c0, c1⟩, f0, f1⟩ := HS2.out.cells
  have HS3 := lh (HS2.out.setX (s' := s1) (b' := b1))
  clear b2 HS1 HS2
  go_upto_region 18 with fail
  generalize ((w2.setCell ⟨g, 0, none⟩ (.string (T s1))).setCell ⟨g, 1, none⟩ (.bool b1)) = w3 at *
  clear c0 c1 f0 f1
  have hk := hk (by omega)
  have hk : k ≤ 65535 := by omega
  have HOKV := lh (fun (v : Value) (h : ∃ a n c, v = .slice a n c) => show ({ m with qids := v } : Mg).ok from ⟨HOKM.out.1, h⟩)
  go_wp2_with fail
  go_loopg [16] k (fun kk i W => ∃ j : Nat, j ≤ k ∧ i = .int .i64 (j : Int) ∧ (∃ s2 b2 v, ∃ l : List (Int × Int × Int), RdSt w W g p r q s2 b2 { m with qids := v } ∧ W.ownsRow w.heap.size 44 3 v l.length (qdv l) ∧ (s2.length ≤ s.length ∧ l.length ≤ j)) ∧ kk = k - j)
  case atStart => exact ⟨0, by omega, rfl, ⟨s1, b1, .slice none 0 0, [], by rw [HMM.out]; exact HS3.out, ⟨by simp [qdv], Or.inl ⟨rfl, rfl⟩⟩, by omega, by simp⟩, rfl⟩
  case round =>
    obtain ⟨j, hj, rfl, ⟨s2, b2, v, l, hst, hown, hl1, hl2⟩, hkk⟩ := hrel
    have HS4 := lh hst
    have HO4 := lh hown
    have HKK := lh hkk
    clear hst hown hkk HS3 HMM
    obtain ⟨⟨c0, c1⟩, f0, f1⟩ := HS4.out.cells
    obtain ⟨av, cv, rfl, _⟩ := own_form HO4.out
    by_cases hlt : j < k
    · have hlt2 : (j : Int) < k := by omega
      cases b2
      · have hs2 : s2.length ≤ 9000000000 := by omega
        go_wp2_with fail
        (with_reducible refine (HC.out _ _ _ hs2).mono ?_); rintro e w4 ⟨s3, b3, x3, y3, z3, rfl, l3, bb⟩
        have HS5 := lh (HS4.out.next bb)
        have HO5 := lh (own_next HO4.out bb)
        clear c0 c1 f0 f1 bb HS4 HO4 HC
        go_upto_region 22 with fail
        have ba := alloc_below w4 (.cells (inc s3 b3) 172)
        have bb2 := alloc_below (w4.alloc (.cells (inc s3 b3) 172)) (.cells #[.int .i64 x3, .int .i64 y3, .int .i64 z3] 44)
        have hy5 := heap_alloc_new w4 (.cells (inc s3 b3) 172)
        have hy6 := heap_alloc_new (w4.alloc (.cells (inc s3 b3) 172)) (.cells #[.int .i64 x3, .int .i64 y3, .int .i64 z3] 44)
        rw [show (w4.alloc (.cells (inc s3 b3) 172)).heap.size = w4.heap.size + 1 from by simp] at hy6
        have HY5 := lh ((bb2.block _ (row_ltP hy5)).trans hy5)
        have HQ5 := lh hy6
        have HS6 := lh ((HS5.out.next ba).next bb2)
        have HO6 := lh (own_next (own_next HO5.out ba) bb2)
        clear ba bb2 hy5 hy6 HS5 HO5
        generalize hw5 : World.alloc (World.alloc w4 _) _ = w5
        have HY5 := lh (show w5.heap[w4.heap.size]? = some (.cells (inc s3 b3) 172) from by rw [← hw5]; exact HY5.out)
        have HQ5 := lh (show w5.heap[w4.heap.size + 1]? = some (.cells #[.int .i64 x3, .int .i64 y3, .int .i64 z3] 44) from by rw [← hw5]; exact HQ5.out)
        have HS6 := lh (show RdSt w w5 g p r q s2 false ({ m with qids := .slice av l.length cv } : Mg) from by rw [← hw5]; exact HS6.out)
        have HO6 := lh (show w5.ownsRow w.heap.size 44 3 (.slice av l.length cv) l.length (qdv l) from by rw [← hw5]; exact HO6.out)
        clear hw5
        generalize w4.heap.size + 1 = yq at *
        generalize w4.heap.size = y at *
        obtain ⟨d0, d1⟩ := in_cells HY5.out
        obtain ⟨⟨c0, c1⟩, f0, f1⟩ := HS6.out.cells
        obtain ⟨⟨q0, q1, q2⟩, _⟩ := cells3 HQ5.out
        go_upto_region 23 with fail
        have hgA := grown_setG (grown_setG (below_grownBy (Below.refl _ w5) (some g)) 0 (.string (T s3))) 1 (.bool b3)
        have HO7 := lh (HO6.out.kept hgA (Or.inr (own_neP HO6.out HS6.out.1 (by decide))))
        have HS7 := lh (HS6.out.setX (s' := s3) (b' := b3))
        have hgy : g ≠ yq := fun e => by have h1 := HS6.out.1; rw [e, HQ5.out] at h1; exact absurd (congrArg (fun o => match o with | some (Obj.cells _ t _) => t | _ => 0) h1) (by show ¬ (44 : TypeId) = 172; decide)
        have HQ7 := lh (far_setCell (i := 1) (far_setCell (i := 0) HQ5.out hgy (.string (T s3))) hgy (.bool b3))
        clear hgA HO6 HS6 HY5 c0 c1 f0 f1 d0 d1 HQ5 q0 q1 q2
        generalize ((w5.setCell ⟨g, 0, none⟩ (.string (T s3))).setCell ⟨g, 1, none⟩ (.bool b3)) = w6 at *
        obtain ⟨⟨q0, q1, q2⟩, _⟩ := cells3 HQ7.out
        have HGET := lh (show ∀ W : World, W.heap[p]? = some (mgobj { m with qids := .slice av l.length cv }) → (W.cell? ⟨p, 11, none⟩ = some (.slice av l.length cv) ∧ W.frozen? ⟨p, 11, none⟩ = false) from fun W h => ⟨by rw [Lib.cell_of_heap h]; rfl, Lib.frozen_of_heap h _⟩)
        obtain ⟨e0, e1⟩ := HGET.out _ HS7.out.2.1
        have ba := alloc_below w6 (.cells #[.int .i64 x3, .int .i64 y3, .int .i64 z3] 44)
        have HS8 := lh (HS7.out.next ba)
        have HO8 := lh (HO7.out.alloc (.cells #[.int .i64 x3, .int .i64 y3, .int .i64 z3] 44))
        have HN8 := lh (heap_alloc_new w6 (.cells #[.int .i64 x3, .int .i64 y3, .int .i64 z3] 44))
        have hw8 : w.heap.size ≤ (w6.alloc (.cells #[.int .i64 x3, .int .i64 y3, .int .i64 z3] 44)).heap.size := by have h1 := ba.size; have h2 := HS7.out.2.2.2.2.2.size; omega
        clear ba HS7 HO7
        have HLB := lh (show l.length + 1 ≤ 100000 from by omega)
        go_wp2_with (at_builtin; refine wpList_append_any _ rfl _ _ 42 rfl w.heap.size 44 i0 (.agg #[.int .i64 0, .int .i64 0, .int .i64 0]) 3 24 Tryz.underlying42 hi hz0 hz1 hz2 rfl (by decide) (.slice av l.length cv) l.length (qdv l) rfl ?c0 (some ⟨w6.heap.size, 0, none⟩) 1 1 [.int .i64 x3, .int .i64 y3, .int .i64 z3] rfl ?c1 rfl ?c2 ?c3 ?c4 ?c5 ?c6 ?_)
        case c0 => exact HO8.out
        case c1 => intro h; cases h
        case c2 =>
          intro ad had
          cases had
          exact World.news_of_block (t := 44) (fr := (0, 0)) (heap_alloc_new w6 _)
        case c3 =>
          intro u hu
          simp only [List.mem_cons, List.not_mem_nil, or_false] at hu
          rcases hu with rfl | rfl | rfl <;> rfl
        case c4 => have := HLB.out; unfold maxLen; omega
        case c5 => have := HLB.out; omega
        case c6 => exact hw8
        intro v7 w7 hown7 hgrow7 _
        have HS9 := lh (HS8.out.own HO8.out (by decide) (by decide) hgrow7)
        have hen : qdv l ++ [.int .i64 x3, .int .i64 y3, .int .i64 z3] = qdv (l ++ [(x3, y3, z3)]) := by simp [qdv]
        have hln : l.length + 1 = (l ++ [(x3, y3, z3)]).length := by simp
        rw [hen, hln] at hown7
        have HO9 := lh hown7
        have HLN := lh hln
        clear hen hln hown7 hgrow7 HS8 HO8 HN8 hw8 e0 e1
        obtain ⟨a7, n7, rfl, _⟩ := own_form HO9.out
        obtain ⟨e0, e1⟩ := HGET.out _ HS9.out.2.1
        have HSA := lh (HS9.out.setM (m' := { m with qids := .slice a7 (l ++ [(x3, y3, z3)]).length n7 }) 11 (.slice a7 (l ++ [(x3, y3, z3)]).length n7) rfl)
        have hgB := grown_setG (below_grownBy (Below.refl _ w7) (some p)) 11 (.slice a7 (l ++ [(x3, y3, z3)]).length n7)
        have HOA := lh (HO9.out.kept hgB (Or.inr (own_neP HO9.out HS9.out.2.1 (by decide))))
        have HLL := lh (show s3.length ≤ s.length ∧ (l ++ [(x3, y3, z3)]).length ≤ j + 1 from ⟨by omega, by have := HLN.out; omega⟩)
        clear hgB HS9 HO9 HLN HGET
        generalize hll : (l ++ [(x3, y3, z3)]) = l9 at *
        clear hll
        go_wp2_with fail
        have hkk := HKK.out
        go_roundg (k - (j + 1))
        case measure => omega
        case rel => exact ⟨j + 1, by omega, by go_num, ⟨s3, b3, _, l9, HSA.out, HOA.out, HLL.out⟩, rfl⟩
      · go_upto_region 33 with fail
        skip; try (rename (∀ (a : Act) (w : World), Code.wp _ _ _ a w → _) => ax1; have AX1 := lh ax1; clear ax1)
        clear c0 c1 f0 f1
        have HOK := lh (HOKV.out _ ⟨av, l.length, cv, rfl⟩)
        have HFIN := lh (finOk_qids HM.out _ l HO4.out (by omega) HS4.out.2.2.1 HS4.out.2.2.2.1)
        have HLE := lh hl1
        have HN12 := lh (show ({ m with qids := .slice av l.length cv } : Mg).names = m.names from rfl)
        have HN13 := lh (show ({ m with qids := .slice av l.length cv } : Mg).qids = m.qids ∨ NewF w.heap.size ({ m with qids := .slice av l.length cv } : Mg).qids from Or.inr (qds_own HO4.out).2)
        clear HM HOKM HOKV HO4 HKK
        generalize ({ m with qids := .slice av l.length cv } : Mg) = mx at *
        have HS := HS4
        clear HS4
        have HY := lh HS.out.1
        have hyr : r ≠ g := by have := HS.out.2.2.2.2.1; omega
        have hyq : q ≠ g := by have := HS.out.2.2.2.2.1; omega
        have hS0 := sx_start HS.out HY.out
        refine wp_region_held_drew (S := (Sx g p s2 true mx)) (by kernel_rfl) hS0 (fun hHeld => ?_)
        refine tk2 (v := .agg (inc s2 true)) 0 157 ?_
        refine tkY (v := .agg mx.cs.toArray) 1 158 rfl (yM (by rfl) _ rfl (by rfl)) ?_
        refine rd_fin 2 3 HS.out HY.out hyr hyq HOK.out true (fun wb Y3 Y4 YB YG => ?_)
        clear hHeld hS0
        try have ax1 := AX1.out
        go_wp2_with fail
        exact rd_ret Tryz.results186 rfl rfl rfl Y3 Y4 ⟨HLE.out, HFIN.out _ YB YG, (Or.inl HN12.out), (HN13.out.imp id (fun h => ⟨rfl, h⟩))⟩ YB
    · have hlt2 : decide ((j : Int) < k) = false := decide_eq_false (by omega)
      go_upto_region 33 with fail
      skip; try (rename (∀ (a : Act) (w : World), Code.wp _ _ _ a w → _) => ax1; have AX1 := lh ax1; clear ax1)
      clear c0 c1 f0 f1
      have HOK := lh (HOKV.out _ ⟨av, l.length, cv, rfl⟩)
      have HFIN := lh (finOk_qids HM.out _ l HO4.out (by omega) HS4.out.2.2.1 HS4.out.2.2.2.1)
      have HLE := lh hl1
      have HN12 := lh (show ({ m with qids := .slice av l.length cv } : Mg).names = m.names from rfl)
      have HN13 := lh (show ({ m with qids := .slice av l.length cv } : Mg).qids = m.qids ∨ NewF w.heap.size ({ m with qids := .slice av l.length cv } : Mg).qids from Or.inr (qds_own HO4.out).2)
      clear HM HOKM HOKV HO4 HKK
      generalize ({ m with qids := .slice av l.length cv } : Mg) = mx at *
      have HS := HS4
      clear HS4
      have HY := lh HS.out.1
      have hyr : r ≠ g := by have := HS.out.2.2.2.2.1; omega
      have hyq : q ≠ g := by have := HS.out.2.2.2.2.1; omega
      have hS0 := sx_start HS.out HY.out
      refine wp_region_held_drew (S := (Sx g p s2 b2 mx)) (by kernel_rfl) hS0 (fun hHeld => ?_)
      refine tk2 (v := .agg (inc s2 b2)) 0 157 ?_
      refine tkY (v := .agg mx.cs.toArray) 1 158 rfl (yM (by rfl) _ rfl (by rfl)) ?_
      refine rd_fin 2 3 HS.out HY.out hyr hyq HOK.out b2 (fun wb Y3 Y4 YB YG => ?_)
      clear hHeld hS0
      try have ax1 := AX1.out
      go_wp2_with fail
      exact rd_ret Tryz.results186 rfl rfl rfl Y3 Y4 ⟨HLE.out, HFIN.out _ YB YG, (Or.inl HN12.out), (HN13.out.imp id (fun h => ⟨rfl, h⟩))⟩ YB
end Go.Proofs.YtfibaopngpfmjaaGreatDoor
