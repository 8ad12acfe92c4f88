/- What the reference's Header and sound return: the header and the sound record at an offset. Conditions: a text of at most 10^6 bytes, an offset of at most 10^7. -/
import Derived.Test.YtpcieookddpkhaaDoorBlkRec
import Derived.BigRegion
set_option linter.unusedVariables false
set_option linter.unusedSimpArgs false
namespace Go.Proofs.YtpcieookddpkhaaDoor
open Go.RowKit
/-- What Header says at an offset. -/
def HdSays (l : List UInt8) (w : World) (e : Ending) (w' : World) : Prop :=
  e = .returned (.tuple #[.int .i64 (Blok.hK l), .int .i64 (Blok.hN l), .bool (Blok.hOK l)]) ∧ Below w.heap.size w w'
theorem hd_none {l : List UInt8} {w w' : World} (h : Blok.isHead l = false) (hb : Below w.heap.size w w') : HdSays l w (.returned (.tuple #[.int .i64 0, .int .i64 0, .bool false])) w' := by
  unfold HdSays Blok.hK Blok.hN Blok.hOK; rw [h]; exact ⟨rfl, hb⟩
set_option maxRecDepth 20000 in
set_option maxHeartbeats 2000000 in
theorem header_any (l : List UInt8) (f : Nat) (w : World) (hl : l.length ≤ 1000000) (hf : f ≤ 10000000) :
    Calls Tryd.prog 41 #[.string (T l), .int .i64 (f : Int)] w (HdSays (l.drop f) w) := by
  have HB := Lib.hid (Below.refl w.heap.size w)
  have hx := extract_list l f (f + 4)
  rw [show f + 4 - f = 4 from by omega] at hx
  have hlen : (l.drop f).length = l.length - f := List.length_drop
  have h0 : ¬ (f : Int) < 0 := by omega
  cases hh : Blok.isHead (l.drop f)
  · rcases Blok.isHead_no hh with h | ⟨h, h2⟩
    · have hi : (l.length : Int) - f < 39 := by omega
      clear hx
      go_enter Tryd.func41, Tryd.ntmps41
      go_wp2_with fail
      exact bodyPost_ret (v := .tuple #[.int .i64 0, .int .i64 0, .bool false]) (by simp [results, Tryd.results41, go_sem]) rfl (hd_none hh HB.out)
    · have hi : 39 ≤ (l.length : Int) - f := by omega
      have hi2 : (f : Int) + 4 ≤ l.length := by omega
      have hi3 : f + 4 ≤ l.length := by omega
      have hq := teq_no h2
      unfold Blok.magic at hq
      clear h2
      generalize (l.drop f).take 4 = X at *
      go_enter Tryd.func41, Tryd.ntmps41
      go_wp2_with fail
      exact bodyPost_ret (v := .tuple #[.int .i64 0, .int .i64 0, .bool false]) (by simp [results, Tryd.results41, go_sem]) rfl (hd_none hh HB.out)
  · obtain ⟨h, h2⟩ := Blok.isHead_yes hh
    have hi : 39 ≤ (l.length : Int) - f := by omega
    have hi2 : (f : Int) + 4 ≤ l.length := by omega
    have hi3 : f + 4 ≤ l.length := by omega
    rw [h2] at hx
    unfold Blok.magic at hx
    have c1 : ((f + 4 : Nat) : Int) = (f : Int) + 4 := by omega
    have c2 : ((f + 5 : Nat) : Int) = (f : Int) + 5 := by omega
    have e1 : Oct.getE l ((f : Int) + 4) 1 = 0 := by rw [← c1]; exact (Blok.get_ok l (f + 4) 1 (by omega) (by omega) (by omega)).1
    have e2 : Oct.getE l ((f : Int) + 5) 2 = 0 := by rw [← c2]; exact (Blok.get_ok l (f + 5) 2 (by omega) (by omega) (by omega)).1
    have n1 : Oct.getN l ((f : Int) + 4) 1 = Oct.getN (l.drop f) 4 1 := Blok.getN_drop l f 4 1 (by omega) (by omega) (by omega)
    have n2 : Oct.getN l ((f : Int) + 5) 2 = Oct.getN (l.drop f) 5 2 := Blok.getN_drop l f 5 2 (by omega) (by omega) (by omega)
    obtain ⟨_, _, g3, g4⟩ : Oct.getE (l.drop f) 4 1 = 0 ∧ Oct.getT (l.drop f) 4 1 = 5 ∧ 0 ≤ Oct.getN (l.drop f) 4 1 ∧ Oct.getN (l.drop f) 4 1 < 65536 := Blok.get_ok (l.drop f) 4 1 (by omega) (by omega) (by omega)
    obtain ⟨_, _, k3, k4⟩ : Oct.getE (l.drop f) 5 2 = 0 ∧ Oct.getT (l.drop f) 5 2 = 7 ∧ 0 ≤ Oct.getN (l.drop f) 5 2 ∧ Oct.getN (l.drop f) 5 2 < 65536 := Blok.get_ok (l.drop f) 5 2 (by omega) (by omega) (by omega)
    have HG1 := Lib.hid (rget_any (T l) ((f : Int) + 4) 1 w (by rw [T_size]; omega))
    have HG2 := Lib.hid (rget_any (T l) ((f : Int) + 5) 2 w (by rw [T_size]; omega))
    unfold GetSays at HG1 HG2
    rw [T_list, e1, n1] at HG1
    rw [T_list, e2, n2] at HG2
    generalize Oct.getT l ((f : Int) + 4) 1 = t1 at *
    generalize Oct.getT l ((f : Int) + 5) 2 = t2 at *
    have HR := Lib.hid (show Blok.hK (l.drop f) = Oct.getN (l.drop f) 4 1 ∧ Blok.hN (l.drop f) = Oct.getN (l.drop f) 5 2 ∧ Blok.hOK (l.drop f) = (Blok.known (Oct.getN (l.drop f) 4 1) && decide (Oct.getN (l.drop f) 5 2 ≤ 1024)) from by
      unfold Blok.hK Blok.hN Blok.hOK; rw [hh]; exact ⟨rfl, rfl, rfl⟩)
    have HK := Lib.hid (kind_any (Oct.getN (l.drop f) 4 1) w)
    have HL := Lib.hid (fun (w' : World) (hb : Below w.heap.size w w') (b : Bool) (hb2 : Blok.hOK (l.drop f) = b) => (show HdSays (l.drop f) w (.returned (.tuple #[.int .i64 (Oct.getN (l.drop f) 4 1), .int .i64 (Oct.getN (l.drop f) 5 2), .bool b])) w' from by
      unfold HdSays; rw [HR.out.1, HR.out.2.1, hb2]; exact ⟨rfl, hb⟩))
    have HO := HR.out.2.2
    generalize Oct.getN (l.drop f) 4 1 = K at *
    generalize Oct.getN (l.drop f) 5 2 = M at *
    clear HR h2 e1 e2 n1 n2 c1 c2
    cases hkn : Blok.known K
    · rw [hkn] at HK HO
      go_enter Tryd.func41, Tryd.ntmps41
      go_wp2_with fail
      refine HG1.out.mono ?_; rintro e w1 ⟨rfl, rfl⟩
      go_wp2_with fail
      refine HG2.out.mono ?_; rintro e w1 ⟨rfl, rfl⟩
      go_wp2_with fail
      refine HK.out.mono ?_; rintro e w1 ⟨rfl, rfl⟩
      go_wp2_with fail
      exact bodyPost_ret (v := .tuple #[.int .i64 K, .int .i64 M, .bool false]) (by simp [results, Tryd.results41, go_sem]) rfl (HL.out _ HB.out _ (by rw [HO]; rfl))
    · rw [hkn] at HK HO
      cases hm : decide (M ≤ 1024)
      · have hm2 : 1024 < M := by have := of_decide_eq_false hm; omega
        rw [hm] at HO
        clear hm
        go_enter Tryd.func41, Tryd.ntmps41
        go_wp2_with fail
        refine HG1.out.mono ?_; rintro e w1 ⟨rfl, rfl⟩
        go_wp2_with fail
        refine HG2.out.mono ?_; rintro e w1 ⟨rfl, rfl⟩
        go_wp2_with fail
        refine HK.out.mono ?_; rintro e w1 ⟨rfl, rfl⟩
        go_wp2_with fail
        exact bodyPost_ret (v := .tuple #[.int .i64 K, .int .i64 M, .bool false]) (by simp [results, Tryd.results41, go_sem, hm2]) rfl (HL.out _ HB.out _ (by rw [HO]; rfl))
      · have hm2 : M ≤ 1024 := of_decide_eq_true hm
        rw [hm] at HO
        clear hm
        go_enter Tryd.func41, Tryd.ntmps41
        go_wp2_with fail
        refine HG1.out.mono ?_; rintro e w1 ⟨rfl, rfl⟩
        go_wp2_with fail
        refine HG2.out.mono ?_; rintro e w1 ⟨rfl, rfl⟩
        go_wp2_with fail
        refine HK.out.mono ?_; rintro e w1 ⟨rfl, rfl⟩
        go_wp2_with fail
        exact bodyPost_ret (v := .tuple #[.int .i64 K, .int .i64 M, .bool true]) (by simp [results, Tryd.results41, go_sem, hm2]) rfl (HL.out _ HB.out _ (by rw [HO]; rfl))
theorem keep3 {w W : World} {r g : Nat} {x y z : Value} (h : W.cell? ⟨g, 0, none⟩ = some x ∧ W.cell? ⟨g, 1, none⟩ = some y ∧ W.cell? ⟨g, 2, none⟩ = some z ∧ Below r w W) (hne : g ≠ r) (a b c : Value) :
    (((W.setCell ⟨r, 0, none⟩ a).setCell ⟨r, 1, none⟩ b).setCell ⟨r, 2, none⟩ c).cell? ⟨g, 0, none⟩ = some x ∧ (((W.setCell ⟨r, 0, none⟩ a).setCell ⟨r, 1, none⟩ b).setCell ⟨r, 2, none⟩ c).cell? ⟨g, 1, none⟩ = some y ∧ (((W.setCell ⟨r, 0, none⟩ a).setCell ⟨r, 1, none⟩ b).setCell ⟨r, 2, none⟩ c).cell? ⟨g, 2, none⟩ = some z ∧ Below r w (((W.setCell ⟨r, 0, none⟩ a).setCell ⟨r, 1, none⟩ b).setCell ⟨r, 2, none⟩ c) := by
  have e : (((W.setCell ⟨r, 0, none⟩ a).setCell ⟨r, 1, none⟩ b).setCell ⟨r, 2, none⟩ c).heap[g]? = W.heap[g]? := by
    rw [Below.heap_setCell _ _ _ _ hne, Below.heap_setCell _ _ _ _ hne, Below.heap_setCell _ _ _ _ hne]
  obtain ⟨h0, h1, h2, h3⟩ := h
  refine ⟨?_, ?_, ?_, ((h3.setCell (p := ⟨r, 0, none⟩) (Nat.le_refl _) a).setCell (p := ⟨r, 1, none⟩) (Nat.le_refl _) b).setCell (p := ⟨r, 2, none⟩) (Nat.le_refl _) c⟩
  · rw [World.cell?_of_block (w := W) e]; exact h0
  · rw [World.cell?_of_block (w := W) e]; exact h1
  · rw [World.cell?_of_block (w := W) e]; exact h2
set_option maxRecDepth 20000 in
set_option maxHeartbeats 4000000 in
theorem sound_any (l : List UInt8) (f : Nat) (w : World) (hl : l.length ≤ 1000000) (hf : f ≤ 10000000) :
    Calls Tryd.prog 40 #[.string (T l), .int .i64 (f : Int)] w (RecSays (l.drop f) w) := by
  have HB := Lib.hid (Below.refl w.heap.size w)
  have HH := Lib.hid (fun w => header_any l f w hl hf)
  unfold HdSays at HH
  obtain ⟨m0, m1⟩ := Blok.hN_bounds (l.drop f)
  obtain ⟨m, hm⟩ := Int.eq_ofNat_of_zero_le m0
  by_cases hc : Blok.hOK (l.drop f) = true ∧ Blok.hN (l.drop f) ≤ ((l.drop f).length : Int) - 39
  · obtain ⟨h1, h2⟩ := hc
    have HS := Lib.hid (Blok.sound_at h1 h2)
    have h39 := (Blok.isHead_yes (Blok.hOK_head h1)).1
    have hS : Blok.hS (l.drop f) = ((l.drop f).drop 7).take 32 := by unfold Blok.hS; rw [if_pos (Blok.hOK_head h1)]
    rw [h1, hm] at HH
    rw [hm] at HS h2
    rw [show ((m : Int)).toNat = m from by omega] at HS
    rw [List.length_drop] at h2 h39
    have hx1 := extract_list l (f + 7) (f + 39)
    have hx2 := extract_list l (f + 39) (f + 39 + m)
    rw [show f + 39 - (f + 7) = 32 from by omega, ← List.drop_drop, ← hS] at hx1
    rw [show f + 39 + m - (f + 39) = m from by omega, ← List.drop_drop] at hx2
    have hSl : (Blok.hS (l.drop f)).length = 32 := by rw [hS]; simp; omega
    have hdl : (((l.drop f).drop 39).take m).length ≤ 1000000 := by simp; omega
    generalize Blok.hK (l.drop f) = K at *
    generalize Blok.hS (l.drop f) = S at *
    generalize ((l.drop f).drop 39).take m = D at *
    clear h1 hS
    have hm3 : f + 39 + m ≤ l.length := by omega
    have hm4 : (f : Int) + 39 + m ≤ l.length := by omega
    have hm5 : (m : Int) ≤ (l.length : Int) - f - 39 := by omega
    have hm6 : f + 39 ≤ l.length := by omega
    have hm7 : (f : Int) + 39 ≤ l.length := by omega
    clear hm m0 m1
    go_enter Tryd.func40, Tryd.ntmps40
    go_wp2_with fail
    refine (HH.out _).mono ?_; rintro e w1 ⟨rfl, b1⟩
    have hr1 := after_alloc1_new b1
    have HB1 := Lib.hid (after_alloc1 b1)
    clear b1
    go_upto_region 4 with fail
    go_region
    have hr3 : (w1.alloc (.cells #[.string (T S), .int .i64 K, .string (T D)] 49)).drew.heap[w.heap.size]? = _ := (Lib.alloc_old w1 _ _ (row_lt hr1)).trans hr1
    have hr4 : (w1.alloc (.cells #[.string (T S), .int .i64 K, .string (T D)] 49)).drew.heap[w1.heap.size]? = _ := heap_alloc_new w1 (.cells #[.string (T S), .int .i64 K, .string (T D)] 49)
    have HA := Lib.hid (below_drewN (HB1.out.alloc HB1.out.size (.cells #[.string (T S), .int .i64 K, .string (T D)] 49)) 1)
    rw [show (w1.alloc (.cells #[.string (T S), .int .i64 K, .string (T D)] 49)).drewN 1 = (w1.alloc (.cells #[.string (T S), .int .i64 K, .string (T D)] 49)).drew from rfl] at HA
    have ne1 : w.heap.size ≠ w1.heap.size := Nat.ne_of_lt (row_lt hr1)
    have ne2 : w1.heap.size ≠ w.heap.size := fun e => ne1 e.symm
    generalize (w1.alloc (.cells #[.string (T S), .int .i64 K, .string (T D)] 49)).drew = W at *
    clear hr1 HB1 hx1 hx2
    have e0 : W.cell? ⟨w1.heap.size, 0, none⟩ = some (.string (T S)) := by rw [cell_of_row _ _ _ _ _ _ hr4]; rfl
    have e1 : W.cell? ⟨w1.heap.size, 1, none⟩ = some (.int .i64 K) := by rw [cell_of_row _ _ _ _ _ _ hr4]; rfl
    have e2 : W.cell? ⟨w1.heap.size, 2, none⟩ = some (.string (T D)) := by rw [cell_of_row _ _ _ _ _ _ hr4]; rfl
    have HSC := Lib.hid (fun (w' : World) (h : w'.cell? ⟨w1.heap.size, 0, none⟩ = some (.string (T S)) ∧ w'.cell? ⟨w1.heap.size, 1, none⟩ = some (.int .i64 K) ∧ w'.cell? ⟨w1.heap.size, 2, none⟩ = some (.string (T D)) ∧ Below w.heap.size w w') (h2 : w'.heap[w.heap.size]? = some (.cells #[.string ByteArray.empty, .int .i64 0, .string ByteArray.empty] 49 (0, 0))) =>
      (rscore_T K D w' hdl).mono fun e w'' (h' : e = _ ∧ Below w'.heap.size w' w'') =>
        have r := (h'.2.block _ (row_lt h2)).trans h2
        have hlt := block_lt_of_cell h.1
        (⟨h'.1, ⟨by rw [h'.2.cell (p := ⟨w1.heap.size, 0, none⟩) hlt]; exact h.1, by rw [h'.2.cell (p := ⟨w1.heap.size, 1, none⟩) hlt]; exact h.2.1, by rw [h'.2.cell (p := ⟨w1.heap.size, 2, none⟩) hlt]; exact h.2.2.1, bnext h.2.2.2 h'.2⟩,
          by rw [cell_of_row _ _ _ _ _ _ r]; rfl, by rw [cell_of_row _ _ _ _ _ _ r]; rfl, by rw [cell_of_row _ _ _ _ _ _ r]; rfl, frozen_of_row w'' _ 0 _ _ r, frozen_of_row w'' _ 1 _ _ r, frozen_of_row w'' _ 2 _ _ r⟩ :
          e = .returned (.string (T (Blok.scr K D))) ∧ (w''.cell? ⟨w1.heap.size, 0, none⟩ = some (.string (T S)) ∧ w''.cell? ⟨w1.heap.size, 1, none⟩ = some (.int .i64 K) ∧ w''.cell? ⟨w1.heap.size, 2, none⟩ = some (.string (T D)) ∧ Below w.heap.size w w'') ∧
          w''.cell? ⟨w.heap.size, 0, none⟩ = some (.string ByteArray.empty) ∧ w''.cell? ⟨w.heap.size, 1, none⟩ = some (.int .i64 0) ∧ w''.cell? ⟨w.heap.size, 2, none⟩ = some (.string ByteArray.empty) ∧ w''.frozen? ⟨w.heap.size, 0, none⟩ = false ∧ w''.frozen? ⟨w.heap.size, 1, none⟩ = false ∧ w''.frozen? ⟨w.heap.size, 2, none⟩ = false))
    have HAd := Lib.hid (below_drewN HA.out 1)
    have HR3 : Hid (W.drew.heap[w.heap.size]? = some (.cells #[.string ByteArray.empty, .int .i64 0, .string ByteArray.empty] 49 (0, 0))) := hr3
    clear hr3 hr4
    by_cases hq : Blok.scr K D = S
    · have HR := Lib.hid (HS.out.trans (if_pos hq))
      generalize Blok.scr K D = G at *
      subst hq
      have hb : (G == G) = true := teq_yes rfl
      go_upto_region 5 with fail
      go_region_held_law (fun w' => w'.cell? ⟨w1.heap.size, 0, none⟩ = some (.string (T G)) ∧ w'.cell? ⟨w1.heap.size, 1, none⟩ = some (.int .i64 K) ∧ w'.cell? ⟨w1.heap.size, 2, none⟩ = some (.string (T D)) ∧ Below w.heap.size w w') (first | assumption | exact ⟨e0, e1, e2, HAd.out⟩ | exact keep3 (by assumption) ne2 _ _ _) (first | (go_at_call 32; refine (HSC.out _ (by assumption) HR3.out).mono ?_; rintro e w' ⟨rfl, hkeep, r0, r1, r2, f0, f1, f2⟩))
      all_goals
        go_wp2_with fail
        exact bodyPost_ret (v := .tuple #[.agg #[.string (T G), .int .i64 K, .string (T D)], .bool true]) (by simp [results, Tryd.results40, go_sem, r0, r1, r2]) rfl (rec_some ⟨G, K, D⟩ HR.out (keep3 hkeep ne2 _ _ _).2.2.2)
    · have HR := Lib.hid (HS.out.trans (if_neg hq))
      have hb := teq_no hq
      generalize Blok.scr K D = G at *
      go_upto_region 5 with fail
      go_region_held_law (fun w' => w'.cell? ⟨w1.heap.size, 0, none⟩ = some (.string (T S)) ∧ w'.cell? ⟨w1.heap.size, 1, none⟩ = some (.int .i64 K) ∧ w'.cell? ⟨w1.heap.size, 2, none⟩ = some (.string (T D)) ∧ Below w.heap.size w w') (first | assumption | exact ⟨e0, e1, e2, HAd.out⟩ | exact keep3 (by assumption) ne2 _ _ _) (first | (go_at_call 32; refine (HSC.out _ (by assumption) HR3.out).mono ?_; rintro e w' ⟨rfl, hkeep, r0, r1, r2, f0, f1, f2⟩))
      all_goals
        go_wp2_with fail
        exact bodyPost_ret (v := .tuple #[.agg #[.string (T S), .int .i64 K, .string (T D)], .bool false]) (by simp [results, Tryd.results40, go_sem, r0, r1, r2]) rfl (rec_none ⟨S, K, D⟩ HR.out (keep3 hkeep ne2 _ _ _).2.2.2)
  · have HR := Lib.hid (Blok.sound_none hc)
    have HE : Hid (Blok.hOK (l.drop f) = false ∨ (Blok.hOK (l.drop f) = true ∧ (l.length : Int) - f - 39 < m)) := by
      cases h : Blok.hOK (l.drop f)
      · exact .inl rfl
      · have h39 := (Blok.isHead_yes (Blok.hOK_head h)).1
        rw [List.length_drop] at h39
        exact .inr ⟨rfl, by have : ¬ Blok.hN (l.drop f) ≤ ((l.drop f).length : Int) - 39 := fun h2 => hc ⟨h, h2⟩; rw [List.length_drop] at this; omega⟩
    have HD := Lib.hid (fun (W : World) (h : Below w.heap.size w W) (a b c : Value) => ((h.setCell (p := ⟨w.heap.size, 0, none⟩) (Nat.le_refl _) a).setCell (p := ⟨w.heap.size, 1, none⟩) (Nat.le_refl _) b).setCell (p := ⟨w.heap.size, 2, none⟩) (Nat.le_refl _) c)
    rw [hm] at HH
    generalize Blok.hK (l.drop f) = K at *
    generalize Blok.hOK (l.drop f) = O at *
    clear hc hm m0
    rcases HE.out with rfl | ⟨rfl, hlt⟩
    · go_enter Tryd.func40, Tryd.ntmps40
      go_wp2_with fail
      refine (HH.out _).mono ?_; rintro e w1 ⟨rfl, b1⟩
      have hr1 := after_alloc1_new b1
      have HB1 := Lib.hid (after_alloc1 b1)
      have r0 : w1.cell? ⟨w.heap.size, 0, none⟩ = some (.string ByteArray.empty) := by rw [cell_of_row _ _ _ _ _ _ hr1]; rfl
      have r1 : w1.cell? ⟨w.heap.size, 1, none⟩ = some (.int .i64 0) := by rw [cell_of_row _ _ _ _ _ _ hr1]; rfl
      have r2 : w1.cell? ⟨w.heap.size, 2, none⟩ = some (.string ByteArray.empty) := by rw [cell_of_row _ _ _ _ _ _ hr1]; rfl
      have f0 := frozen_of_row w1 _ 0 _ _ hr1
      have f1 := frozen_of_row w1 _ 1 _ _ hr1
      have f2 := frozen_of_row w1 _ 2 _ _ hr1
      clear b1 hr1
      go_wp2_with fail
      exact bodyPost_ret (v := .tuple #[.agg #[.string (T []), .int .i64 0, .string (T [])], .bool false]) (by simp [results, Tryd.results40, go_sem, r0, r1, r2]) rfl (rec_none ⟨[], 0, []⟩ HR.out (HD.out _ HB1.out _ _ _))
    · go_enter Tryd.func40, Tryd.ntmps40
      go_wp2_with fail
      refine (HH.out _).mono ?_; rintro e w1 ⟨rfl, b1⟩
      have hr1 := after_alloc1_new b1
      have HB1 := Lib.hid (after_alloc1 b1)
      have r0 : w1.cell? ⟨w.heap.size, 0, none⟩ = some (.string ByteArray.empty) := by rw [cell_of_row _ _ _ _ _ _ hr1]; rfl
      have r1 : w1.cell? ⟨w.heap.size, 1, none⟩ = some (.int .i64 0) := by rw [cell_of_row _ _ _ _ _ _ hr1]; rfl
      have r2 : w1.cell? ⟨w.heap.size, 2, none⟩ = some (.string ByteArray.empty) := by rw [cell_of_row _ _ _ _ _ _ hr1]; rfl
      have f0 := frozen_of_row w1 _ 0 _ _ hr1
      have f1 := frozen_of_row w1 _ 1 _ _ hr1
      have f2 := frozen_of_row w1 _ 2 _ _ hr1
      clear b1 hr1
      go_wp2_with fail
      exact bodyPost_ret (v := .tuple #[.agg #[.string (T []), .int .i64 0, .string (T [])], .bool false]) (by simp [results, Tryd.results40, go_sem, r0, r1, r2]) rfl (rec_none ⟨[], 0, []⟩ HR.out (HD.out _ HB1.out _ _ _))
end Go.Proofs.YtpcieookddpkhaaDoor
