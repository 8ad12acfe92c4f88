/- What record returns: Blok.sound. Conditions: a text of at most 10^6 bytes; the 64 constants in the variable. -/
import Derived.Test.YtpcieookddpkhaaDoorBlkHead
import Derived.Test.YtpcieookddpkhaaDoorBlkPut
set_option linter.unusedVariables false
set_option linter.unusedSimpArgs false
namespace Go.Proofs.YtpcieookddpkhaaDoor
open Go.RowKit
namespace Blok
theorem hN_bounds (l : List UInt8) : 0 ≤ hN l ∧ hN l < 65536 := by
  unfold hN
  cases hh : isHead l
  · simp
  · have h := isHead_yes hh
    have := Blok.get_ok l 5 2 (by omega) (by omega) (by omega)
    rw [if_pos rfl]
    exact ⟨this.2.2.1, this.2.2.2⟩
theorem hOK_head {l : List UInt8} (h : hOK l = true) : isHead l = true := by
  unfold hOK at h; rw [Bool.and_eq_true] at h; exact h.1
theorem sound_none {l : List UInt8} (h : ¬ (hOK l = true ∧ hN l ≤ (l.length : Int) - 39)) : sound l = none := by unfold sound; rw [if_neg h]
theorem sound_at {l : List UInt8} (h : hOK l = true) (h2 : hN l ≤ (l.length : Int) - 39) : sound l = if scr (hK l) ((l.drop 39).take (hN l).toNat) = hS l then some ⟨hS l, hK l, (l.drop 39).take (hN l).toNat⟩ else none := by
  have e : hS l = (l.drop 7).take 32 := by unfold hS; rw [if_pos (hOK_head h)]
  unfold sound; rw [if_pos ⟨h, h2⟩, e]
end Blok
/-- What record says of a list: the block, where it is sound. -/
def RecSays (l : List UInt8) (w : World) (e : Ending) (w' : World) : Prop :=
  ∃ (B : Blk) (o : Bool), e = .returned (.tuple #[.agg #[.string (T B.sc), .int .i64 B.kd, .string (T B.dt)], .bool o]) ∧ (Blok.sound l = if o = true then some B else none) ∧ Below w.heap.size w w'
theorem rec_none {l : List UInt8} {w w' : World} (B : Blk) (h : Blok.sound l = none) (hb : Below w.heap.size w w') : RecSays l w (.returned (.tuple #[.agg #[.string (T B.sc), .int .i64 B.kd, .string (T B.dt)], .bool false])) w' :=
  ⟨B, false, rfl, by rw [h]; rfl, hb⟩
theorem rec_some {l : List UInt8} {w w' : World} (B : Blk) (h : Blok.sound l = some B) (hb : Below w.heap.size w w') : RecSays l w (.returned (.tuple #[.agg #[.string (T B.sc), .int .i64 B.kd, .string (T B.dt)], .bool true])) w' :=
  ⟨B, true, rfl, by rw [h]; rfl, hb⟩
set_option maxRecDepth 20000 in
set_option maxHeartbeats 2000000 in
theorem record_any (l : List UInt8) (w : World) (hl : l.length ≤ 1000000) (hK : KIn w) :
    Calls Tryd.prog 38 #[.string (T l)] w (RecSays l w) := by
  have HB := Lib.hid (Below.refl w.heap.size w)
  have HH := Lib.hid (fun w => head_any l w hl)
  unfold HeadSays at HH
  obtain ⟨m0, m1⟩ := Blok.hN_bounds l
  obtain ⟨m, hm⟩ := Int.eq_ofNat_of_zero_le m0
  have HKK := Lib.hid (fun (w' : World) (hb : Below w.heap.size w w') => hK.below hb)
  by_cases hc : Blok.hOK l = true ∧ Blok.hN l ≤ (l.length : Int) - 39
  · obtain ⟨h1, h2⟩ := hc
    have HS := Lib.hid (Blok.sound_at h1 h2)
    have h39 := (Blok.isHead_yes (Blok.hOK_head h1)).1
    rw [h1, hm] at HH
    rw [hm] at HS h2
    rw [show ((m : Int)).toNat = m from by omega] at HS
    have HX := Lib.hid (extract_list l 39 (39 + m))
    rw [show 39 + m - 39 = m from by omega] at HX
    generalize Blok.hK l = K at *
    generalize Blok.hS l = S at *
    clear h1
    have hm2 : m < 65536 := by omega
    have hm3 : 39 + m ≤ l.length := by omega
    have hm4 : (39 : Int) + m ≤ l.length := by omega
    have hm5 : (m : Int) ≤ (l.length : Int) - 39 := by omega
    clear hm m0 m1
    have HMD := Lib.hid (fun (w' : World) (hb : Below w.heap.size w w') => made_any K ((l.drop 39).take m) w' (by rw [List.length_take, List.length_drop]; omega) (HKK.out w' hb))
    rw [← HX.out] at HMD
    clear hK
    go_enter Tryd.func38, Tryd.ntmps38
    go_wp2_with fail
    refine (HH.out _).mono ?_; rintro e w1 ⟨rfl, b1⟩
    have hr1 := after_alloc1_new b1
    have HB1 := Lib.hid (after_alloc1 b1)
    clear b1
    go_wp2_with fail
    refine (HMD.out _ HB1.out).mono ?_; rintro e w2 ⟨rfl, b2⟩
    have hr2 := (b2.block _ (row_lt hr1)).trans hr1
    have HB2 := Lib.hid (bnext HB1.out b2)
    have l1 : w.heap.size < w2.heap.size := row_lt hr2
    have ne1 : w.heap.size ≠ w2.heap.size := by omega
    have ne2 : w2.heap.size ≠ w.heap.size := by omega
    clear b2 hr1
    have hx := HX.out
    clear HX HMD HKK
    generalize (T l).extract 39 (39 + m) = X at *
    subst hx
    generalize (l.drop 39).take m = D at *
    have HA := Lib.hid (HB2.out.alloc HB2.out.size (.cells #[.string (T (Blok.scr K D)), .int .i64 K, .string (T D)] 49))
    have hr3 := (Lib.alloc_old w2 (.cells #[.string (T (Blok.scr K D)), .int .i64 K, .string (T D)] 49) _ l1).trans hr2
    have hr4 := heap_alloc_new w2 (.cells #[.string (T (Blok.scr K D)), .int .i64 K, .string (T D)] 49)
    go_upto_region 5 with fail
    clear HB2
    generalize w2.alloc (.cells #[.string (T (Blok.scr K D)), .int .i64 K, .string (T D)] 49) = W at *
    have r0 : W.cell? ⟨w.heap.size, 0, none⟩ = some (.string ByteArray.empty) := by rw [cell_of_row _ _ _ _ _ _ hr3]; rfl
    have r1 : W.cell? ⟨w.heap.size, 1, none⟩ = some (.int .i64 0) := by rw [cell_of_row _ _ _ _ _ _ hr3]; rfl
    have r2 : W.cell? ⟨w.heap.size, 2, none⟩ = some (.string ByteArray.empty) := by rw [cell_of_row _ _ _ _ _ _ hr3]; rfl
    have f0 := frozen_of_row W _ 0 _ _ hr3
    have f1 := frozen_of_row W _ 1 _ _ hr3
    have f2 := frozen_of_row W _ 2 _ _ hr3
    have e0 : W.cell? ⟨w2.heap.size, 0, none⟩ = some (.string (T (Blok.scr K D))) := by rw [cell_of_row _ _ _ _ _ _ hr4]; rfl
    have e1 : W.cell? ⟨w2.heap.size, 1, none⟩ = some (.int .i64 K) := by rw [cell_of_row _ _ _ _ _ _ hr4]; rfl
    have e2 : W.cell? ⟨w2.heap.size, 2, none⟩ = some (.string (T D)) := by rw [cell_of_row _ _ _ _ _ _ hr4]; rfl
    clear hr2 hr3 hr4
    have HD := Lib.hid (fun (n : Nat) (a b c : Value) => (((below_drewN HA.out n).setCell (p := ⟨w.heap.size, 0, none⟩) (Nat.le_refl _) a).setCell (p := ⟨w.heap.size, 1, none⟩) (Nat.le_refl _) b).setCell (p := ⟨w.heap.size, 2, none⟩) (Nat.le_refl _) c)
    by_cases hq : Blok.scr K D = S
    · have HR := Lib.hid (HS.out.trans (if_pos hq))
      generalize Blok.scr K D = G at *
      subst hq
      have hb : (G == G) = true := teq_yes rfl
      go_region
      all_goals
        go_wp2_with fail
        exact bodyPost_ret (v := .tuple #[.agg #[.string (T G), .int .i64 K, .string (T D)], .bool true]) (by simp [results, Tryd.results38, go_sem, r0, r1, r2]) rfl (rec_some ⟨G, K, D⟩ HR.out (HD.out _ _ _ _))
    · have HR := Lib.hid (HS.out.trans (if_neg hq))
      have hb := teq_no hq
      generalize Blok.scr K D = G at *
      go_region
      all_goals
        go_wp2_with fail
        exact bodyPost_ret (v := .tuple #[.agg #[.string (T G), .int .i64 K, .string (T D)], .bool false]) (by simp [results, Tryd.results38, go_sem, r0, r1, r2]) rfl (rec_none ⟨G, K, D⟩ HR.out (HD.out _ _ _ _))
  · have HR := Lib.hid (Blok.sound_none hc)
    clear hK HKK
    have HE : Hid (Blok.hOK l = false ∨ (Blok.hOK l = true ∧ (l.length : Int) - 39 < m)) := by
      cases h : Blok.hOK l
      · exact .inl rfl
      · exact .inr ⟨rfl, by have : ¬ Blok.hN l ≤ (l.length : Int) - 39 := fun h2 => hc ⟨h, h2⟩; omega⟩
    have HD := Lib.hid (fun (W : World) (h : Below w.heap.size w W) (a b c : Value) => ((h.setCell (p := ⟨w.heap.size, 0, none⟩) (Nat.le_refl _) a).setCell (p := ⟨w.heap.size, 1, none⟩) (Nat.le_refl _) b).setCell (p := ⟨w.heap.size, 2, none⟩) (Nat.le_refl _) c)
    rw [hm] at HH
    generalize Blok.hK l = K at *
    generalize Blok.hS l = S at *
    generalize Blok.hOK l = O at *
    clear hc hm m0
    rcases HE.out with rfl | ⟨rfl, hlt⟩
    · go_enter Tryd.func38, Tryd.ntmps38
      go_wp2_with fail
      refine (HH.out _).mono ?_; rintro e w1 ⟨rfl, b1⟩
      have hr1 := after_alloc1_new b1
      have HB1 := Lib.hid (after_alloc1 b1)
      have r0 : w1.cell? ⟨w.heap.size, 0, none⟩ = some (.string ByteArray.empty) := by rw [cell_of_row _ _ _ _ _ _ hr1]; rfl
      have r1 : w1.cell? ⟨w.heap.size, 1, none⟩ = some (.int .i64 0) := by rw [cell_of_row _ _ _ _ _ _ hr1]; rfl
      have r2 : w1.cell? ⟨w.heap.size, 2, none⟩ = some (.string ByteArray.empty) := by rw [cell_of_row _ _ _ _ _ _ hr1]; rfl
      have f0 := frozen_of_row w1 _ 0 _ _ hr1
      have f1 := frozen_of_row w1 _ 1 _ _ hr1
      have f2 := frozen_of_row w1 _ 2 _ _ hr1
      clear b1 hr1
      go_wp2_with fail
      exact bodyPost_ret (v := .tuple #[.agg #[.string (T []), .int .i64 0, .string (T [])], .bool false]) (by simp [results, Tryd.results38, go_sem, r0, r1, r2]) rfl (rec_none ⟨[], 0, []⟩ HR.out (HD.out _ HB1.out _ _ _))
    · go_enter Tryd.func38, Tryd.ntmps38
      go_wp2_with fail
      refine (HH.out _).mono ?_; rintro e w1 ⟨rfl, b1⟩
      have hr1 := after_alloc1_new b1
      have HB1 := Lib.hid (after_alloc1 b1)
      have r0 : w1.cell? ⟨w.heap.size, 0, none⟩ = some (.string ByteArray.empty) := by rw [cell_of_row _ _ _ _ _ _ hr1]; rfl
      have r1 : w1.cell? ⟨w.heap.size, 1, none⟩ = some (.int .i64 0) := by rw [cell_of_row _ _ _ _ _ _ hr1]; rfl
      have r2 : w1.cell? ⟨w.heap.size, 2, none⟩ = some (.string ByteArray.empty) := by rw [cell_of_row _ _ _ _ _ _ hr1]; rfl
      have f0 := frozen_of_row w1 _ 0 _ _ hr1
      have f1 := frozen_of_row w1 _ 1 _ _ hr1
      have f2 := frozen_of_row w1 _ 2 _ _ hr1
      clear b1 hr1
      go_wp2_with fail
      exact bodyPost_ret (v := .tuple #[.agg #[.string (T []), .int .i64 0, .string (T [])], .bool false]) (by simp [results, Tryd.results38, go_sem, r0, r1, r2]) rfl (rec_none ⟨[], 0, []⟩ HR.out (HD.out _ HB1.out _ _ _))
end Go.Proofs.YtpcieookddpkhaaDoor
