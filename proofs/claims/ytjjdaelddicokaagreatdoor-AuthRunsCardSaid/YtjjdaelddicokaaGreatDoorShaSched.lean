/- What hash.schedule returns: the 64 words of Sha.sched. Conditions: a block of 64 bytes at least. -/
import Derived.Test.YtjjdaelddicokaaGreatDoorShaRot
import Derived.StillTailTactics
import Derived.Laws.CopyOwn
import Derived.Laws.Tables
set_option linter.unusedVariables false
namespace Go.Proofs.YtjjdaelddicokaaGreatDoor
open Go.RowKit

/-- Words as the model's values. -/
def us (l : List Nat) : List Value := l.map fun (n : Nat) => Value.int .u32 (n : Int)
theorem us_length (l : List Nat) : (us l).length = l.length := by simp [us]
def wrow (l : List Nat) (n : Nat) : Array Value := (us l ++ List.replicate (n - l.length) (Value.int .u32 0)).toArray
theorem wrow_get (l : List Nat) (n t : Nat) (h : t < l.length) : (wrow l n)[t]? = some (.int .u32 ((l.getD t 0 : Nat) : Int)) := by
  simp only [wrow, List.getElem?_toArray]
  rw [List.getElem?_append_left (by rw [us_length]; exact h)]
  simp [us, h]
theorem wrow_zero (l : List Nat) (n t : Nat) (h : l.length ≤ t) (h2 : t < n) : (wrow l n)[t]? = some (.int .u32 0) := by
  simp only [wrow, List.getElem?_toArray]
  rw [List.getElem?_append_right (by rw [us_length]; exact h), us_length, List.getElem?_replicate, if_pos (by omega)]
theorem wrow_set (l : List Nat) (n x : Nat) (h : l.length < n) : (wrow l n).setIfInBounds l.length (.int .u32 (x : Int)) = wrow (l ++ [x]) n := by
  simp only [wrow, List.setIfInBounds_toArray]
  congr 1
  rw [List.set_append_right _ _ (by rw [us_length]; exact Nat.le_refl _), us_length, Nat.sub_self]
  have e : n - l.length = (n - (l ++ [x]).length) + 1 := by simp; omega
  rw [e, List.replicate_succ, List.set_cons_zero]
  simp [us]
theorem wrow_size (l : List Nat) (n : Nat) (h : l.length ≤ n) : (wrow l n).size = n := by
  simp only [wrow, List.size_toArray, List.length_append, us_length, List.length_replicate]; omega
theorem wrow_cells (l : List Nat) (n : Nat) : (wrow l n).all (·.oneCell') = true := by
  rw [Array.all_eq_true_iff_forall_mem]
  intro x hx
  simp only [wrow, List.mem_toArray, List.mem_append, us, List.mem_map, List.mem_replicate] at hx
  rcases hx with ⟨_, _, rfl⟩ | ⟨_, rfl⟩ <;> rfl

theorem heap_drewN (w : World) (n : Nat) : (w.drewN n).heap = w.heap := rfl

theorem word_in (s : ByteArray) (j : Nat) (w : World) (h : 64 ≤ s.size) (hj : j < 16) (hs : s.size ≤ 9223372036854775807) :
    Calls Tryz.prog 102 #[.string (s.extract (4 * j) s.size)] w fun e w' => e = .returned (.int .u32 ((Sha.inw s.data.toList j : Nat) : Int)) ∧ ∃ m, w' = w.drewN m := by
  have hsz : (s.extract (4 * j) s.size).size = s.size - 4 * j := by rw [ByteArray.size_extract]; omega
  have hg : ∀ t, t < 4 → ∀ (h' : t < (s.extract (4 * j) s.size).size), (s.extract (4 * j) s.size)[t]'h' = s.data.toList.getD (4 * j + t) 0 := by
    intro t ht h'
    have hl : 4 * j + t < s.data.toList.length := by simp; omega
    rw [List.getD_eq_getElem?_getD, List.getElem?_eq_getElem hl, Option.getD_some]
    rw [ByteArray.getElem_extract]
    rfl
  refine (word_any (s.extract (4 * j) s.size) w (by omega) (by omega)).mono fun e w' hp => ?_
  obtain ⟨he, hw⟩ := hp
  refine ⟨?_, hw⟩
  rw [he, hg 0 (by omega), hg 1 (by omega), hg 2 (by omega), hg 3 (by omega)]
  rfl

theorem sg0_bits (x : Nat) (hx : x < 4294967296) : bits BinOp.xor IntKind.u32 (bits BinOp.xor IntKind.u32 ((Sha.ror x 7 : Nat) : Int) ((Sha.ror x 18 : Nat) : Int)) ((x : Int) / 8) = ((Sha.sg0 x : Nat) : Int) := by
  have e1 : (x : Int) / 8 = ((x / 8 : Nat) : Int) := by rw [Int.natCast_ediv]; rfl
  rw [e1, u32_xor_nat _ _ (Sha.ror_lt _ hx) (Sha.ror_lt _ hx), u32_xor_nat _ _ (Sha.xor_lt (Sha.ror_lt _ hx) (Sha.ror_lt _ hx)) (by omega)]
  rfl
theorem sg1_bits (x : Nat) (hx : x < 4294967296) : bits BinOp.xor IntKind.u32 (bits BinOp.xor IntKind.u32 ((Sha.ror x 17 : Nat) : Int) ((Sha.ror x 19 : Nat) : Int)) ((x : Int) / 1024) = ((Sha.sg1 x : Nat) : Int) := by
  have e1 : (x : Int) / 1024 = ((x / 1024 : Nat) : Int) := by rw [Int.natCast_ediv]; rfl
  rw [e1, u32_xor_nat _ _ (Sha.ror_lt _ hx) (Sha.ror_lt _ hx), u32_xor_nat _ _ (Sha.xor_lt (Sha.ror_lt _ hx) (Sha.ror_lt _ hx)) (by omega)]
  rfl

set_option maxRecDepth 100000 in
set_option maxHeartbeats 2000000 in
theorem sched_any (s : ByteArray) (w : World) (h : 64 ≤ s.size) (hs : s.size ≤ 9223372036854775807) :
    Calls Tryz.prog 99 #[.string s] w fun e w' => e = .returned (.agg (us (Sha.sched s.data.toList 64)).toArray) ∧ Below w.heap.size w w' := by
  go_enter Tryz.func99, Tryz.ntmps99
  go_wp2_with fail
  go_loopw [9] (fun i wr => ∃ j : Nat, j ≤ 64 ∧ i = .int .i64 j ∧ wr.heap[w.heap.size + 1]? = some (.cells (wrow (Sha.sched s.data.toList j) 64) 105 (0, 0)) ∧
      wr.heap[w.heap.size]? = some (.cells (wrow [] 64) 105 (0, 0)) ∧ Below w.heap.size w wr) (fun i _ => 64 - (intOf i).toNat)
  case atStart => exact ⟨0, by omega, rfl, heap_alloc2_new _ _ _, heap_alloc2_old _ _ _, ((Below.refl _ _).alloc (Nat.le_refl _) _).alloc (by simp) _⟩
  case round =>
    obtain ⟨j, hj, rfl, hW, hZ, hb⟩ := hrel
    by_cases hlt : j < 64
    · have hlen := Sha.sched_length s.data.toList j
      by_cases h16 : j < 16
      · have HC := Lib.hid (fun w => word_in s j w h h16 hs)
        have HS := Lib.hid (show Sha.sched s.data.toList (j + 1) = Sha.sched s.data.toList j ++ [Sha.inw s.data.toList j] from by rw [Sha.sched, if_pos h16])
        go_wp2_with fail
        refine (HC.out _).mono ?_; rintro e w' ⟨rfl, m, rfl⟩
        have hb' := below_drewN hb m
        have hW' : (wr.drewN m).heap[w.heap.size + 1]? = some (.cells (wrow (Sha.sched s.data.toList j) 64) 105 (0, 0)) := hW
        have hZ' : (wr.drewN m).heap[w.heap.size]? = some (.cells (wrow [] 64) 105 (0, 0)) := hZ
        clear hW hZ hb
        generalize wr.drewN m = wq at *
        have hc : wq.cell? ⟨w.heap.size + 1, j, none⟩ = some (.int .u32 0) := by rw [cell_of_row wq _ j _ _ _ hW', wrow_zero _ _ _ (by omega) hlt]
        have hf := frozen_of_row wq (w.heap.size + 1) j _ _ hW'
        have hS := heap_setCell_same wq (w.heap.size + 1) j _ _ (.int .u32 ((Sha.inw s.data.toList j : Nat) : Int)) hW'
        have hS2 := heap_setCell_other wq ⟨w.heap.size + 1, j, none⟩ w.heap.size (.int .u32 ((Sha.inw s.data.toList j : Nat) : Int)) (by simp)
        have HW := Lib.hid hW'
        have HZ := Lib.hid hZ'
        have HSS := Lib.hid hS
        have HS2 := Lib.hid hS2
        clear hW' hZ' hS hS2 hlen
        go_wp2_with fail
        go_roundw
        case rel =>
          refine ⟨j + 1, by omega, by go_num, ?_, HS2.out.trans HZ.out, hb'.setCell (by simp) _⟩
          have e := wrow_set (Sha.sched s.data.toList j) 64 (Sha.inw s.data.toList j) (by rw [Sha.sched_length]; omega)
          rw [Sha.sched_length, ← HS.out] at e
          rw [HSS.out, e]
        case measure => simp [intOf]; omega
      · have hcell : ∀ t, t < j → wr.cell? ⟨w.heap.size + 1, t, none⟩ = some (.int .u32 (((Sha.sched s.data.toList j).getD t 0 : Nat) : Int)) := fun t ht => by
          rw [cell_of_row wr _ t _ _ _ hW, wrow_get _ _ _ (by omega)]
        have hlt4 := fun t => Sha.getD_lt (Sha.sched_lt s.data.toList j) t
        have c15 := hcell (j - 15) (by omega)
        have c2 := hcell (j - 2) (by omega)
        have c16 := hcell (j - 16) (by omega)
        have c7 := hcell (j - 7) (by omega)
        have l15 := hlt4 (j - 15)
        have l2 := hlt4 (j - 2)
        have l16 := hlt4 (j - 16)
        have l7 := hlt4 (j - 7)
        have cj : wr.cell? ⟨w.heap.size + 1, j, none⟩ = some (.int .u32 0) := by rw [cell_of_row wr _ j _ _ _ hW, wrow_zero _ _ _ (by omega) hlt]
        have hf := frozen_of_row wr (w.heap.size + 1) j _ _ hW
        have HS := Lib.hid (show Sha.sched s.data.toList (j + 1) = Sha.sched s.data.toList j ++ [Sha.nxt (Sha.sched s.data.toList j) j] from by rw [Sha.sched, if_neg h16])
        have HN := Lib.hid (show Sha.nxt (Sha.sched s.data.toList j) j = _ from rfl)
        have HW := Lib.hid hW
        have HZ := Lib.hid hZ
        clear hW hZ hcell hlt4 hlen
        generalize hx15 : (Sha.sched s.data.toList j).getD (j - 15) 0 = x15 at *
        generalize hx2 : (Sha.sched s.data.toList j).getD (j - 2) 0 = x2 at *
        generalize hx16 : (Sha.sched s.data.toList j).getD (j - 16) 0 = x16 at *
        generalize hx7 : (Sha.sched s.data.toList j).getD (j - 7) 0 = x7 at *
        have HX15 := Lib.hid hx15
        have HX2 := Lib.hid hx2
        have HX16 := Lib.hid hx16
        have HX7 := Lib.hid hx7
        clear hx15 hx2 hx16 hx7
        have R7 := Lib.hid (fun w => right_any x15 7 w l15 (by decide) (by decide))
        have R18 := Lib.hid (fun w => right_any x15 18 w l15 (by decide) (by decide))
        have R17 := Lib.hid (fun w => right_any x2 17 w l2 (by decide) (by decide))
        have R19 := Lib.hid (fun w => right_any x2 19 w l2 (by decide) (by decide))
        have t15 : ((j : Int) - 15).toNat = j - 15 := by omega
        have t2 : ((j : Int) - 2).toNat = j - 2 := by omega
        have w15 : IntKind.i64.wrap ((j : Int) - 15) = (j : Int) - 15 := IntWalk.i64_in _ (by omega)
        have w2 : IntKind.i64.wrap ((j : Int) - 2) = (j : Int) - 2 := IntWalk.i64_in _ (by omega)
        have b15 : (0 : Int) ≤ (j : Int) - 15 := by omega
        have d15 : (j : Int) - 15 < 64 := by omega
        have b2 : (0 : Int) ≤ (j : Int) - 2 := by omega
        have d2 : (j : Int) - 2 < 64 := by omega
        go_wp2_with fail
        go_quiet (fail)
        clear t15 t2 w15 w2
        go_wp2_with fail
        go_outline
        refine (R7.out _).mono ?_; rintro e w' ⟨rfl, rfl⟩
        go_wp2_with fail
        refine (R18.out _).mono ?_; rintro e w' ⟨rfl, rfl⟩
        go_wp2_with fail
        refine (R17.out _).mono ?_; rintro e w' ⟨rfl, rfl⟩
        go_wp2_with fail
        refine (R19.out _).mono ?_; rintro e w' ⟨rfl, rfl⟩
        go_wp2_with fail
        have l0 := Sha.sg0_lt l15
        have l1 := Sha.sg1_lt l2
        simp only [sg0_bits x15 l15, sg1_bits x2 l2]
        generalize hs0 : Sha.sg0 x15 = s0 at *
        generalize hs1 : Sha.sg1 x2 = s1 at *
        have HS0 := Lib.hid hs0
        have HS1 := Lib.hid hs1
        clear hs0 hs1
        clear c15 c2 b15 d15 b2 d2 l15 l2
        have hW := HW.out
        have hZ := HZ.out
        have hb' := below_drewN hb nq
        have hW' : (wr.drewN nq).heap[w.heap.size + 1]? = some (.cells (wrow (Sha.sched s.data.toList j) 64) 105 (0, 0)) := hW
        have hZ' : (wr.drewN nq).heap[w.heap.size]? = some (.cells (wrow [] 64) 105 (0, 0)) := hZ
        have q16 : (wr.drewN nq).cell? ⟨w.heap.size + 1, j - 16, none⟩ = some (.int .u32 (x16 : Int)) := c16
        have q7 : (wr.drewN nq).cell? ⟨w.heap.size + 1, j - 7, none⟩ = some (.int .u32 (x7 : Int)) := c7
        have qj : (wr.drewN nq).cell? ⟨w.heap.size + 1, j, none⟩ = some (.int .u32 0) := cj
        have qf := frozen_of_row (wr.drewN nq) (w.heap.size + 1) j _ _ hW'
        clear hW hZ hb HW HZ c16 c7 cj hf
        generalize wr.drewN nq = wq at *
        have hS := heap_setCell_same wq (w.heap.size + 1) j _ _ (.int .u32 ((Sha.nxt (Sha.sched s.data.toList j) j : Nat) : Int)) hW'
        have hS2 := heap_setCell_other wq ⟨w.heap.size + 1, j, none⟩ w.heap.size (.int .u32 ((Sha.nxt (Sha.sched s.data.toList j) j : Nat) : Int)) (by simp)
        have HW := Lib.hid hW'
        have HZ := Lib.hid hZ'
        have HSS := Lib.hid hS
        have HS2 := Lib.hid hS2
        have hbH := Lib.hid hb'
        clear hW' hZ' hS hS2 hb'
        have t16 : ((j : Int) - 16).toNat = j - 16 := by omega
        have t7 : ((j : Int) - 7).toNat = j - 7 := by omega
        have w16 : IntKind.i64.wrap ((j : Int) - 16) = (j : Int) - 16 := IntWalk.i64_in _ (by omega)
        have w7 : IntKind.i64.wrap ((j : Int) - 7) = (j : Int) - 7 := IntWalk.i64_in _ (by omega)
        have b16 : (0 : Int) ≤ (j : Int) - 16 := by omega
        have d16 : (j : Int) - 16 < 64 := by omega
        have b7 : (0 : Int) ≤ (j : Int) - 7 := by omega
        have d7 : (j : Int) - 7 < 64 := by omega
        have nv : Sha.nxt (Sha.sched s.data.toList j) j = (((x16 + s0) % 4294967296 + x7) % 4294967296 + s1) % 4294967296 := by
          rw [← HX16.out, ← HX7.out, ← HS0.out, ← HS1.out, ← HX15.out, ← HX2.out]; rfl
        have ev : ((x16 : Int) + s0 + x7 + s1) % 4294967296 = ((Sha.nxt (Sha.sched s.data.toList j) j : Nat) : Int) := by
          rw [nv]; omega
        have EV := Lib.hid ev
        clear nv ev
        have e7 : (7 : Int) ≤ (j : Int) := by omega
        go_still_tail 15, (by kernel_rfl)
        change wpList _ _ _ _ _ wq.drew
        go_wp2_with fail
        go_roundw
        case rel =>
          rw [EV.out]
          refine ⟨j + 1, by omega, by go_num, ?_, ?_, ?_⟩
          · have e := wrow_set (Sha.sched s.data.toList j) 64 (Sha.nxt (Sha.sched s.data.toList j) j) (by rw [Sha.sched_length]; omega)
            rw [Sha.sched_length, ← HS.out] at e
            rw [← e]; exact HSS.out
          · exact HS2.out.trans HZ.out
          · exact (hbH.out.setCell (p := ⟨w.heap.size + 1, j, none⟩) (by simp) _).drew
        case measure => simp [intOf]; omega
    · obtain rfl : j = 64 := by omega
      have hlen := Sha.sched_length s.data.toList 64
      have hcl := wrow_cells (Sha.sched s.data.toList 64) 64
      have hsz := wrow_size (Sha.sched s.data.toList 64) 64 (by omega)
      have hsz0 : (wrow [] 64).size = 64 := wrow_size [] 64 (by simp)
      have hrow : wrow (Sha.sched s.data.toList 64) 64 = (us (Sha.sched s.data.toList 64)).toArray := by
        unfold wrow; rw [hlen, Nat.sub_self]; simp
      have hI : (Tryz.prog.info? 105).map (·.size) = some (wrow (Sha.sched s.data.toList 64) 64).size := by rw [hsz]; kernel_rfl
      have hR := setRow_heap wr w.heap.size (wrow [] 64) (wrow (Sha.sched s.data.toList 64) 64) 105 (0, 0) hZ
      have hBL : Below w.heap.size w (wr.setRow w.heap.size (wrow (Sha.sched s.data.toList 64) 64)) := below_setRow hb (Nat.le_refl _) _
      generalize wrow (Sha.sched s.data.toList 64) 64 = cs at *
      have HW := Lib.hid hW
      have HZ := Lib.hid hZ
      have HR := Lib.hid hR
      have HB := Lib.hid hBL
      have HROW := Lib.hid hrow
      clear hW hZ hR hBL hrow hb
      go_wp2_with (first | refine wpList_load_row rfl 105 _ rfl (w.heap.size + 1) rfl 105 cs (0, 0) _ HW.out Tryz.underlying105 rfl hI ?_ | refine wpList_store_row rfl 105 _ _ rfl w.heap.size cs rfl rfl 105 (wrow [] 64) HZ.out hI (hsz0.trans hsz.symm) hcl ?_)
      refine bodyPost_ret (results_cell_row rfl _ _ w.heap.size _ cs _ _ rfl HR.out Tryz.underlying105 rfl hI) rfl ?_
      exact ⟨by rw [HROW.out], HB.out⟩
end Go.Proofs.YtjjdaelddicokaaGreatDoor
