/- What hash.masked returns: Sha.msk. Conditions: a key of at most 64 bytes. -/
import Derived.Test.YtjjdaelddicokaaGreatDoorShaSum
import Derived.Lib.BufferWrite
set_option linter.unusedVariables false
set_option linter.unusedSimpArgs false
namespace Go.Proofs.YtjjdaelddicokaaGreatDoor
open Go.RowKit

/-- The row after k rounds. -/
def mkr (l : List UInt8) (x : UInt8) (k : Nat) : List UInt8 := (l.take k).map (· ^^^ x) ++ l.drop k
theorem mkr_get (l : List UInt8) (x : UInt8) (k : Nat) (h : k < l.length) : (bys (mkr l x k)).toArray[k]? = some (.int .u8 (l[k].toNat : Int)) := by
  have hk : (l.take k).length = k := by rw [List.length_take]; omega
  simp only [List.getElem?_toArray, bys, mkr, List.map_append]
  rw [List.getElem?_append_right (by simp; omega)]
  simp [hk]
  have : k - min k l.length = 0 := by omega
  rw [this]; simp [h]
theorem mkr_set (l : List UInt8) (x : UInt8) (k : Nat) (h : k < l.length) : (bys (mkr l x k)).toArray.setIfInBounds k (.int .u8 ((l[k] ^^^ x).toNat : Int)) = (bys (mkr l x (k + 1))).toArray := by
  simp only [List.setIfInBounds_toArray]
  congr 1
  have e1 : l.take (k + 1) = l.take k ++ [l[k]] := List.take_succ_eq_append_getElem h
  have e2 : l.drop k = l[k] :: l.drop (k + 1) := List.drop_eq_getElem_cons h
  unfold mkr
  rw [e1, e2, List.map_append, List.append_assoc, bys_append, bys_append]
  have hk : (bys ((l.take k).map (· ^^^ x))).length = k := by rw [bys_length, List.length_map, List.length_take]; omega
  rw [List.set_append_right _ _ (by rw [hk]; exact Nat.le_refl _), hk, Nat.sub_self]
  rfl
theorem mkr_full (l : List UInt8) (x : UInt8) : mkr l x l.length = l.map (· ^^^ x) := by simp [mkr]

set_option maxRecDepth 100000 in
set_option maxHeartbeats 2000000 in
theorem msk_any (s : ByteArray) (x : UInt8) (z : Int) (hz : z = (x.toNat : Int)) (w : World) (hs : s.size ≤ 64) :
    Calls Tryz.prog 80 #[.string s, .int .u8 z] w fun e w' => e = .returned (.string (T (Sha.msk s.data.toList x))) ∧ Below w.heap.size w w' := by
  obtain ⟨i0, hi, hz0, hz1, hz2⟩ := info_parts (P := Tryz.prog) (e := 5) (z := .int .u8 0) (size := 1) (bytes := 1) (by kernel_rfl)
  have hn : s.data.toList.length = s.size := by simp
  have hxl : x.toNat < 256 := x.toNat_lt
  go_enter Tryz.func80, Tryz.ntmps80
  go_wp2_with (at_make; refine wpList_make_full _ rfl _ _ 85 rfl w.heap.size 5 i0 (.int .u8 0) 1 Tryz.underlying85 hi hz0 hz1 _ _ _ _ 64 rfl rfl rfl rfl ?b1 ?b2 ?b3 ?_)
  case b1 => rw [hz2]; omega
  case b2 => unfold maxLen; omega
  case b3 => omega
  intro w1 hown hg
  have hb1 : Below w.heap.size w w1 := (Below.refl _ _).grown hg (Nat.le_refl _) (by simp)
  obtain ⟨cur, hrow, hcur⟩ : ∃ cur, w1.heap[w.heap.size]? = some (.cells cur 5 (0, 0)) ∧ cur.toList = (madeCells (Value.cells (.int .u8 0)) (64 * 1)).toList := by
    rcases hown.2 with ⟨hv, _⟩ | ⟨g, cap, cur, hv, hbg, hg', hnc, hcm, hcs, htk⟩
    · cases hv
    · cases hv
      refine ⟨cur, hg', ?_⟩
      rw [List.take_of_length_le (by rw [Array.length_toList, hcs]; exact Nat.le_refl _)] at htk
      exact htk
  have hcz : cur.toList = bys (List.replicate 64 0) := by rw [hcur]; kernel_rfl
  clear hcur hown hg
  go_wp2_with fail
  have hcs : cur.size = 64 := by rw [← Array.length_toList, hcz, bys_length]; simp
  rw [Lib.run_copy_row_string w1 85 9 3 5 w.heap.size 0 64 64 s cur 5 Tryz.underlying85 (by kernel_rfl) hrow hs (by omega)]
  simp only [Result.andThen]
  rw [Oper.upon_value]
  obtain ⟨l, hl⟩ : ∃ l, l = (s.data.toList ++ List.replicate 64 0).take 64 := ⟨_, rfl⟩
  have hll : l.length = 64 := by rw [hl]; simp
  have hcopy : (cur.toList.take 0 ++ Lib.byteCells s.data.toList ++ cur.toList.drop (0 + s.size)).toArray = (bys (mkr l x 0)).toArray := by
    congr 1
    rw [hcz, hl]
    have e : mkr ((s.data.toList ++ List.replicate 64 0).take 64) x 0 = s.data.toList ++ List.replicate (64 - s.size) 0 := by
      simp only [mkr, List.take_zero, List.map_nil, List.nil_append, List.drop_zero]
      rw [List.take_append, List.take_of_length_le (by omega), hn, List.take_replicate]
      congr 2; omega
    rw [e, bys_append]
    simp only [List.take_zero, List.nil_append, Nat.zero_add]
    congr 1
    simp only [bys, List.map_replicate, List.drop_replicate]
  rw [hcopy]
  have hR : (w1.setRow w.heap.size (bys (mkr l x 0)).toArray).heap[w.heap.size]? = some (.cells (bys (mkr l x 0)).toArray 5 (0, 0)) := setRow_heap _ _ _ _ _ _ hrow
  have hBL : Below w.heap.size w (w1.setRow w.heap.size (bys (mkr l x 0)).toArray) := below_setRow hb1 (Nat.le_refl _) _
  have HF := Lib.hid (show Sha.msk s.data.toList x = mkr l x 64 from by rw [← hll, mkr_full, hl]; rfl)
  clear hcopy hcs hcz hrow hb1 hl
  generalize w1.setRow w.heap.size (bys (mkr l x 0)).toArray = w2 at *
  go_wp2_with fail
  go_loopw [13] (fun i wr => ∃ k : Nat, k ≤ 64 ∧ i = .int .i64 k ∧ wr.heap[w.heap.size]? = some (.cells (bys (mkr l x k)).toArray 5 (0, 0)) ∧ Below w.heap.size w wr) (fun i _ => 64 - (intOf i).toNat)
  case atStart => exact ⟨0, by omega, rfl, hR, hBL⟩
  case round =>
    obtain ⟨k, hk, rfl, hrow, hb⟩ := hrel
    by_cases hlt : k < 64
    · have hkl : k < l.length := by omega
      have ck : wr.cell? ⟨w.heap.size, k, none⟩ = some (.int .u8 (l[k].toNat : Int)) := by rw [cell_of_row wr _ k _ _ _ hrow]; exact mkr_get l x k hkl
      have hf := frozen_of_row wr w.heap.size k _ _ hrow
      have hyl : l[k].toNat < 256 := l[k].toNat_lt
      have HX := Lib.hid (show bits .xor .u8 (l[k].toNat : Int) (x.toNat : Int) = ((l[k] ^^^ x).toNat : Int) from by rw [u8_xor_nat _ _ hyl hxl, UInt8.toNat_xor])
      have HS := Lib.hid ((heap_setCell_same wr w.heap.size k _ _ (.int .u8 ((l[k] ^^^ x).toNat : Int)) hrow).trans (by rw [mkr_set l x k hkl]))
      have HB := Lib.hid hb
      clear hrow hb hR hBL
      go_wp2_with fail
      go_roundw
      case rel =>
        rw [HX.out]
        exact ⟨k + 1, by omega, by go_num, HS.out, HB.out.setCell (p := ⟨w.heap.size, k, none⟩) (Nat.le_refl _) _⟩
      case measure => simp [intOf]; omega
    · obtain rfl : k = 64 := by omega
      have hown : wr.ownsRow w.heap.size 5 1 (.slice (some ⟨w.heap.size, 0, none⟩) 64 64) (mkr l x 64).length (bys (mkr l x 64)) := by
        have hml : (mkr l x 64).length = 64 := by rw [← hll, mkr_full, List.length_map]
        rw [hml]
        exact ⟨by rw [bys_length, hml], .inr ⟨w.heap.size, 64, _, rfl, Nat.le_refl _, hrow, by omega, by unfold maxLen; omega, by simp [bys_length, hml], List.take_of_length_le (by show (bys (mkr l x 64)).length ≤ _; rw [bys_length, hml]; omega)⟩⟩
      have hcv := conv_own (src := 85) (dst := 9) Tryz.underlying85 Tryz.underlying5 Tryz.underlying9 hown
      have HB := Lib.hid hb
      clear hrow hb hR hBL hown
      go_wp2_with fail
      go_ret
      exact ⟨by rw [HF.out]; rfl, HB.out⟩
end Go.Proofs.YtjjdaelddicokaaGreatDoor
