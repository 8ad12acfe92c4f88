/- What the reference's combined and Mac return: Sha.msk, Sha.mac. Conditions: texts of at most 10^6 bytes. -/
import Derived.Test.YtjjdaelddicokaaGreatDoorRefSum
set_option linter.unusedVariables false
set_option linter.unusedSimpArgs false
namespace Go.Proofs.YtjjdaelddicokaaGreatDoor
open Go.RowKit
def mskj (l : List UInt8) (x : UInt8) (j : Nat) : List UInt8 := (Sha.msk l x).take j
theorem mskj_len (l : List UInt8) (x : UInt8) (j : Nat) (h : j ≤ 64) : (mskj l x j).length = j := by unfold mskj; rw [List.length_take, Sha.msk_length]; omega
theorem mskj_end (l : List UInt8) (x : UInt8) : mskj l x 64 = Sha.msk l x := by unfold mskj; rw [List.take_of_length_le (by rw [Sha.msk_length]; exact Nat.le_refl _)]
theorem mskj_in (l : List UInt8) (x : UInt8) (j : Nat) (h : j < 64) (hl : j < l.length) : mskj l x (j + 1) = mskj l x j ++ [l[j] ^^^ x] := by
  have hm : j < (Sha.msk l x).length := by rw [Sha.msk_length]; exact h
  unfold mskj
  rw [List.take_succ_eq_append_getElem hm]
  have e : (Sha.msk l x)[j]'hm = l[j] ^^^ x := by
    have h1 : (Sha.msk l x)[j]? = some (l[j] ^^^ x) := by
      unfold Sha.msk
      rw [List.getElem?_map, List.getElem?_take_of_lt h, List.getElem?_append_left hl, List.getElem?_eq_getElem hl]
      rfl
    rw [List.getElem?_eq_getElem hm] at h1
    exact Option.some.inj h1
  rw [e]
theorem mskj_out (l : List UInt8) (x : UInt8) (j : Nat) (h : j < 64) (hl : l.length ≤ j) : mskj l x (j + 1) = mskj l x j ++ [x] := by
  have hm : j < (Sha.msk l x).length := by rw [Sha.msk_length]; exact h
  unfold mskj
  rw [List.take_succ_eq_append_getElem hm]
  have e : (Sha.msk l x)[j]'hm = x := by
    have h1 : (Sha.msk l x)[j]? = some x := by
      unfold Sha.msk
      rw [List.getElem?_map, List.getElem?_take_of_lt h, List.getElem?_append_right hl, List.getElem?_replicate, if_pos (by omega)]
      simp
    rw [List.getElem?_eq_getElem hm] at h1
    exact Option.some.inj h1
  rw [e]
theorem xor_u8 (a x : UInt8) (z : Int) (hz : z = (x.toNat : Int)) : bits .xor .u8 (a.toNat : Int) z = ((a ^^^ x).toNat : Int) := by
  rw [hz, u8_xor_nat _ _ a.toNat_lt x.toNat_lt, UInt8.toNat_xor]
set_option maxRecDepth 20000 in
set_option maxHeartbeats 2000000 in
theorem rmsk_any (s : ByteArray) (x : UInt8) (z : Int) (hz : z = (x.toNat : Int)) (w : World) (hs : s.size ≤ 1000000) :
    Calls Tryz.prog 72 #[.string s, .int .u8 z] w fun e w' => e = .returned (.string (T (Sha.msk s.data.toList x))) ∧ Below w.heap.size w w' := by
  obtain ⟨i0, hi, hz0, hz1, hz2⟩ := info_parts (P := Tryz.prog) (e := 5) (z := .int .u8 0) (size := 1) (bytes := 1) (by kernel_rfl)
  have HB0 := Lib.hid (Below.refl w.heap.size w)
  have HZ := Lib.hid hz
  clear hz
  go_enter Tryz.func72, Tryz.ntmps72
  go_wp2_with fail
  go_loopw [5, 6] (fun v i wr => ∃ j : Nat, j ≤ 64 ∧ i = .int .i64 (j : Int) ∧ wr.ownsRow w.heap.size 5 1 v j (bys (mskj s.data.toList x j)) ∧ Below w.heap.size w wr) (fun _ i _ => 64 - (intOf i).toNat)
  case atStart => exact ⟨0, by omega, rfl, World.ownsRow_nil _ _ _ _, HB0.out⟩
  case round =>
    clear HB0
    obtain ⟨j, hj, rfl, hown, hb⟩ := hrel
    by_cases hlt : j < 64
    · by_cases hin : j < s.size
      · have HS := Lib.hid (show mskj s.data.toList x (j + 1) = mskj s.data.toList x j ++ [s[j] ^^^ x] from mskj_in s.data.toList x j hlt (by simpa using hin))
        have HX := Lib.hid (xor_u8 s[j] x z HZ.out)
        go_wp2_with (at_builtin; refine wpList_append_own _ rfl _ _ 85 rfl w.heap.size 5 i0 (.int .u8 0) 1 1 Tryz.underlying85 hi hz0 hz1 hz2 rfl (by decide) _ _ _ rfl (hown.alloc _) ⟨wr.heap.size, 0, none⟩ 1 1 (bys [s[j] ^^^ x]) rfl rfl ?c1 ?c2 ?c3 ?c4 ?c5 ?_)
        case c1 => rw [show bys [s[j] ^^^ x] = [.int .u8 (bits .xor .u8 (s[j].toNat : Int) z)] from by rw [HX.out]; rfl]; exact World.news_of_block (t := 5) (fr := (0, 0)) (heap_alloc_new wr _)
        case c2 => exact bys_oneCell _
        case c3 => unfold maxLen; omega
        case c4 => omega
        case c5 => exact Nat.le_trans hb.size (by simp)
        intro v' w6 hown6 hgrow6 _
        have hb6 : Below w.heap.size w w6 := (hb.alloc hb.size _).grown hgrow6 (Nat.le_trans hb.size (by simp)) (fun k hk => (hown.lt k hk).1)
        rw [← bys_append, ← HS.out] at hown6
        have HO6 := Lib.hid hown6
        have HB6 := Lib.hid hb6
        clear hgrow6 hown hb hown6 hb6
        go_wp2_with fail
        go_roundw
        case rel => exact ⟨j + 1, by omega, by go_num, HO6.out, HB6.out⟩
        case measure => simp [intOf]; omega
      · have HS := Lib.hid (show mskj s.data.toList x (j + 1) = mskj s.data.toList x j ++ [x] from mskj_out s.data.toList x j hlt (by simp; omega))
        have HX := Lib.hid (show bits .xor .u8 0 z = ((x : UInt8).toNat : Int) from by have h := xor_u8 0 x z HZ.out; simpa using h)
        have hni : (s.size : Int) ≤ j := by omega
        go_wp2_with (at_builtin; refine wpList_append_own _ rfl _ _ 85 rfl w.heap.size 5 i0 (.int .u8 0) 1 1 Tryz.underlying85 hi hz0 hz1 hz2 rfl (by decide) _ _ _ rfl (hown.alloc _) ⟨wr.heap.size, 0, none⟩ 1 1 (bys [x]) rfl rfl ?d1 ?d2 ?d3 ?d4 ?d5 ?_)
        case d1 => rw [show bys [x] = [.int .u8 (bits .xor .u8 0 z)] from by rw [HX.out]; rfl]; exact World.news_of_block (t := 5) (fr := (0, 0)) (heap_alloc_new wr _)
        case d2 => exact bys_oneCell _
        case d3 => unfold maxLen; omega
        case d4 => omega
        case d5 => exact Nat.le_trans hb.size (by simp)
        intro v' w6 hown6 hgrow6 _
        have hb6 : Below w.heap.size w w6 := (hb.alloc hb.size _).grown hgrow6 (Nat.le_trans hb.size (by simp)) (fun k hk => (hown.lt k hk).1)
        rw [← bys_append, ← HS.out] at hown6
        have HO6 := Lib.hid hown6
        have HB6 := Lib.hid hb6
        clear hgrow6 hown hb hown6 hb6
        go_wp2_with fail
        go_roundw
        case rel => exact ⟨j + 1, by omega, by go_num, HO6.out, HB6.out⟩
        case measure => simp [intOf]; omega
    · obtain rfl : j = 64 := by omega
      have HE := Lib.hid (mskj_end s.data.toList x)
      have hcv := conv_own (src := 85) (dst := 9) Tryz.underlying85 Tryz.underlying5 Tryz.underlying9 (l := mskj s.data.toList x 64) (by rw [mskj_len _ _ _ (by omega)]; exact hown)
      have HB := Lib.hid hb
      clear hown hb
      go_wp2_with fail
      go_ret
      exact ⟨by rw [← HE.out]; rfl, HB.out⟩
theorem rmsk_T (l : List UInt8) (x : UInt8) (z : Int) (hz : z = (x.toNat : Int)) (w : World) (hs : l.length ≤ 1000000) :
    Calls Tryz.prog 72 #[.string (T l), .int .u8 z] w fun e w' => e = .returned (.string (T (Sha.msk l x))) ∧ Below w.heap.size w w' :=
  rmsk_any (T l) x z hz w (by rw [T_size]; exact hs)
set_option maxRecDepth 100000 in
set_option maxHeartbeats 1000000 in
theorem rmac_T (k s : List UInt8) (w : World) (hk : k.length ≤ 1000000) (hs : s.length ≤ 1000000) :
    Calls Tryz.prog 60 #[.string (T k), .string (T s)] w fun e w' => e = .returned (.string (T (Sha.mac k s))) ∧ Below w.heap.size w w' := by
  have HS := Lib.hid hs
  clear hs
  by_cases h64 : 64 < k.length
  · have hi : (64 : Int) < (k.length : Int) := by omega
    have HF := Lib.hid (show Sha.mac k s = Sha.sum (Sha.msk (Sha.sum k) 92 ++ Sha.sum (Sha.msk (Sha.sum k) 54 ++ s)) from by unfold Sha.mac Sha.key; rw [if_pos h64])
    have b1 : (Sha.msk (Sha.sum k) 54).length + s.length ≤ 9223372036854775807 := by rw [Sha.msk_length]; have := HS.out; omega
    have b2 : (Sha.msk (Sha.sum k) 92).length + (Sha.sum (Sha.msk (Sha.sum k) 54 ++ s)).length ≤ 9223372036854775807 := by rw [Sha.msk_length, Sha.sum_length]; omega
    go_enter Tryz.func60, Tryz.ntmps60
    go_wp2_with fail
    refine (rsum_T k w (by omega)).mono ?_; rintro e w1 ⟨rfl, h1⟩
    go_wp2_with fail
    refine (rmsk_T (Sha.sum k) 92 92 rfl w1 (by rw [Sha.sum_length]; omega)).mono ?_; rintro e w2 ⟨rfl, h2⟩
    replace h2 := bnext h1 h2
    clear h1
    go_wp2_with fail
    refine (rmsk_T (Sha.sum k) 54 54 rfl w2 (by rw [Sha.sum_length]; omega)).mono ?_; rintro e w3 ⟨rfl, h3⟩
    replace h3 := bnext h2 h3
    clear h2
    go_wp2_with fail
    try rw [T_append]
    refine (rsum_T _ w3 (by rw [List.length_append, Sha.msk_length]; have := HS.out; omega)).mono ?_; rintro e w4 ⟨rfl, h4⟩
    replace h4 := bnext h3 h4
    clear h3
    go_wp2_with fail
    try rw [T_append]
    refine (rsum_T _ w4 (by rw [List.length_append, Sha.msk_length, Sha.sum_length]; omega)).mono ?_; rintro e w5 ⟨rfl, h5⟩
    replace h5 := bnext h4 h5
    clear h4
    go_wp2_with fail
    go_ret
    exact ⟨by rw [HF.out]; rfl, h5⟩
  · have hi : (k.length : Int) ≤ 64 := by omega
    have HF := Lib.hid (show Sha.mac k s = Sha.sum (Sha.msk k 92 ++ Sha.sum (Sha.msk k 54 ++ s)) from by unfold Sha.mac Sha.key; rw [if_neg h64])
    have b1 : (Sha.msk k 54).length + s.length ≤ 9223372036854775807 := by rw [Sha.msk_length]; have := HS.out; omega
    have b2 : (Sha.msk k 92).length + (Sha.sum (Sha.msk k 54 ++ s)).length ≤ 9223372036854775807 := by rw [Sha.msk_length, Sha.sum_length]; omega
    go_enter Tryz.func60, Tryz.ntmps60
    go_wp2_with fail
    refine (rmsk_T k 92 92 rfl w (by omega)).mono ?_; rintro e w2 ⟨rfl, h2⟩
    go_wp2_with fail
    refine (rmsk_T k 54 54 rfl w2 (by omega)).mono ?_; rintro e w3 ⟨rfl, h3⟩
    replace h3 := bnext h2 h3
    clear h2
    go_wp2_with fail
    try rw [T_append]
    refine (rsum_T _ w3 (by rw [List.length_append, Sha.msk_length]; have := HS.out; omega)).mono ?_; rintro e w4 ⟨rfl, h4⟩
    replace h4 := bnext h3 h4
    clear h3
    go_wp2_with fail
    try rw [T_append]
    refine (rsum_T _ w4 (by rw [List.length_append, Sha.msk_length, Sha.sum_length]; omega)).mono ?_; rintro e w5 ⟨rfl, h5⟩
    replace h5 := bnext h4 h5
    clear h4
    go_wp2_with fail
    go_ret
    exact ⟨by rw [HF.out]; rfl, h5⟩
end Go.Proofs.YtjjdaelddicokaaGreatDoor
