/- What octet.value, Hex, Unhex and the reference's digit, Hex, Unhex return: Oct.val, Oct.hex, Oct.unhex. Conditions: the text is short enough for its digits to be counted. -/
import Derived.Test.YtmcafgimagpaaaaDoorShaTop
import Derived.Test.YtmcafgimagpaaaaDoorOctMath
import Derived.Deep.RegionLaw
import Derived.Deep.AppendLies
set_option linter.unusedVariables false
namespace Go.Proofs.YtmcafgimagpaaaaDoor
open Go.RowKit
theorem info5 : (Tryd.prog.info? 5).map (fun i => (i.zero, i.size, i.bytes)) = some (some (.int .u8 0), 1, 1) := by kernel_rfl
theorem size_list (s : ByteArray) : s.data.toList.length = s.size := by simp
abbrev DG : ByteArray := { data := #[48, 49, 50, 51, 52, 53, 54, 55, 56, 57, 97, 98, 99, 100, 101, 102] }
theorem dg_get (j : Nat) (h : j < 16) : DG[j]'h = Oct.dig j := by
  have : ∀ j : Fin 16, DG[j.val]'j.isLt = Oct.dig j.val := by decide
  exact this ⟨j, h⟩
theorem digs_yes (j : Nat) (h : j < 16) (c : UInt8) (hc : Oct.dig j = c) : (((DG[j]'h).toNat : Int) == (c.toNat : Int)) = true := by
  rw [dg_get j h, hc]; simp
theorem digs_no (j : Nat) (h : j < 16) (c : UInt8) (hc : ¬ Oct.dig j = c) : (((DG[j]'h).toNat : Int) == (c.toNat : Int)) = false := by
  rw [dg_get j h]
  refine beq_eq_false_iff_ne.2 fun e => hc ?_
  exact UInt8.toNat_inj.1 (by omega)
theorem val_is (j : Nat) (h : j < 16) (c : UInt8) (hc : Oct.dig j = c) : Oct.val c = j := by rw [← hc, Oct.val_dig j h]
theorem step_no (j : Nat) (c : UInt8) (hno : ∀ t, t < j → Oct.dig t ≠ c) (hc : ¬ Oct.dig j = c) : ∀ t, t < j + 1 → Oct.dig t ≠ c := by
  intro t ht
  rcases Nat.lt_or_ge t j with h | h
  · exact hno t h
  · obtain rfl : t = j := by omega
    exact hc
theorem val_none (c : UInt8) (hno : ∀ t, t < 16 → Oct.dig t ≠ c) : Oct.val c = -1 := by
  have hb := Oct.val_lt c
  rcases Int.lt_or_le (Oct.val c) 0 with h | h
  · omega
  · exact absurd (Oct.dig_val c (by omega)) (hno _ (by omega))

set_option maxHeartbeats 400000 in
theorem value_any (c : UInt8) (w : World) :
    Calls Tryd.prog 38 #[.int .u8 (c.toNat : Int)] w fun e w' => e = .returned (.int .i64 (Oct.val c)) ∧ w = w' := by
  go_enter Tryd.func38, Tryd.ntmps38
  go_wp2
  go_loop [4] (fun i => ∃ j : Nat, j ≤ 16 ∧ i = .int .i64 j ∧ ∀ t, t < j → Oct.dig t ≠ c) (fun i => 16 - (intOf i).toNat)
  case atStart => exact ⟨0, by omega, rfl, fun t h => by omega⟩
  case round =>
    obtain ⟨j, hj, rfl, hno⟩ := hrel
    have HNO := Lib.hid hno
    clear hno
    by_cases hlt : j < 16
    · by_cases hc : Oct.dig j = c
      · have hq := digs_yes j hlt c hc
        have HV := Lib.hid (val_is j hlt c hc)
        clear hc
        go_wp2
        go_ret
        exact ⟨by rw [HV.out]; rfl, rfl⟩
      · have hq := digs_no j hlt c hc
        have HN := Lib.hid (step_no j c HNO.out hc)
        clear hc
        go_wp2
        go_round
        case rel => exact ⟨j + 1, by omega, by go_num, HN.out⟩
        case measure => simp [intOf]; omega
    · obtain rfl : j = 16 := by omega
      have HV := Lib.hid (val_none c HNO.out)
      go_wp2
      go_ret
      exact ⟨by rw [HV.out]; rfl, rfl⟩

theorem take_snoc (l : List UInt8) (j : Nat) (h : j < l.length) : l.take (j + 1) = l.take j ++ [l[j]] := by
  rw [List.take_succ_eq_append_getElem h]

set_option maxHeartbeats 800000 in
theorem hex_any (s : ByteArray) (w : World) (hs : s.size ≤ 70368744177664) :
    Calls Tryd.prog 28 #[.string s] w fun e w' => e = .returned (.string (T (Oct.hex s.data.toList))) ∧ Below w.heap.size w w' := by
  obtain ⟨i0, hi, hz0, hz1, hz2⟩ := info_parts info5
  have hsl := size_list s
  go_enter Tryd.func28, Tryd.ntmps28
  go_wp2_with (at_make; refine wpList_make_own _ rfl _ _ 28 rfl w.heap.size 5 i0 (.int .u8 0) 1 Tryd.underlying28 hi hz0 hz1 _ _ _ (2 * s.size) rfl rfl (by omega) ?b1 ?b2 ?b3 ?_)
  case b1 => rw [hz2]; omega
  case b2 => unfold maxLen; omega
  case b3 => omega
  intro w1 hown hg
  go_wp2
  go_loopw [3, 11] (fun v i wr => ∃ j : Nat, j ≤ s.size ∧ i = .int .i64 j ∧ v = .slice (some ⟨w.heap.size, 0, none⟩) (2 * j) (2 * s.size) ∧ wr.ownsRow w.heap.size 5 1 (.slice (some ⟨w.heap.size, 0, none⟩) (2 * j) (2 * s.size)) (2 * j) (bys (Oct.hex (s.data.toList.take j))) ∧ Below w.heap.size w wr) (fun _ i _ => s.size - (intOf i).toNat)
  case atStart => exact ⟨0, by omega, rfl, rfl, by simpa [Oct.hex, bys] using hown, (Below.refl _ _).grown hg (Nat.le_refl _) (by simp)⟩
  case round =>
    obtain ⟨j, hj, rfl, rfl, hown, hb⟩ := hrel
    by_cases hlt : j < s.size
    · have hbb : (s[j].toNat : Int) < 256 := by have := UInt8.toNat_lt s[j]; omega
      have hq1 : (0 : Int) ≤ (s[j].toNat : Int) / 16 := by omega
      have hq2 : (s[j].toNat : Int) / 16 < 16 := by omega
      have hq3 : (0 : Int) ≤ (s[j].toNat : Int) % 16 := by omega
      have hq4 : (s[j].toNat : Int) % 16 < 16 := by omega
      have hq5 : bits BinOp.and IntKind.u8 (s[j].toNat : Int) 15 = (s[j].toNat : Int) % 16 := u8_and15 (x := (s[j].toNat : Int)) (Int.natCast_nonneg _) hbb
      have hi1 : ((s[j].toNat : Int) / 16).toNat < 16 := by omega
      have hi2 : ((s[j].toNat : Int) % 16).toNat < 16 := by omega
      have hroom : 2 * j + 2 ≤ 2 * s.size := by omega
      go_wp2
      go_region_law (refine step_append_fits (by rfl) _ _ _ (by rfl) w.heap.size 5 i0 1 Tryd.underlying28 hi hz1 w.heap.size (2 * j) (2 * s.size) _ (by rfl) ((hown.alloc _).drew) ⟨wr.heap.size, 0, none⟩ 2 2 (bys [DG[((s[j].toNat : Int) / 16).toNat]'hi1, DG[((s[j].toNat : Int) % 16).toNat]'hi2]) (by rfl) rfl (World.news_of_block (t := 5) (fr := (0, 0)) (heap_alloc_new wr _)) (bys_oneCell _) hroom ?_; intro w2 hown2 hgrow2)
      all_goals
        go_wp2
        go_roundw
        case rel =>
          refine ⟨j + 1, by omega, by go_num, rfl, ?_, ((hb.alloc hb.size _).drew).grown hgrow2 (Nat.le_trans hb.size (by simp)) (by simp)⟩
          have ht := take_snoc s.data.toList j (by rw [hsl]; exact hlt)
          rw [ht, Oct.hex_append, bys_append]
          have e : Oct.hex [s.data.toList[j]'(by rw [hsl]; exact hlt)] = [DG[((s[j].toNat : Int) / 16).toNat]'hi1, DG[((s[j].toNat : Int) % 16).toNat]'hi2] := by
            rw [dg_get _ hi1, dg_get _ hi2, Oct.hex, Oct.hex]
            have c1 : ((s[j].toNat : Int) / 16).toNat = s[j].toNat / 16 := by omega
            have c2 : ((s[j].toNat : Int) % 16).toNat = s[j].toNat % 16 := by omega
            rw [c1, c2]
            rfl
          rw [e]
          exact hown2
        case measure => simp [intOf]; omega
    · obtain rfl : j = s.size := by omega
      have hl : (Oct.hex s.data.toList).length = 2 * s.size := by rw [Oct.hex_length, hsl]
      rw [List.take_of_length_le (by rw [hsl]; exact Nat.le_refl _)] at hown
      have hcv := conv_own (src := 28) (dst := 9) Tryd.underlying28 Tryd.underlying5 Tryd.underlying9 (l := Oct.hex s.data.toList) (by rw [hl]; exact hown)
      have HL := Lib.hid hl
      clear hl
      go_wp2
      go_ret
      exact ⟨rfl, hb⟩
end Go.Proofs.YtmcafgimagpaaaaDoor
