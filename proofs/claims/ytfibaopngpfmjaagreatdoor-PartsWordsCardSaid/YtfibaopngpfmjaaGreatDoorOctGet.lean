/- What octet.Get and the reference's Get return: the number, the offset behind it and the error, as Oct.getN, Oct.getT, Oct.getE say. Conditions: the text is no longer than an int can say. -/
import Derived.Test.YtfibaopngpfmjaaGreatDoorKit
import Derived.Test.YtfibaopngpfmjaaGreatDoorOctMath
set_option linter.unusedVariables false
namespace Go.Proofs.YtfibaopngpfmjaaGreatDoor
open Go.RowKit

namespace Oct
theorem part_length (s : List UInt8) (at_ k : Nat) (h : at_ + k ≤ s.length) : (part s at_ k).length = k := by
  simp [part]; omega

theorem part_drop (s : List UInt8) (at_ k m : Nat) (h : at_ + k ≤ s.length) (h1 : 1 ≤ m) (h2 : m ≤ k) (hb : at_ + (m - 1) < s.length) :
    leVal ((part s at_ k).drop (m - 1)) = s[at_ + (m - 1)].toNat + 256 * leVal ((part s at_ k).drop m) := by
  have hl := part_length s at_ k h
  have e : (part s at_ k).drop (m - 1) = (part s at_ k)[m - 1]'(by omega) :: (part s at_ k).drop m := by
    rw [List.drop_eq_getElem_cons (by omega)]
    congr 2
    omega
  rw [e, leVal]
  congr 2
  simp [part]

theorem drop_lt (s : List UInt8) (at_ k m : Nat) (h : at_ + k ≤ s.length) : leVal ((part s at_ k).drop m) < 256 ^ (k - m) := by
  have := leVal_lt ((part s at_ k).drop m)
  rwa [List.length_drop, part_length s at_ k h] at this
end Oct

theorem or_byte (L b : Nat) (hb : b < 256) (hL : L < 72057594037927936) :
    bits BinOp.or IntKind.u64 (IntKind.u64.wrap ((L : Int) * 256)) (IntKind.u64.wrap (b : Int)) = ((b + 256 * L : Nat) : Int) := by
  have e1 : IntKind.u64.wrap ((L : Int) * 256) = ((L * 256 : Nat) : Int) := by
    simp [IntKind.wrap, IntKind.bits, IntKind.signed]; omega
  have e2 : IntKind.u64.wrap (b : Int) = (b : Int) := by
    simp [IntKind.wrap, IntKind.bits, IntKind.signed]; omega
  rw [e1, e2, u64_or_nat _ _ (by omega) (by omega), nat_join 8 (L * 256) b (by omega) (by omega)]
  congr 1
  omega

def GetSays (s : ByteArray) (at_ wd : Int) (w : World) (e : Ending) (w' : World) : Prop :=
  e = .returned (.tuple #[.int .i64 (Oct.getN s.data.toList at_ wd), .int .i64 (Oct.getT s.data.toList at_ wd), .int .i64 (Oct.getE s.data.toList at_ wd)]) ∧ w = w'

theorem get_says {s : ByteArray} {at_ wd E : Int} {w : World} (h : Oct.getE s.data.toList at_ wd = E) (hE : E ≠ 0) :
    GetSays s at_ wd w (.returned (.tuple #[.int .i64 0, .int .i64 0, .int .i64 E])) w := by
  unfold GetSays Oct.getN Oct.getT
  rw [h, if_neg hE, if_neg hE]; exact ⟨rfl, rfl⟩

theorem size_list (s : ByteArray) : s.data.toList.length = s.size := by simp

set_option maxHeartbeats 400000 in
theorem get_arg (s : ByteArray) (at_ wd : Int) (w : World) (hs : s.size ≤ 9223372036854775807) (h : wd < 1 ∨ 8 < wd ∨ at_ < 0 ∨ (s.size : Int) < at_) :
    Calls Tryz.prog 30 #[.string s, .int .i64 at_, .int .i64 wd] w (GetSays s at_ wd w) := by
  have hE : Oct.getE s.data.toList at_ wd = 1 := by unfold Oct.getE; rw [if_pos]; rw [size_list]; exact h
  have HF := Lib.hid (get_says (w := w) hE (by decide)); clear hE
  by_cases h1 : wd < 1
  · go_enter Tryz.func30, Tryz.ntmps30
    go_wp2
    go_ret3
    exact HF.out
  by_cases h2 : 8 < wd
  · go_enter Tryz.func30, Tryz.ntmps30
    go_wp2
    go_ret3
    exact HF.out
  by_cases h3 : at_ < 0
  · go_enter Tryz.func30, Tryz.ntmps30
    go_wp2
    go_ret3
    exact HF.out
  have h4 : (s.size : Int) < at_ := by omega
  go_enter Tryz.func30, Tryz.ntmps30
  go_wp2
  go_ret3
  exact HF.out

set_option maxHeartbeats 400000 in
theorem get_short (s : ByteArray) (at_ wd : Int) (w : World) (hs : s.size ≤ 9223372036854775807) (h1 : 1 ≤ wd) (h2 : wd ≤ 8) (h3 : 0 ≤ at_) (h4 : at_ ≤ s.size) (h5 : s.size - at_ < wd) :
    Calls Tryz.prog 30 #[.string s, .int .i64 at_, .int .i64 wd] w (GetSays s at_ wd w) := by
  have hE : Oct.getE s.data.toList at_ wd = 3 := by unfold Oct.getE; rw [size_list, if_neg (by omega), if_pos (by omega)]
  have HF := Lib.hid (get_says (w := w) hE (by decide)); clear hE
  go_enter Tryz.func30, Tryz.ntmps30
  go_wp2
  go_ret3
  exact HF.out

theorem get_fin (s : ByteArray) (at_ k : Nat) (w : World) (hk : 1 ≤ k) (hk2 : k ≤ 8) (h2 : at_ + k ≤ s.size) :
    GetSays s at_ k w (.returned (.tuple (if 9223372036854775807 < Oct.leVal (Oct.part s.data.toList at_ k) then #[.int .i64 0, .int .i64 0, .int .i64 5] else #[.int .i64 (Oct.leVal (Oct.part s.data.toList at_ k)), .int .i64 (at_ + k), .int .i64 0]))) w := by
  have hE : Oct.getE s.data.toList at_ k = if 9223372036854775807 < Oct.leVal (Oct.part s.data.toList at_ k) then 5 else 0 := by
    unfold Oct.getE; rw [size_list, if_neg (by omega), if_neg (by omega)]
    by_cases h : 9223372036854775807 < Oct.leVal (Oct.part s.data.toList at_ k)
    · rw [if_pos (by omega), if_pos h]
    · rw [if_neg (by omega), if_neg h]
  unfold GetSays Oct.getN Oct.getT
  rw [hE]
  by_cases h : 9223372036854775807 < Oct.leVal (Oct.part s.data.toList at_ k)
  · simp [h]
  · simp [h]

set_option maxHeartbeats 400000 in
theorem get_good (s : ByteArray) (at_ k : Nat) (w : World) (hk : 1 ≤ k) (hk2 : k ≤ 8) (hs : s.size ≤ 9223372036854775807) (h2 : at_ + k ≤ s.size) :
    Calls Tryz.prog 30 #[.string s, .int .i64 at_, .int .i64 k] w (GetSays s at_ k w) := by
  have hd : decide (s.size < at_) = false := by simp; omega
  have HF := Lib.hid (get_fin s at_ k w hk hk2 h2)
  have HL := size_list s
  go_enter Tryz.func30, Tryz.ntmps30
  go_wp2
  go_loop [9, 10] (fun n i => ∃ m : Nat, m ≤ k ∧ i = .int .i64 ((m : Int) - 1) ∧ n = .int .u64 (Oct.leVal ((Oct.part s.data.toList at_ k).drop m))) (fun _ i => (intOf i + 1).toNat)
  case atStart =>
    refine ⟨k, Nat.le_refl _, rfl, ?_⟩
    rw [List.drop_of_length_le (by rw [Oct.part_length _ _ _ (by rw [size_list]; exact h2)]; exact Nat.le_refl _)]
    rfl
  case round =>
    obtain ⟨m, hm, rfl, rfl⟩ := hrel
    by_cases hm0 : 1 ≤ m
    · have HD := Lib.hid (fun hb => Oct.part_drop s.data.toList at_ k m (by rw [size_list]; exact h2) hm0 hm hb)
      have HB := Lib.hid (Oct.drop_lt s.data.toList at_ k m (by rw [size_list]; exact h2))
      generalize (Oct.leVal ((Oct.part s.data.toList at_ k).drop m)) = L at *
      go_wp2
      go_round
      case rel =>
        refine ⟨m - 1, by omega, ?_, ?_⟩
        · rw [show ((m - 1 : Nat) : Int) = (m : Int) - 1 from by omega]
        · have hb : at_ + (m - 1) < s.data.toList.length := by rw [size_list]; omega
          have hB := HB.out
          have hp : 256 ^ (k - m) ≤ 256 ^ 7 := Nat.pow_le_pow_right (by omega) (by omega)
          rw [HD.out hb, ← or_byte L _ (UInt8.toNat_lt _) (by omega)]
          rfl
      case measure => simp [intOf]; omega
    · obtain rfl : m = 0 := by omega
      rw [List.drop_zero]
      generalize hL : (Oct.leVal (Oct.part s.data.toList at_ k)) = L at *
      clear hL
      by_cases hbig : 9223372036854775807 < L
      · have hbi : (9223372036854775807 : Int) < L := by omega
        go_wp2
        go_ret3
        have := HF.out
        rw [if_pos hbig] at this
        exact this
      · have hbi : ¬ (9223372036854775807 : Int) < L := by omega
        go_wp2
        go_ret3
        have := HF.out
        rw [if_neg hbig] at this
        exact this

/-- octet.Get, whatever it is given. -/
theorem get_any (s : ByteArray) (at_ wd : Int) (w : World) (hs : s.size ≤ 9223372036854775807) :
    Calls Tryz.prog 30 #[.string s, .int .i64 at_, .int .i64 wd] w (GetSays s at_ wd w) := by
  by_cases h : wd < 1 ∨ 8 < wd ∨ at_ < 0 ∨ (s.size : Int) < at_
  · exact get_arg s at_ wd w hs h
  · by_cases h5 : s.size - at_ < wd
    · exact get_short s at_ wd w hs (by omega) (by omega) (by omega) (by omega) h5
    · obtain ⟨k, rfl⟩ := Int.eq_ofNat_of_zero_le (show 0 ≤ wd by omega)
      obtain ⟨a, rfl⟩ := Int.eq_ofNat_of_zero_le (show 0 ≤ at_ by omega)
      exact get_good s a k w (by omega) (by omega) hs (by omega)
end Go.Proofs.YtfibaopngpfmjaaGreatDoor
