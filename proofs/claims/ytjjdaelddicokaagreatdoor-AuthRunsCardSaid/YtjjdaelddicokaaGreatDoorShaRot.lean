/- What hash.right, hash.word and the reference's rotr return: Sha.ror, Sha.wrd. Conditions: a word, a count from 1 to 31, four bytes. -/
import Derived.Test.YtjjdaelddicokaaGreatDoorPure
import Derived.Test.YtjjdaelddicokaaGreatDoorShaMath
set_option linter.unusedVariables false
namespace Go.Proofs.YtjjdaelddicokaaGreatDoor
open Go.RowKit
theorem neg_and (n m : Nat) (h : n + m = 32) (h1 : 1 ≤ n) (h2 : n ≤ 31) : bits BinOp.and IntKind.u64 (IntKind.u64.wrap (-(n : Int))) 31 = (m : Int) := by
  have e1 : IntKind.u64.wrap (-(n : Int)) = ((18446744073709551616 - n : Nat) : Int) := by
    rw [IntKind.wrap_u64]; omega
  have e2 : (31 : Int) = ((31 : Nat) : Int) := rfl
  rw [e1, e2, u64_and_nat _ _ (by omega) (by omega), nat_mask5]
  congr 1
  omega
theorem ror_bits (x n m : Nat) (hx : x < 4294967296) (h : n + m = 32) (h1 : 1 ≤ n) (h2 : n ≤ 31) : bits BinOp.or IntKind.u32 ((x : Int) * 2 ^ m % 4294967296) ((x : Int) / 2 ^ (32 - m)) = ((Sha.ror x n : Nat) : Int) := by
  obtain rfl : m = 32 - n := by omega
  have e0 : 32 - (32 - n) = n := by omega
  rw [e0]
  have e1 : (x : Int) / 2 ^ n = ((x / 2 ^ n : Nat) : Int) := by rw [Int.natCast_ediv, Int.natCast_pow]; rfl
  have e2 : (x : Int) * 2 ^ (32 - n) % 4294967296 = ((x * 2 ^ (32 - n) % 4294967296 : Nat) : Int) := by rw [Int.natCast_emod, Int.natCast_mul, Int.natCast_pow]; rfl
  have l1 : x / 2 ^ n < 4294967296 := Nat.lt_of_le_of_lt (Nat.div_le_self _ _) hx
  rw [e1, e2, u32_or_nat _ _ (Nat.mod_lt _ (by omega)) l1]
  rfl
set_option maxHeartbeats 400000 in
theorem rot_at (x n m : Nat) (w : World) (hx : x < 4294967296) (h : n + m = 32) (h1 : 1 ≤ n) (h2 : n ≤ 31) :
    Calls Tryz.prog 103 #[.int .u32 (x : Int), .int .i64 (-(n : Int))] w fun e w' => e = .returned (.int .u32 (Sha.ror x n : Nat)) ∧ w = w' := by
  have hb := neg_and n m h h1 h2
  have H := Lib.hid h
  have hm : m ≤ 31 := by omega
  have hm1 : 1 ≤ m := by omega
  clear h
  go_enter Tryz.func103, Tryz.ntmps103
  go_wp2
  go_ret
  exact ⟨by rw [← ror_bits x n m hx H.out h1 h2]; rfl, rfl⟩

set_option maxHeartbeats 400000 in
theorem right_any (x n : Nat) (w : World) (hx : x < 4294967296) (h1 : 1 ≤ n) (h2 : n ≤ 31) :
    Calls Tryz.prog 100 #[.int .u32 (x : Int), .int .i64 (n : Int)] w fun e w' => e = .returned (.int .u32 (Sha.ror x n : Nat)) ∧ w = w' := by
  have HC := Lib.hid (fun w => rot_at x n (32 - n) w hx (by omega) h1 h2)
  go_enter Tryz.func100, Tryz.ntmps100
  go_wp2_with fail
  refine (HC.out _).mono ?_; rintro e w' ⟨rfl, rfl⟩
  go_wp2_with fail
  go_ret
  exact ⟨rfl, rfl⟩

theorem rotr_bits (x n : Nat) (hx : x < 4294967296) (h1 : 1 ≤ n) (h2 : n ≤ 31) : bits BinOp.or IntKind.u32 ((x : Int) / 2 ^ n) ((x : Int) * 2 ^ (32 - n) % 4294967296) = ((Sha.ror x n : Nat) : Int) := by
  have e1 : (x : Int) / 2 ^ n = ((x / 2 ^ n : Nat) : Int) := by rw [Int.natCast_ediv, Int.natCast_pow]; rfl
  have e2 : (x : Int) * 2 ^ (32 - n) % 4294967296 = ((x * 2 ^ (32 - n) % 4294967296 : Nat) : Int) := by rw [Int.natCast_emod, Int.natCast_mul, Int.natCast_pow]; rfl
  have l1 : x / 2 ^ n < 4294967296 := Nat.lt_of_le_of_lt (Nat.div_le_self _ _) hx
  rw [e1, e2, u32_or_nat _ _ l1 (Nat.mod_lt _ (by omega)), Nat.or_comm]
  rfl

set_option maxHeartbeats 400000 in
theorem rotr_any (x n : Nat) (w : World) (hx : x < 4294967296) (h1 : 1 ≤ n) (h2 : n ≤ 31) :
    Calls Tryz.prog 92 #[.int .u32 (x : Int), .int .i64 (n : Int)] w fun e w' => e = .returned (.int .u32 (Sha.ror x n : Nat)) ∧ ∃ m, w' = w.drewN m := by
  have hw : IntKind.i64.wrap (32 - (n : Int)) = 32 - (n : Int) := IntWalk.i64_in _ (by omega)
  have hn : (0 : Int) ≤ 32 - (n : Int) := by omega
  go_enter Tryz.func92, Tryz.ntmps92
  go_wp2
  go_quiet (fail)
  go_wp2
  go_ret
  exact ⟨by rw [← rotr_bits x n hx h1 h2]; rfl, _, rfl⟩

theorem wrd_bits (b0 b1 b2 b3 : UInt8) : bits BinOp.or IntKind.u32 (bits BinOp.or IntKind.u32 (bits BinOp.or IntKind.u32 ((b0.toNat : Int) % 4294967296 * 16777216 % 4294967296) ((b1.toNat : Int) % 4294967296 * 65536 % 4294967296)) ((b2.toNat : Int) % 4294967296 * 256 % 4294967296)) ((b3.toNat : Int) % 4294967296) = ((Sha.wrd b0 b1 b2 b3 : Nat) : Int) := by
  have h0 := b0.toNat_lt; have h1 := b1.toNat_lt; have h2 := b2.toNat_lt; have h3 := b3.toNat_lt
  have e0 : (b0.toNat : Int) % 4294967296 * 16777216 % 4294967296 = ((b0.toNat * 16777216 : Nat) : Int) := by omega
  have e1 : (b1.toNat : Int) % 4294967296 * 65536 % 4294967296 = ((b1.toNat * 65536 : Nat) : Int) := by omega
  have e2 : (b2.toNat : Int) % 4294967296 * 256 % 4294967296 = ((b2.toNat * 256 : Nat) : Int) := by omega
  have e3 : (b3.toNat : Int) % 4294967296 = ((b3.toNat : Nat) : Int) := by omega
  rw [e0, e1, e2, e3, u32_or_nat _ _ (by omega) (by omega), u32_or_nat _ _ (Sha.or_lt (by omega) (by omega)) (by omega), u32_or_nat _ _ (Sha.or_lt (Sha.or_lt (by omega) (by omega)) (by omega)) (by omega)]
  rfl

set_option maxHeartbeats 400000 in
theorem word_any (s : ByteArray) (w : World) (h : 4 ≤ s.size) (hs : s.size ≤ 9223372036854775807) :
    Calls Tryz.prog 102 #[.string s] w fun e w' => e = .returned (.int .u32 ((Sha.wrd (s[0]'(by omega)) (s[1]'(by omega)) (s[2]'(by omega)) (s[3]'(by omega)) : Nat) : Int)) ∧ ∃ m, w' = w.drewN m := by
  have i0 : (0 : Int) < s.size := by omega
  have j0 : 0 < s.size := by omega
  have j1 : 1 < s.size := by omega
  have i1 : (1 : Int) < s.size := by omega
  have i2 : (2 : Int) < s.size := by omega
  have i3 : (3 : Int) < s.size := by omega
  go_enter Tryz.func102, Tryz.ntmps102
  go_wp2
  go_quiet (fail)
  go_wp2
  go_ret
  exact ⟨by rw [← wrd_bits]; rfl, _, rfl⟩
end Go.Proofs.YtjjdaelddicokaaGreatDoor
