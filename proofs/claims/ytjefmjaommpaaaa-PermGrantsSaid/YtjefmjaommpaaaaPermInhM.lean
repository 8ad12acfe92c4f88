/- The plain law of Inherit: the permissions that a mode loses are counted bit by bit, or struck all at once. Conditions: those that each fact names. -/
import Derived.Test.YtjefmjaommpaaaaPermMath
import Derived.Test.YtjefmjaommpaaaaBits64
namespace Go.Proofs.Ytjefmjaommpaaaa
namespace Prm
/-- What is struck: the bits of the mask that the directory lacks. -/
def cutX (k d : Nat) : Nat := k &&& (18446744073709551615 - d)
def inhN (k d m : Nat) : Nat := m &&& (18446744073709551615 - cutX k d)
theorem cutX_le (k d : Nat) : cutX k d ≤ k := Nat.and_le_left
theorem bit_compl (x i : Nat) (h : x < 18446744073709551616) : (18446744073709551615 - x).testBit i = (decide (i < 64) && !x.testBit i) := by
  have := Nat.testBit_two_pow_sub_succ (n := 64) (x := x) (by omega) i
  rw [show 2 ^ 64 - (x + 1) = 18446744073709551615 - x from by omega] at this
  exact this
theorem inhN_bit (k d m i : Nat) (hk : k < 512) (hd : d < 18446744073709551616) (hm : m < 18446744073709551616) : (inhN k d m).testBit i = (m.testBit i && !(k.testBit i && !d.testBit i)) := by
  have hx := cutX_le k d
  unfold inhN
  rw [Nat.testBit_and, bit_compl _ _ (by omega)]
  unfold cutX
  rw [Nat.testBit_and, bit_compl _ _ hd]
  by_cases h64 : i < 64
  · simp [h64]
  · have : m.testBit i = false := Nat.testBit_lt_two_pow (Nat.lt_of_lt_of_le hm (Nat.pow_le_pow_right (n := 2) (i := 64) (by decide) (by omega)))
    rw [this]; simp
theorem inhN_le (k d m : Nat) : inhN k d m ≤ m := Nat.and_le_left
theorem inhN_or (k d m : Nat) : inhN k d m ||| m = m := by
  apply Nat.eq_of_testBit_eq
  intro i
  unfold inhN
  rw [Nat.testBit_or, Nat.testBit_and]
  cases m.testBit i <;> simp
theorem inhN_idem (k d m : Nat) : inhN k d (inhN k d m) = inhN k d m := by
  unfold inhN
  rw [Nat.and_assoc, Nat.and_self]
theorem inhN_hi (k d m : Nat) (hk : k < 512) (hd : d < 18446744073709551616) (hm : m < 18446744073709551616) : inhN k d m / 512 = m / 512 := by
  rw [show 512 = 2 ^ 9 from rfl, ← Nat.shiftRight_eq_div_pow, ← Nat.shiftRight_eq_div_pow]
  apply Nat.eq_of_testBit_eq
  intro i
  rw [Nat.testBit_shiftRight, Nat.testBit_shiftRight, inhN_bit k d m _ hk hd hm]
  have : k.testBit (9 + i) = false := Nat.testBit_lt_two_pow (Nat.lt_of_lt_of_le hk (Nat.pow_le_pow_right (n := 2) (i := 9) (by decide) (by omega)))
  rw [this]; simp
/-- What the reference takes away, bit by bit. -/
def sub1 (k d m i : Nat) : Nat := if m.testBit i && (k.testBit i && !d.testBit i) then 2 ^ i else 0
def subs (k d m : Nat) : Nat → Nat
  | 0 => 0
  | n + 1 => subs k d m n + sub1 k d m n
theorem mod_succ (x n : Nat) : x % 2 ^ (n + 1) = x % 2 ^ n + 2 ^ n * (x.testBit n).toNat := by
  rw [Nat.mod_pow_succ, Nat.testBit_eq_decide_div_mod_eq]
  congr 2
  have : x / 2 ^ n % 2 = 0 ∨ x / 2 ^ n % 2 = 1 := by omega
  rcases this with h | h <;> simp [h]
theorem low_subs (k d m : Nat) (hk : k < 512) (hd : d < 18446744073709551616) (hm : m < 18446744073709551616) : ∀ n, inhN k d m % 2 ^ n + subs k d m n = m % 2 ^ n := by
  intro n
  induction n with
  | zero => simp [subs, Nat.mod_one]
  | succ n ih =>
    rw [subs, mod_succ, mod_succ, inhN_bit k d m n hk hd hm]
    unfold sub1
    cases m.testBit n <;> cases k.testBit n <;> cases d.testBit n <;> simp <;> omega
theorem inhN_subs (k d m : Nat) (hk : k < 512) (hd : d < 18446744073709551616) (hm : m < 18446744073709551616) : inhN k d m + subs k d m 9 = m := by
  have h1 := low_subs k d m hk hd hm 9
  have h2 := inhN_hi k d m hk hd hm
  rw [show (2 : Nat) ^ 9 = 512 from rfl] at h1
  omega
theorem subs_le (k d m n : Nat) (hk : k < 512) (hd : d < 18446744073709551616) (hm : m < 18446744073709551616) : subs k d m n ≤ m := by
  have h1 := low_subs k d m hk hd hm n
  have := Nat.mod_le m (2 ^ n)
  omega
/-- Inherit, whatever it is given. -/
def kmask (m : Int) : Nat := if bit m 2147483648 then 511 else 438
def inh (d m : Int) : Int := if d < 0 ∨ m < 0 then 0 else ((inhN (kmask m) d.toNat m.toNat : Nat) : Int)
theorem inh_neg {d m : Int} (h : d < 0 ∨ m < 0) : inh d m = 0 := if_pos h
theorem inh_nat (d m : Nat) : inh d m = ((inhN (kmask m) d m : Nat) : Int) := by
  unfold inh; rw [if_neg (by omega)]; simp
theorem kmask_lt (m : Int) : kmask m < 512 := by unfold kmask; split <;> omega
theorem inh_bits (k d m : Nat) (hk : k < 512) (hd : d < 9223372036854775808) (hm : m < 9223372036854775808) : bits .andNot .i64 (m : Int) (bits .andNot .i64 (k : Int) (d : Int)) = ((inhN k d m : Nat) : Int) := by
  have hx := cutX_le k d
  rw [i64_andNot_nat k d (by omega) hd]
  exact i64_andNot_nat m (cutX k d) hm (by omega)
theorem bit_big (m m' : Int) (c : Int) (h0 : 0 ≤ m) (h0' : 0 ≤ m') (h : m' / 512 = m / 512) : bit m' (512 * c) = bit m (512 * c) := by
  unfold bit
  rw [← Int.ediv_ediv_of_nonneg (by decide), ← Int.ediv_ediv_of_nonneg (by decide), h]
  simp [h0, h0']
theorem testBit_bit (m i : Nat) : bit (m : Int) ((2 ^ i : Nat) : Int) = m.testBit i := by
  unfold bit
  have e : ((m : Int) / ((2 ^ i : Nat) : Int) % 2 == 1) = (m / 2 ^ i % 2 == 1) := by
    rw [Bool.eq_iff_iff, beq_iff_eq, beq_iff_eq]
    omega
  rw [e, Nat.testBit_eq_decide_div_mod_eq, Bool.eq_iff_iff]
  simp
end Prm
end Go.Proofs.Ytjefmjaommpaaaa
