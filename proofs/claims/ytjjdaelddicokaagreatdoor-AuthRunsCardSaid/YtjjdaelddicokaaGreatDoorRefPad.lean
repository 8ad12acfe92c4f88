/- What the reference's big, padded and constants return. Conditions: a text of at most 10^9 bytes. -/
import Derived.Test.YtjjdaelddicokaaGreatDoorShaTopM
set_option linter.unusedVariables false
set_option linter.unusedSimpArgs false
namespace Go.Proofs.YtjjdaelddicokaaGreatDoor
open Go.RowKit
namespace Sha
theorem be_low (k : Nat) : ∀ n : Nat, be (k + 1) n = UInt8.ofNat (n / 256 ^ k) :: be k n := by
  induction k with
  | zero => intro n; simp [be]
  | succ k ih =>
    intro n
    rw [be, ih (n / 256), be, List.cons_append, Nat.div_div_eq_div_mul, Nat.pow_succ, Nat.mul_comm 256]
end Sha
theorem byte_of (x : Nat) : (x : Int) % 256 = ((UInt8.ofNat x).toNat : Int) := by rw [UInt8.toNat_ofNat']; omega
set_option maxHeartbeats 1000000 in
theorem rbig_any (x n : Nat) (hx : x < 18446744073709551616) (hn : n ≤ 100) (w : World) :
    Calls Tryz.prog 84 #[.int .u64 (x : Int), .int .i64 (n : Int)] w fun e w' => e = .returned (.string (T (Sha.be n x))) ∧ Below w.heap.size w w' := by
  have HB := Lib.hid (Below.refl w.heap.size w)
  go_enter Tryz.func84, Tryz.ntmps84
  go_wp2_with fail
  go_loopw [0, 5, 6] (fun y s i wr => ∃ k : Nat, k ≤ n ∧ i = .int .i64 (k : Int) ∧ s = .string (T (Sha.be k x)) ∧ y = .int .u64 ((x / 256 ^ k : Nat) : Int) ∧ Below w.heap.size w wr) (fun _ _ i _ => n - (intOf i).toNat)
  case atStart => exact ⟨0, by omega, rfl, rfl, by simp, HB.out⟩
  case round =>
    obtain ⟨k, hk, rfl, rfl, rfl, hb⟩ := hrel
    by_cases hlt : k < n
    · have HL := Lib.hid (Sha.be_low k x)
      have hlen : (Sha.be k x).length = k := Sha.be_length k x
      have hq : x / 256 ^ k < 18446744073709551616 := Nat.lt_of_le_of_lt (Nat.div_le_self _ _) hx
      have HQ := Lib.hid (show x / 256 ^ (k + 1) = x / 256 ^ k / 256 from by rw [Nat.pow_succ, Nat.div_div_eq_div_mul])
      generalize x / 256 ^ k = q at *
      have HN := Lib.hid (byte_of q)
      have hqi : (q : Int) < 18446744073709551616 := by omega
      have hcv : (convert 85 9 (.slice (some ⟨wr.heap.size, 0, none⟩) 1 1)).run Tryz.prog (wr.alloc (.cells #[.int .u8 ((q : Int) % 256)] 5)) = .ok (.string (T [UInt8.ofNat q])) (wr.alloc (.cells #[.int .u8 ((q : Int) % 256)] 5)) := by
        refine run_convert_bytes_back _ 85 9 5 ⟨wr.heap.size, 0, none⟩ 1 [UInt8.ofNat q] Tryz.underlying85 Tryz.underlying5 Tryz.underlying9 fun j hj => ?_
        have hj0 : j = 0 := by simpa using hj
        subst hj0
        rw [HN.out]
        exact (cell_of_row _ _ _ _ _ _ (heap_alloc_new wr _)).trans rfl
      have HBB := Lib.hid hb
      clear hb hq
      go_wp2_with fail
      go_roundw
      case rel => exact ⟨k + 1, by omega, by go_num, by rw [HL.out]; rfl, by rw [HQ.out]; go_num, HBB.out.alloc HBB.out.size _⟩
      case measure => simp [intOf]; omega
    · obtain rfl : k = n := by omega
      have HBB := Lib.hid hb
      clear hb
      go_wp2_with fail
      go_ret
      exact ⟨rfl, HBB.out⟩
namespace Sha
def pz (l : List UInt8) (j : Nat) : List UInt8 := l ++ [128] ++ List.replicate j 0
theorem pz_len (l : List UInt8) (j : Nat) : (pz l j).length = l.length + 1 + j := by simp [pz]; omega
theorem pz_succ (l : List UInt8) (j : Nat) : pz l (j + 1) = pz l j ++ [0] := by
  unfold pz; rw [List.replicate_succ', List.append_assoc, List.append_assoc, List.append_assoc]
theorem pad_pz (l : List UInt8) : pad l = pz l (zer l.length) ++ be 8 (8 * l.length % 18446744073709551616) := rfl
theorem zer_test (n j : Nat) (h : j ≤ zer n) : (n + 1 + j) % 64 = 56 ↔ j = zer n := by unfold zer at *; omega
theorem zer_le (n : Nat) : zer n ≤ 63 := by unfold zer; omega
end Sha
set_option maxHeartbeats 1000000 in
theorem rpad_T (l : List UInt8) (w : World) (hs : l.length ≤ 1000000000) :
    Calls Tryz.prog 82 #[.string (T l)] w fun e w' => e = .returned (.string (T (Sha.pad l))) ∧ Below w.heap.size w w' := by
  have HF := Lib.hid (Sha.pad_pz l)
  have hz := Sha.zer_le l.length
  have HT := Lib.hid (Sha.zer_test l.length)
  have hg : ∀ w, Calls Tryz.prog 84 #[.int .u64 ((8 * l.length % 18446744073709551616 : Nat) : Int), .int .i64 8] w fun e w' => e = .returned (.string (T (Sha.be 8 (8 * l.length % 18446744073709551616)))) ∧ Below w.heap.size w w' := fun w => rbig_any (8 * l.length % 18446744073709551616) 8 (by omega) (by omega) w
  have HG := Lib.hid hg
  clear hg
  have hbl : (Sha.be 8 (8 * l.length % 18446744073709551616)).length = 8 := Sha.be_length _ _
  generalize Sha.zer l.length = z at *
  have hmul : (l.length : Int) * 8 = ((8 * l.length % 18446744073709551616 : Nat) : Int) := by omega
  generalize 8 * l.length % 18446744073709551616 = mm at *
  have HMUL := Lib.hid hmul
  have h0 : l.length + 1 ≤ 9223372036854775807 := by omega
  clear hmul
  go_enter Tryz.func82, Tryz.ntmps82
  go_wp2_with fail
  go_loop [3] (fun s => ∃ j : Nat, j ≤ z ∧ s = .string (T (Sha.pz l j))) (fun s => z + l.length + 1 - slen s)
  case atStart => exact ⟨0, by omega, by rw [T_append]; unfold Sha.pz; simp⟩
  case round =>
    obtain ⟨j, hj, rfl⟩ := hrel
    have hlen := Sha.pz_len l j
    have HL := Lib.hid hlen
    by_cases he : j = z
    · have h56 : (((l.length + 1 + j : Nat) : Int) % 64 != 56) = false := by
        have := (HT.out j hj).2 he
        rw [bne_eq_false_iff_eq]; omega
      rw [← hlen] at h56
      have b2 : (Sha.pz l j).length + (Sha.be 8 mm).length ≤ 9223372036854775807 := by omega
      subst he
      have HM2 := Lib.hid HMUL.out
      clear hlen
      go_wp2_with fail
      rw [HMUL.out]
      refine (HG.out _).mono ?_; rintro e w1 ⟨rfl, b1⟩
      go_wp2_with fail
      go_ret
      exact ⟨by rw [HF.out, ← T_append]; rfl, b1⟩
    · have h56 : (((l.length + 1 + j : Nat) : Int) % 64 != 56) = true := by
        have := mt (HT.out j hj).1 he
        rw [bne_iff_ne]; omega
      rw [← hlen] at h56
      have b2 : (Sha.pz l j).length + 1 ≤ 9223372036854775807 := by omega
      have HS := Lib.hid (Sha.pz_succ l j)
      clear hlen
      go_wp2_with fail
      go_round
      case rel => exact ⟨j + 1, by omega, by rw [HS.out, ← T_append]⟩
      case measure =>
        have h1 := HL.out
        rw [T_append]
        simp only [slen, T_size, List.length_append, h1, List.length_singleton]
        omega
theorem rconst_any (w : World) :
    Calls Tryz.prog 90 #[] w fun e w' => e = .returned (.slice (some ⟨w.heap.size, 0, none⟩) 64 64) ∧ w' = w.alloc (.cells (us Sha.K).toArray 80) := by
  go_enter Tryz.func90, Tryz.ntmps90
  go_wp2_with fail
  go_ret
  exact ⟨rfl, rfl⟩
end Go.Proofs.YtjjdaelddicokaaGreatDoor
