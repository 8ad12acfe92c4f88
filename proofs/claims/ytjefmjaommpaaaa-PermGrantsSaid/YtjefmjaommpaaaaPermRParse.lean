/- What the reference's Parse returns: Prm.prs. Conditions: the text is not too long to be counted. -/
import Derived.Test.YtjefmjaommpaaaaPermParse
set_option linter.unusedVariables false
set_option linter.unusedSimpArgs false
namespace Go.Proofs.Ytjefmjaommpaaaa
open Go.RowKit
theorem rparse_bad (s : ByteArray) (w : World) (hs : s.size ≤ 9223372036854775807) (h : ¬ s.size = 11) : Calls Try.prog 11 #[.string s] w (Prm.ParSays s w) := by
  have HF := Lib.hid (Prm.par_none (s := s) (w := w) (by unfold Prm.prs; rw [if_neg (by simpa using h)]) (Below.refl _ w))
  have h1 : ((s.size : Int) != 11) = true := by rw [bne_iff_ne]; omega
  clear h
  go_enter Try.func11, Try.ntmps11
  go_wp2
  go_ret2
  exact HF.out
namespace Prm
theorem rpre_bd (l : List UInt8) : ∀ k : Nat, 0 ≤ rpre l k ∧ rpre l k ≤ k * 2147483648 := by
  intro k
  induction k with
  | zero => simp [rpre]
  | succ k ih =>
    rw [rpre]
    by_cases k0 : k = 0
    · rw [if_pos k0]
      by_cases a : l.getD 0 0 = 97
      · rw [if_pos a]; omega
      · rw [if_neg a]
        by_cases b : l.getD 0 0 = 100
        · rw [if_pos b]; omega
        · rw [if_neg b]; omega
    · rw [if_neg k0]
      by_cases k1 : k = 1
      · rw [if_pos k1]
        by_cases a : l.getD 1 0 = 108
        · rw [if_pos a]; omega
        · rw [if_neg a]; omega
      · rw [if_neg k1]
        by_cases a : l.getD k 0 = 45
        · rw [if_pos a]; omega
        · rw [if_neg a]
          have a : 2 ^ (10 - k) ≤ 2 ^ 10 := Nat.pow_le_pow_right (by decide) (by omega)
          have e : (2 : Int) ^ (10 - k) = ((2 ^ (10 - k) : Nat) : Int) := by simp
          rw [e]; clear e; generalize 2 ^ (10 - k) = y at *; omega
def hb (k : Nat) : Int := ((2 ^ (11 - k) / 2 : Nat) : Int)
theorem hb_next {k : Nat} (h : k ≤ 10) : hb k / 2 = hb (k + 1) := by
  unfold hb
  rw [show 11 - k = (11 - (k + 1)) + 1 from by omega, Nat.pow_succ]
  omega
theorem hb_pow {k : Nat} (h : k ≤ 10) : hb k = 2 ^ (10 - k) := by
  unfold hb
  rw [show 11 - k = (10 - k) + 1 from by omega, Nat.pow_succ]
  have e : (2 : Int) ^ (10 - k) = ((2 ^ (10 - k) : Nat) : Int) := by simp
  rw [e]; omega
theorem hb_bd {k : Nat} (h : 2 ≤ k) : 0 ≤ hb k ∧ hb k ≤ 256 := by
  have a : 2 ^ (11 - k) ≤ 2 ^ 9 := Nat.pow_le_pow_right (by decide) (by omega)
  unfold hb; generalize 2 ^ (11 - k) = y at *; omega
end Prm
theorem byte_t {c : UInt8} {n : Nat} (h : c.toNat = n) : ((c.toNat : Int) == (n : Int)) = true := by rw [beq_iff_eq]; omega
theorem byte_eq {c d : UInt8} {z : Int} (hd : z = (d.toNat : Int)) (h : c = d) : ((c.toNat : Int) == z) = true := by rw [beq_iff_eq, hd, h]
theorem byte_ne {c d : UInt8} {z : Int} (hd : z = (d.toNat : Int)) (h : ¬ c = d) : ((c.toNat : Int) == z) = false := by rw [beq_eq_false_iff_ne, hd]; intro e; exact h (UInt8.toNat_inj.1 (by omega))
theorem byte_eq' {c d : UInt8} {z : Int} (hd : z = (d.toNat : Int)) (h : c = d) : ((c.toNat : Int) != z) = false := by rw [bne_eq_false_iff_eq, hd, h]
theorem byte_ne' {c d : UInt8} {z : Int} (hd : z = (d.toNat : Int)) (h : ¬ c = d) : ((c.toNat : Int) != z) = true := by rw [bne_iff_ne, hd]; intro e; exact h (UInt8.toNat_inj.1 (by omega))
set_option maxHeartbeats 4000000 in
theorem rparse_11 (s : ByteArray) (w : World) (h : s.size = 11) : Calls Try.prog 11 #[.string s] w (Prm.ParSays s w) := by
  have h1 : ((s.size : Int) != 11) = false := by rw [bne_eq_false_iff_eq]; omega
  have hi : (s.size : Int) ≤ 11 ∧ (11 : Int) ≤ s.size := by omega
  have hlt : ∀ k, k < 11 → k < s.size := fun k hk => by omega
  obtain ⟨R, hR⟩ : ∃ R : Nat → Int, R = Prm.rpre s.data.toList := ⟨_, rfl⟩
  have HT := Lib.hid (show Prm.prs s.data.toList = if Prm.txt (R 11) = s.data.toList then some (R 11) else none from by rw [← Prm.rprs_eq]; unfold Prm.rprs; rw [if_pos (by simpa using h), hR])
  have HBD := Lib.hid (show ∀ k, 0 ≤ R k ∧ R k ≤ k * 2147483648 from by rw [hR]; exact Prm.rpre_bd _)
  have HR1 := Lib.hid (show R 1 = if (s[0]'(hlt 0 (by omega))) = 97 then 1073741824 else if (s[0]'(hlt 0 (by omega))) = 100 then 2147483648 else 0 from by
    rw [hR, Prm.rpre, if_pos rfl, Prm.getD_byte s 0 (hlt 0 (by omega))])
  have HR2 := Lib.hid (show R 2 = R 1 + if (s[1]'(hlt 1 (by omega))) = 108 then 536870912 else 0 from by
    rw [hR, Prm.rpre, if_neg (by decide), if_pos rfl, Prm.getD_byte s 1 (hlt 1 (by omega))])
  have HRK := Lib.hid (show ∀ k (hk : k < 11), 2 ≤ k → R (k + 1) = R k + if (s[k]'(hlt k hk)) = 45 then 0 else Prm.hb k from fun k hk h2 => by
    rw [hR, Prm.rpre, if_neg (by omega), if_neg (by omega), Prm.getD_byte s k (hlt k hk), Prm.hb_pow (by omega)])
  have H1B := HBD.out 1
  have H2B := HBD.out 2
  clear hR h
  go_enter Try.func11, Try.ntmps11
  go_upto_if 12 with fail
  go_cut [4] (fun m w' => m = .int .i64 (if (s[0]'(hlt 0 (by omega))) = 100 then 2147483648 else 0) ∧ w = w')
  case first =>
    by_cases hc : s[0]'(hlt 0 (by omega)) = 100
    · have e1 := byte_eq (z := 100) rfl hc
      have HC := Lib.hid hc
      clear hc
      go_wp2_with fail
      go_meet
      exact ⟨by rw [if_pos HC.out], rfl⟩
    · have e1 := byte_ne (z := 100) rfl hc
      have HC := Lib.hid hc
      clear hc
      go_wp2_with fail
      go_meet
      exact ⟨by rw [if_neg HC.out], rfl⟩
  case rest =>
    obtain ⟨rfl, rfl⟩ := hcut
    have HV := Lib.hid (show R 1 = if (s[0]'(hlt 0 (by omega))) = 97 then 1073741824 else (if (s[0]'(hlt 0 (by omega))) = 100 then 2147483648 else 0) from HR1.out)
    generalize (if (s[0]'(hlt 0 (by omega))) = 100 then (2147483648 : Int) else 0) = v0 at *
    go_upto_if 15 with fail
    go_cut [4] (fun m w' => m = .int .i64 (R 1) ∧ w = w')
    case first =>
      by_cases hc : s[0]'(hlt 0 (by omega)) = 97
      · have e1 := byte_eq (z := 97) rfl hc
        have HC := Lib.hid hc
        clear hc
        go_wp2_with fail
        go_meet
        exact ⟨by rw [HV.out, if_pos HC.out], rfl⟩
      · have e1 := byte_ne (z := 97) rfl hc
        have HC := Lib.hid hc
        clear hc
        go_wp2_with fail
        go_meet
        exact ⟨by rw [HV.out, if_neg HC.out], rfl⟩
    case rest =>
      obtain ⟨rfl, rfl⟩ := hcut
      go_upto_if 18 with fail
      go_cut [4] (fun m w' => m = .int .i64 (R 2) ∧ w = w')
      case first =>
        by_cases hc : s[1]'(hlt 1 (by omega)) = 108
        · have e1 := byte_eq (z := 108) rfl hc
          have HC := Lib.hid hc
          clear hc
          go_wp2_with fail
          go_meet
          exact ⟨by rw [HR2.out, if_pos HC.out], rfl⟩
        · have e1 := byte_ne (z := 108) rfl hc
          have HC := Lib.hid hc
          clear hc
          go_wp2_with fail
          go_meet
          exact ⟨by rw [HR2.out, if_neg HC.out, Int.add_zero], rfl⟩
      case rest =>
        obtain ⟨rfl, rfl⟩ := hcut
        go_wp2_with fail
        go_loop [4, 5, 6] (fun m b i => ∃ k : Nat, 2 ≤ k ∧ k ≤ 11 ∧ i = .int .i64 (k : Int) ∧ m = .int .i64 (R k) ∧ b = .int .i64 (Prm.hb k)) (fun _ _ i => (11 - intOf i).toNat)
        case atStart => exact ⟨2, by omega, by omega, rfl, rfl, rfl⟩
        case round =>
          obtain ⟨k, hk1, hk2, rfl, rfl, rfl⟩ := hrel
          have hbd := HBD.out k
          have hbb := Prm.hb_bd hk1
          by_cases hk : k < 11
          · have HE := Lib.hid (HRK.out k hk hk1)
            have HN := Lib.hid (Prm.hb_next (k := k) (by omega))
            generalize Prm.hb k = B at *
            by_cases hc : s[k]'(hlt k hk) = 45
            · rw [if_pos hc] at HE
              have e1 := byte_eq' (z := 45) rfl hc
              clear hc
              go_wp2_with fail
              go_round
              case rel => exact ⟨k + 1, by omega, by omega, by go_num, by rw [HE.out, Int.add_zero], by rw [HN.out]⟩
              case measure => simp [intOf]; omega
            · rw [if_neg hc] at HE
              have e1 := byte_ne' (z := 45) rfl hc
              clear hc
              go_wp2_with fail
              go_round
              case rel => exact ⟨k + 1, by omega, by omega, by go_num, by rw [HE.out], by rw [HN.out]⟩
              case measure => simp [intOf]; omega
          · obtain rfl : k = 11 := by omega
            have HX := Lib.hid (fun w => rtext_any (R 11) w (by omega))
            by_cases ht : Prm.txt (R 11) = s.data.toList
            · rw [if_pos ht] at HT
              rw [ht, T_of] at HX
              clear hk ht
              go_wp2_with fail
              refine (HX.out _).mono ?_; rintro e w1 ⟨rfl, b1⟩
              go_wp2_with fail
              go_ret2
              exact Prm.par_some HT.out b1
            · rw [if_neg ht] at HT
              have hne : (Prm.txt (R 11) == s.toList) = false := by rw [beq_eq_false_iff_ne, ByteArray.toList_eq]; exact ht
              clear hk ht
              go_wp2_with fail
              refine (HX.out _).mono ?_; rintro e w1 ⟨rfl, b1⟩
              go_wp2_with fail
              go_ret2
              exact Prm.par_none HT.out b1
end Go.Proofs.Ytjefmjaommpaaaa
