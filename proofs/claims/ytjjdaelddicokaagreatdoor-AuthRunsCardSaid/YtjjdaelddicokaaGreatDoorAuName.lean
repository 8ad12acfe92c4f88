/- What attr.until (the bytes 0, 10, 13) and attr.isName return. Conditions: a text of at most 10^9 bytes. -/
import Derived.Test.YtjjdaelddicokaaGreatDoorAuFind
import Derived.Lib.Strings
import Derived.Lib.Slices
import Derived.Lib.Walk
import Derived.Lib.Bytealg
set_option linter.unusedVariables false
set_option linter.unusedSimpArgs false
namespace Go.Proofs.YtjjdaelddicokaaGreatDoor
open Go.RowKit
open Au (Att)
namespace Au
def unt : List UInt8 → Nat
  | [] => 0
  | c :: s => if plainCh c = true then unt s + 1 else 0
theorem unt_at (s : List UInt8) : ∀ (k : Nat) (h : k < s.length), (∀ j (hj : j < k), plainCh (s[j]'(by omega)) = true) → ¬ plainCh s[k] = true → unt s = k := by
  induction s with
  | nil => intro k h; simp at h
  | cons c s ih =>
    intro k h h0 hk
    cases k with
    | zero => simp only [List.getElem_cons_zero] at hk; rw [unt, if_neg hk]
    | succ k =>
      have h00 := h0 0 (by omega)
      simp only [List.getElem_cons_zero] at h00
      rw [unt, if_pos h00, ih k (by simpa using h) (fun j hj => by have := h0 (j + 1) (by omega); simpa using this) (by simpa using hk)]
theorem unt_none (s : List UInt8) (h : ∀ j (hj : j < s.length), plainCh s[j] = true) : unt s = s.length := by
  induction s with
  | nil => rfl
  | cons c s ih =>
    have h00 := h 0 (by simp)
    simp only [List.getElem_cons_zero] at h00
    rw [unt, if_pos h00, ih fun j hj => by have := h (j + 1) (by simpa using hj); simpa using this]
    simp
theorem unt_le (s : List UInt8) : unt s ≤ s.length := by
  induction s with
  | nil => simp [unt]
  | cons c s ih => rw [unt]; split <;> simp <;> omega
theorem unt_lt (s : List UInt8) : unt s < s.length ↔ plainT s = false := by
  induction s with
  | nil => simp [unt, plainT]
  | cons c s ih =>
    rw [unt]
    by_cases h : plainCh c = true
    · rw [if_pos h]; simp only [List.length_cons, plainT, List.all_cons, h, Bool.true_and]; rw [← plainT, ← ih]; omega
    · rw [if_neg h]; simp [plainT, h]
theorem plainCh_no {c : UInt8} (h : ¬ plainCh c = true) : c = 0 ∨ c = 10 ∨ c = 13 := by
  simp only [plainCh, Bool.and_eq_true, decide_eq_true_eq, not_and, Decidable.not_not] at h
  have key : c.toNat = 0 ∨ c.toNat = 10 ∨ c.toNat = 13 := by omega
  rcases key with k | k | k
  · exact .inl (UInt8.toNat_inj.1 k)
  · exact .inr (.inl (UInt8.toNat_inj.1 k))
  · exact .inr (.inr (UInt8.toNat_inj.1 k))
theorem stop_yes {c : UInt8} (h : ¬ plainCh c = true) : 0 ≤ Lib.indexByte [0, 10, 13] c := by
  rcases plainCh_no h with rfl | rfl | rfl <;> decide
theorem stop_no {c : UInt8} (h : plainCh c = true) : Lib.indexByte [0, 10, 13] c = -1 := by
  simp only [plainCh, Bool.and_eq_true, decide_eq_true_eq] at h
  obtain ⟨⟨h1, h2⟩, h3⟩ := h
  have e1 : ¬ (0 : UInt8) = c := fun e => h1 (by rw [← e]; rfl)
  have e2 : ¬ (10 : UInt8) = c := fun e => h2 (by rw [← e]; rfl)
  have e3 : ¬ (13 : UInt8) = c := fun e => h3 (by rw [← e]; rfl)
  simp [Lib.indexByte, e1, e2, e3]
theorem trim_is (l : List UInt8) : Lib.trimPrefix l [33] = strip l := by
  cases l with
  | nil => rfl
  | cons c s =>
    by_cases h : c = 33
    · subst h; simp [Lib.trimPrefix, Lib.hasPrefix, strip, List.isPrefixOf]
    · rw [strip, if_neg h]; simp [Lib.trimPrefix, Lib.hasPrefix, List.isPrefixOf]; intro e; exact absurd e.symm h
theorem strip_le (l : List UInt8) : (strip l).length ≤ l.length := by
  cases l with
  | nil => exact Nat.le_refl _
  | cons c s => rw [strip]; split <;> simp
theorem nameCh_iff (c : UInt8) : nameCh c = true ↔ ((97 ≤ c.toNat ∧ c.toNat ≤ 122) ∨ (48 ≤ c.toNat ∧ c.toNat ≤ 57) ∨ c.toNat = 45 ∨ c.toNat = 95) := by
  simp only [nameCh, letter, digit, Bool.or_eq_true, Bool.and_eq_true, decide_eq_true_eq]
  omega
theorem bare_no {t : List UInt8} {k : Nat} (h : k < t.length) (hn : ¬ nameCh t[k] = true) : bareOk t = false := by
  have : t.all nameCh = false := by rw [List.all_eq_false]; exact ⟨t[k], List.getElem_mem h, by simpa using hn⟩
  simp [bareOk, this]
theorem bare_yes {t : List UInt8} (h1 : t.length ≤ 32) (h2 : headLetter t = true) (h : ∀ j (hj : j < t.length), nameCh t[j] = true) : bareOk t = true := by
  have : t.all nameCh = true := by
    rw [List.all_eq_true]
    intro c hc
    obtain ⟨j, hj, rfl⟩ := List.getElem_of_mem hc
    exact h j hj
  simp [bareOk, this, h1, h2]
end Au
set_option maxHeartbeats 1000000 in
set_option maxRecDepth 100000 in
theorem ibyte_any (s : List UInt8) (c : UInt8) (w : World) :
    Calls Tryz.prog 74 #[.string (T s), .int .u8 (c.toNat : Int)] w fun e w' => e = .returned (.int .i64 (Lib.indexByte s c)) ∧ w = w' := by
  have hc : (c.toNat : Int).toNat.toUInt8 = c := by simp
  go_enter Tryz.func74, Tryz.ntmps74
  go_wp2
  rw [run_callFunc_extern Tryz.func94 (by kernel_rfl) (by kernel_rfl) (by kernel_rfl) (e := Extern.BytealgIndexByte.indexByte) (by kernel_rfl), Lib.run_indexByteString]
  simp only [Result.andThen]
  rw [Oper.upon_value, hc]
  go_wp2
  go_ret
  exact ⟨rfl, rfl⟩
set_option maxHeartbeats 1000000 in
theorem until_any (s : List UInt8) (w : World) (hs : s.length ≤ 1000000000) :
    Calls Tryz.prog 62 #[.string (T s), .string (T [0, 10, 13])] w fun e w' => e = .returned (.int .i64 (Au.unt s : Int)) ∧ w = w' := by
  have HI := Lib.hid (Au.unt_at s)
  have HN := Lib.hid (Au.unt_none s)
  go_enter Tryz.func62, Tryz.ntmps62
  go_wp2_with fail
  go_loop [8] (fun i => ∃ k : Nat, k ≤ s.length ∧ i = .int .i64 (k : Int) ∧ Hid (∀ j (hj : j < k) (hk : k ≤ s.length), Au.plainCh (s[j]'(by omega)) = true)) (fun i => s.length - (intOf i).toNat)
  case atStart => exact ⟨0, by omega, rfl, (fun j hj => by omega)⟩
  case round =>
    obtain ⟨k, hk, rfl, hn⟩ := hrel
    by_cases hlt : k < s.length
    · have HCL := Lib.hid (fun w => ibyte_any [0, 10, 13] s[k] w)
      by_cases he : Au.plainCh s[k] = true
      · have HF : Hid (∀ j (hj : j < k + 1) (hk : k + 1 ≤ s.length), Au.plainCh (s[j]'(by omega)) = true) := fun j hj hk' => by
          rcases Nat.lt_or_ge j k with h | h
          · exact hn.out j h (by omega)
          · obtain rfl : j = k := by omega
            exact he
        rw [Au.stop_no he] at HCL
        clear he
        go_wp2_with fail
        refine (HCL.out _).mono ?_; rintro e w1 ⟨rfl, rfl⟩
        go_wp2_with fail
        go_round
        case rel => exact ⟨k + 1, by omega, by go_num, HF⟩
        case measure => simp [intOf]; omega
      · have HF := Lib.hid (HI.out k hlt (fun j hj => hn.out j hj (by omega)) he)
        have hge := Au.stop_yes he
        generalize Lib.indexByte [0, 10, 13] s[k] = z at *
        clear he
        go_wp2_with fail
        refine (HCL.out _).mono ?_; rintro e w1 ⟨rfl, rfl⟩
        go_wp2_with fail
        go_ret
        exact ⟨by rw [HF.out]; rfl, rfl⟩
    · obtain rfl : k = s.length := by omega
      have HF := Lib.hid (HN.out (fun j hj => hn.out j hj (Nat.le_refl _)))
      go_wp2_with fail
      go_ret
      exact ⟨by rw [HF.out]; rfl, rfl⟩
set_option maxHeartbeats 1000000 in
theorem trim_any (s : List UInt8) (w : World) (hs : s.length ≤ 1000000000) :
    Calls Tryz.prog 73 #[.string (T s), .string (T [33])] w fun e w' => e = .returned (.string (T (Au.strip s))) ∧ w = w' := by
  cases s with
  | nil =>
    go_enter Tryz.func73, Tryz.ntmps73
    go_wp2
    go_ret
    exact ⟨rfl, rfl⟩
  | cons c s =>
    have HT := Lib.hid (show (⟨(Lib.trimPrefix (T (c :: s)).data.toList (T [33]).data.toList).toArray⟩ : ByteArray) = T (Au.strip (c :: s)) from congrArg T (Au.trim_is (c :: s)))
    have hz : ((T (c :: s)).size : Int) = (s.length : Int) + 1 := by rw [T_size]; simp
    have hz2 : (T [33]).size = 1 := rfl
    generalize T (c :: s) = S at *
    go_enter Tryz.func73, Tryz.ntmps73
    go_wp2
    · have h2 : ((S.extract 0 1).toList == [33]) = true := by assumption
      have HH := Lib.hid (Lib.trimPrefix_hit S (T [33]) (by rw [hz2]; omega) (by rw [hz2, show (T [33]).toList = [33] from by simp]; exact h2))
      go_ret
      refine ⟨?_, rfl⟩
      rw [← HT.out, HH.out]
      rfl
    · have h2 : ((S.extract 0 1).toList == [33]) = false := by assumption
      have HH := Lib.hid (Lib.trimPrefix_miss S (T [33]) (by rw [hz2, show (T [33]).toList = [33] from by simp, h2]; simp))
      go_ret
      refine ⟨?_, rfl⟩
      rw [← HT.out, HH.out]
      rfl
set_option maxHeartbeats 1000000 in
theorem isname_any (l : List UInt8) (w : World) (hs : l.length ≤ 1000000000) :
    Calls Tryz.prog 61 #[.string (T l)] w fun e w' => e = .returned (.bool (Au.nameOk l)) ∧ w = w' := by
  have HC := Lib.hid (trim_any l w hs)
  have HN := Lib.hid (show Au.nameOk l = Au.bareOk (Au.strip l) from rfl)
  have hst := Au.strip_le l
  generalize Au.strip l = t at *
  replace hst : t.length ≤ 1000000000 := by omega
  cases t with
  | nil =>
    have HF := Lib.hid (show Au.bareOk [] = false from rfl)
    go_enter Tryz.func61, Tryz.ntmps61
    go_wp2_with fail
    refine HC.out.mono ?_; rintro e w1 ⟨rfl, rfl⟩
    go_wp2_with fail
    go_ret
    exact ⟨by rw [HN.out, HF.out]; rfl, rfl⟩
  | cons c s =>
    by_cases h32 : 32 < (c :: s).length
    · have HF := Lib.hid (show Au.bareOk (c :: s) = false from by unfold Au.bareOk; rw [decide_eq_false (by omega)]; rfl)
      have k1 : (32 : Int) < (s.length : Int) + 1 := by simp at h32; omega
      clear h32
      go_enter Tryz.func61, Tryz.ntmps61
      go_wp2_with fail
      refine HC.out.mono ?_; rintro e w1 ⟨rfl, rfl⟩
      go_wp2_with fail
      go_ret
      exact ⟨by rw [HN.out, HF.out]; rfl, rfl⟩
    · have k1 : ¬ (32 : Int) < (s.length : Int) + 1 := by simp at h32; omega
      by_cases hl : Au.letter c = true
      rotate_left
      · have HF := Lib.hid (show Au.bareOk (c :: s) = false from by simp only [Au.bareOk, Au.headLetter, Bool.eq_false_iff.2 hl, Bool.and_false, Bool.false_and])
        have hz : (((T (c :: s))[0]'(by rw [T_size]; simp)).toNat : Int) < 97 ∨ (122 : Int) < (((T (c :: s))[0]'(by rw [T_size]; simp)).toNat : Int) := by
          show (c.toNat : Int) < 97 ∨ (122 : Int) < (c.toNat : Int)
          simp only [Au.letter, Bool.and_eq_true, decide_eq_true_eq, not_and] at hl; omega
        clear hl
        rcases hz with hz | hz
        · go_enter Tryz.func61, Tryz.ntmps61
          go_wp2_with fail
          refine HC.out.mono ?_; rintro e w1 ⟨rfl, rfl⟩
          go_wp2_with fail
          go_ret
          exact ⟨by rw [HN.out, HF.out]; rfl, rfl⟩
        · have hz' : ¬ (((T (c :: s))[0]'(by rw [T_size]; simp)).toNat : Int) < 97 := by omega
          go_enter Tryz.func61, Tryz.ntmps61
          go_wp2_with fail
          refine HC.out.mono ?_; rintro e w1 ⟨rfl, rfl⟩
          go_wp2_with fail
          go_ret
          exact ⟨by rw [HN.out, HF.out]; rfl, rfl⟩
      · have hz1 : ¬ (c.toNat : Int) < 97 := by simp only [Au.letter, Bool.and_eq_true, decide_eq_true_eq] at hl; omega
        have hz2 : ¬ (122 : Int) < (c.toNat : Int) := by simp only [Au.letter, Bool.and_eq_true, decide_eq_true_eq] at hl; omega
        have HNO := Lib.hid (fun k h hn => Au.bare_no (t := c :: s) (k := k) h hn)
        have HYES := Lib.hid (fun h => Au.bare_yes (t := c :: s) (by omega) (show Au.headLetter (c :: s) = true from hl) h)
        clear hl h32
        generalize hT : c :: s = t at *
        have hne : (t == []) = false := by rw [← hT]; rfl
        have h0 : 0 < t.length := by rw [← hT]; simp
        replace hz1 : ¬ (((T t)[0]'(by rw [T_size]; exact h0)).toNat : Int) < 97 := by subst hT; exact hz1
        replace hz2 : ¬ (122 : Int) < (((T t)[0]'(by rw [T_size]; exact h0)).toNat : Int) := by subst hT; exact hz2
        have k2 : ¬ (32 : Int) < (t.length : Int) := by rw [← hT]; simpa using k1
        clear hT k1
        go_enter Tryz.func61, Tryz.ntmps61
        go_wp2_with fail
        refine HC.out.mono ?_; rintro e w1 ⟨rfl, rfl⟩
        go_wp2_with fail
        clear HC hz1 hz2 hne
        go_loop [26] (fun i => ∃ k : Nat, k ≤ t.length ∧ i = .int .i64 (k : Int) ∧ Hid (∀ j (hj : j < k) (hk : k ≤ t.length), Au.nameCh (t[j]'(by omega)) = true)) (fun i => t.length - (intOf i).toNat)
        case atStart => exact ⟨0, by omega, rfl, (fun j hj => by omega)⟩
        case round =>
          obtain ⟨k, hk, rfl, hn⟩ := hrel
          by_cases hlt : k < t.length
          · by_cases he : Au.nameCh t[k] = true
            · have HF : Hid (∀ j (hj : j < k + 1) (hk : k + 1 ≤ t.length), Au.nameCh (t[j]'(by omega)) = true) := fun j hj hk' => by
                rcases Nat.lt_or_ge j k with h | h
                · exact hn.out j h (by omega)
                · obtain rfl : j = k := by omega
                  exact he
              have hcl := (Au.nameCh_iff _).1 he
              clear he
              rcases (show ((97 : Int) ≤ (((T t)[k]'(by rw [T_size]; exact hlt)).toNat : Int) ∧ (((T t)[k]'(by rw [T_size]; exact hlt)).toNat : Int) ≤ 122) ∨ ((48 : Int) ≤ (((T t)[k]'(by rw [T_size]; exact hlt)).toNat : Int) ∧ (((T t)[k]'(by rw [T_size]; exact hlt)).toNat : Int) ≤ 57) ∨ (((T t)[k]'(by rw [T_size]; exact hlt)).toNat : Int) = 45 ∨ (((T t)[k]'(by rw [T_size]; exact hlt)).toNat : Int) = 95 from by
                show ((97 : Int) ≤ (t[k].toNat : Int) ∧ (t[k].toNat : Int) ≤ 122) ∨ ((48 : Int) ≤ (t[k].toNat : Int) ∧ (t[k].toNat : Int) ≤ 57) ∨ (t[k].toNat : Int) = 45 ∨ (t[k].toNat : Int) = 95
                omega) with hz | hz | hz | hz
              all_goals
                clear hcl
                go_wp2_with fail
                go_round
                case rel => exact ⟨k + 1, by omega, by go_num, HF⟩
                case measure => simp [intOf]; omega
            · have HF := Lib.hid (HNO.out k hlt he)
              have hcl := mt (Au.nameCh_iff _).2 he
              clear he
              have g1 : (((T t)[k]'(by rw [T_size]; exact hlt)).toNat : Int) < 97 ∨ (122 : Int) < (((T t)[k]'(by rw [T_size]; exact hlt)).toNat : Int) := by
                show (t[k].toNat : Int) < 97 ∨ (122 : Int) < (t[k].toNat : Int)
                omega
              have g2 : (((T t)[k]'(by rw [T_size]; exact hlt)).toNat : Int) < 48 ∨ (57 : Int) < (((T t)[k]'(by rw [T_size]; exact hlt)).toNat : Int) := by
                show (t[k].toNat : Int) < 48 ∨ (57 : Int) < (t[k].toNat : Int)
                omega
              have g3 : ((((T t)[k]'(by rw [T_size]; exact hlt)).toNat : Int) != 45) = true := by
                rw [bne_iff_ne]
                show ¬ (t[k].toNat : Int) = 45
                omega
              have g4 : ((((T t)[k]'(by rw [T_size]; exact hlt)).toNat : Int) != 95) = true := by
                rw [bne_iff_ne]
                show ¬ (t[k].toNat : Int) = 95
                omega
              clear hcl
              rcases g1 with g1 | g1 <;> rcases g2 with g2 | g2
              all_goals first
                | (exfalso; omega)
                | (go_wp2_with fail
                   go_ret
                   exact ⟨by rw [HN.out, HF.out]; rfl, rfl⟩)
          · obtain rfl : k = t.length := by omega
            have HF := Lib.hid (HYES.out (fun j hj => hn.out j hj (Nat.le_refl _)))
            go_wp2_with fail
            go_ret
            exact ⟨by rw [HN.out, HF.out]; rfl, rfl⟩
end Go.Proofs.YtjjdaelddicokaaGreatDoor
