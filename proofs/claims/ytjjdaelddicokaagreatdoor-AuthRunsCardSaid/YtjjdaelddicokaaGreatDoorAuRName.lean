/- What the reference of layer 22 returns: Secret, Name, plain, one, Check. Conditions: at most 10^6 attributes, texts of at most 10^9 bytes. -/
import Derived.Test.YtjjdaelddicokaaGreatDoorAuChk
set_option linter.unusedVariables false
set_option linter.unusedSimpArgs false
namespace Go.Proofs.YtjjdaelddicokaaGreatDoor
open Go.RowKit
open Au (Att)
namespace Au
theorem all_no {s : List UInt8} {k : Nat} (h : k < s.length) (hn : ¬ plainCh s[k] = true) : plainT s = false := by
  unfold plainT; rw [List.all_eq_false]; exact ⟨s[k], List.getElem_mem h, by simpa using hn⟩
theorem all_yes {s : List UInt8} (h : ∀ j (hj : j < s.length), plainCh s[j] = true) : plainT s = true := by
  unfold plainT
  rw [List.all_eq_true]
  intro c hc
  obtain ⟨j, hj, rfl⟩ := List.getElem_of_mem hc
  exact h j hj
theorem plainCh_iff (c : UInt8) : plainCh c = true ↔ (c.toNat ≠ 0 ∧ c.toNat ≠ 10 ∧ c.toNat ≠ 13) := by
  simp only [plainCh, Bool.and_eq_true, decide_eq_true_eq]; omega
theorem letter_iff (c : UInt8) : letter c = true ↔ (97 ≤ c.toNat ∧ c.toNat ≤ 122) := by
  simp only [letter, Bool.and_eq_true, decide_eq_true_eq]
/-- The name of a secret. -/
def secret : List UInt8 → Bool
  | [] => false
  | c :: _ => decide (c = 33)
/-- As the reference's loop sees a byte of a name: a letter, or behind the first place one of the others. -/
def okAt (t : List UInt8) (k : Nat) (h : k < t.length) : Bool := if k = 0 then letter t[k] else nameCh t[k]
theorem ok_no {t : List UInt8} {k : Nat} (h : k < t.length) (hn : ¬ okAt t k h = true) : bareOk t = false := by
  unfold okAt at hn
  split at hn
  · rename_i h0
    subst h0
    cases t with
    | nil => simp at h
    | cons c s => simp only [List.getElem_cons_zero] at hn; simp only [bareOk, headLetter, Bool.eq_false_iff.2 hn, Bool.and_false, Bool.false_and]
  · exact bare_no h hn
theorem ok_yes {t : List UInt8} (h : ∀ j (hj : j < t.length), okAt t j hj = true) : bareOk t = (decide (1 ≤ t.length) && decide (t.length ≤ 32)) := by
  cases t with
  | nil => rfl
  | cons c s =>
    have h0 := h 0 (by simp)
    simp only [okAt, if_true, List.getElem_cons_zero] at h0
    have hall : (c :: s).all nameCh = true := by
      rw [List.all_eq_true]
      intro x hx
      obtain ⟨j, hj, rfl⟩ := List.getElem_of_mem hx
      have := h j hj
      unfold okAt at this
      split at this
      · have h2 := (letter_iff _).1 this; exact (nameCh_iff _).2 (.inl h2)
      · exact this
    have h1 : decide (1 ≤ (c :: s).length) = true := by simp
    rw [h1, Bool.true_and]
    have h2 : headLetter (c :: s) = true := h0
    unfold bareOk
    rw [h2, hall, Bool.and_true, Bool.and_true]
end Au
theorem rsecret_any (l : List UInt8) (w : World) :
    Calls Tryz.prog 78 #[.string (T l)] w fun e w' => e = .returned (.bool (Au.secret l)) ∧ w = w' := by
  cases l with
  | nil =>
    go_enter Tryz.func78, Tryz.ntmps78
    go_wp2_with fail
    go_ret
    exact ⟨rfl, rfl⟩
  | cons c s =>
    have h0 : (0 : Int) < (s.length : Int) + 1 := by omega
    by_cases hc : c = 33
    · have HF := Lib.hid (show Au.secret (c :: s) = true from decide_eq_true hc)
      have hz : (((T (c :: s))[0]'(by rw [T_size]; simp)).toNat : Int) = 33 := by show (c.toNat : Int) = 33; rw [hc]; rfl
      clear hc
      go_enter Tryz.func78, Tryz.ntmps78
      go_wp2_with fail
      go_ret
      exact ⟨by rw [HF.out]; rfl, rfl⟩
    · have HF := Lib.hid (show Au.secret (c :: s) = false from decide_eq_false hc)
      have hz : ((((T (c :: s))[0]'(by rw [T_size]; simp)).toNat : Int) == 33) = false := by
        rw [beq_eq_false_iff_ne]; show ¬ (c.toNat : Int) = 33; intro e; exact hc (UInt8.toNat_inj.1 (by simpa using (by omega : c.toNat = 33)))
      clear hc
      go_enter Tryz.func78, Tryz.ntmps78
      go_wp2_with fail
      go_ret
      exact ⟨by rw [HF.out]; rfl, rfl⟩
set_option maxHeartbeats 1000000 in
theorem rplain_any (t : List UInt8) (w : World) (hs : t.length ≤ 1000000000) :
    Calls Tryz.prog 68 #[.string (T t)] w fun e w' => e = .returned (.bool (Au.plainT t)) ∧ w = w' := by
  have HNO := Lib.hid (fun k h hn => Au.all_no (s := t) (k := k) h hn)
  have HYES := Lib.hid (fun h => Au.all_yes (s := t) h)
  go_enter Tryz.func68, Tryz.ntmps68
  go_wp2_with fail
  go_loop [3] (fun i => ∃ k : Nat, k ≤ t.length ∧ i = .int .i64 (k : Int) ∧ Hid (∀ j (hj : j < k) (hk : k ≤ t.length), Au.plainCh (t[j]'(by omega)) = true)) (fun i => t.length - (intOf i).toNat)
  case atStart => exact ⟨0, by omega, rfl, (fun j hj => by omega)⟩
  case round =>
    obtain ⟨k, hk, rfl, hn⟩ := hrel
    by_cases hlt : k < t.length
    · by_cases he : Au.plainCh t[k] = true
      · have HF : Hid (∀ j (hj : j < k + 1) (hk : k + 1 ≤ t.length), Au.plainCh (t[j]'(by omega)) = true) := fun j hj hk' => by
          rcases Nat.lt_or_ge j k with h | h
          · exact hn.out j h (by omega)
          · obtain rfl : j = k := by omega
            exact he
        have hcl := (Au.plainCh_iff _).1 he
        clear he
        have g1 : ((((T t)[k]'(by rw [T_size]; exact hlt)).toNat : Int) == 0) = false := by rw [beq_eq_false_iff_ne]; show ¬ (t[k].toNat : Int) = 0; omega
        have g2 : ((((T t)[k]'(by rw [T_size]; exact hlt)).toNat : Int) == 10) = false := by rw [beq_eq_false_iff_ne]; show ¬ (t[k].toNat : Int) = 10; omega
        have g3 : ((((T t)[k]'(by rw [T_size]; exact hlt)).toNat : Int) == 13) = false := by rw [beq_eq_false_iff_ne]; show ¬ (t[k].toNat : Int) = 13; omega
        clear hcl
        go_wp2_with fail
        go_round
        case rel => exact ⟨k + 1, by omega, by go_num, HF⟩
        case measure => simp [intOf]; omega
      · have HF := Lib.hid (HNO.out k hlt he)
        have hcl := mt (Au.plainCh_iff _).2 he
        clear he
        rcases (show (((T t)[k]'(by rw [T_size]; exact hlt)).toNat : Int) = 0 ∨ (((T t)[k]'(by rw [T_size]; exact hlt)).toNat : Int) = 10 ∨ (((T t)[k]'(by rw [T_size]; exact hlt)).toNat : Int) = 13 from by
          show (t[k].toNat : Int) = 0 ∨ (t[k].toNat : Int) = 10 ∨ (t[k].toNat : Int) = 13
          omega) with hz | hz | hz
        all_goals
          clear hcl
          go_wp2_with fail
          go_ret
          exact ⟨by rw [HF.out]; rfl, rfl⟩
    · obtain rfl : k = t.length := by omega
      have HF := Lib.hid (HYES.out (fun j hj => hn.out j hj (Nat.le_refl _)))
      go_wp2_with fail
      go_ret
      exact ⟨by rw [HF.out]; rfl, rfl⟩
theorem extract_TA (s : ByteArray) (a b : Nat) : s.extract a b = T ((s.data.toList.drop a).take (b - a)) := by
  apply ByteArray.ext
  apply Array.ext'
  simp
set_option maxHeartbeats 2000000 in
theorem rname_any (l : List UInt8) (w : World) (hs : l.length ≤ 1000000000) :
    Calls Tryz.prog 67 #[.string (T l)] w fun e w' => e = .returned (.bool (Au.nameOk l)) ∧ w = w' := by
  have HSC := Lib.hid (fun w => rsecret_any l w)
  have HN := Lib.hid (show Au.nameOk l = Au.bareOk (Au.strip l) from rfl)
  have hst := Au.strip_le l
  obtain ⟨b, hb, hsl⟩ : ∃ b : Bool, Au.secret l = b ∧ (b = false → Au.strip l = l) ∧ (b = true → 1 ≤ l.length ∧ (T l).extract 1 (T l).size = T (Au.strip l)) := by
    cases l with
    | nil => exact ⟨false, rfl, (fun _ => rfl), fun h => by cases h⟩
    | cons c s =>
      by_cases hc : c = 33
      · refine ⟨true, decide_eq_true hc, (fun h => by cases h), fun _ => ⟨by simp, ?_⟩⟩
        rw [Au.strip, if_pos hc]
        have e := extract_TA (T (c :: s)) 1 (T (c :: s)).size
        rw [e]
        show T _ = _
        congr 1
        rw [T_size]
        simp
      · exact ⟨false, decide_eq_false hc, (fun _ => by rw [Au.strip, if_neg hc]), fun h => by cases h⟩
  rw [hb] at HSC
  clear hb
  cases b with
  | false =>
    have hsl' := hsl.1 rfl
    rw [hsl'] at HN hst
    clear hsl hsl'
    have hst2 : l.length ≤ 1000000000 := hs
    have HNO := Lib.hid (fun k h hn => Au.ok_no (t := l) (k := k) h hn)
    have HYES := Lib.hid (fun h => Au.ok_yes (t := l) h)
    go_enter Tryz.func67, Tryz.ntmps67
    go_wp2_with fail
    (with_reducible refine (HSC.out _).mono ?_); rintro e w1 ⟨rfl, rfl⟩
    go_wp2_with fail
    clear HSC
    go_loop [3] (fun i => ∃ k : Nat, k ≤ l.length ∧ i = .int .i64 (k : Int) ∧ Hid (∀ j (hj : j < k) (hk : k ≤ l.length), Au.okAt l j (by omega) = true)) (fun i => l.length - (intOf i).toNat)
    case atStart => exact ⟨0, by omega, rfl, (fun j hj => by omega)⟩
    case round =>
      obtain ⟨k, hk, rfl, hn⟩ := hrel
      by_cases hlt : k < l.length
      · have hz0 : 0 ≤ (((T l)[k]'(by rw [T_size]; exact hlt)).toNat : Int) := by omega
        by_cases he : Au.okAt l k hlt = true
        · have HF : Hid (∀ j (hj : j < k + 1) (hk : k + 1 ≤ l.length), Au.okAt l j (by omega) = true) := fun j hj hk' => by
            rcases Nat.lt_or_ge j k with h | h
            · exact hn.out j h (by omega)
            · obtain rfl : j = k := by omega
              exact he
          by_cases hlet : Au.letter l[k] = true
          · have g := (Au.letter_iff _).1 hlet
            have g1 : (97 : Int) ≤ (((T l)[k]'(by rw [T_size]; exact hlt)).toNat : Int) := by show (97 : Int) ≤ (l[k].toNat : Int); omega
            have g2 : (((T l)[k]'(by rw [T_size]; exact hlt)).toNat : Int) ≤ 122 := by show (l[k].toNat : Int) ≤ 122; omega
            clear he g hlet
            go_wp2_with fail
            go_round
            case rel => exact ⟨k + 1, by omega, by go_num, HF⟩
            case measure => simp [intOf]; omega
          · have gl := mt (Au.letter_iff _).2 hlet
            have hk0 : ¬ k = 0 := fun h0 => hlet (by unfold Au.okAt at he; rw [if_pos h0] at he; exact he)
            have hcl := (Au.nameCh_iff l[k]).1 (by unfold Au.okAt at he; rw [if_neg hk0] at he; exact he)
            have hk1 : ((k : Int) == 0) = false := by rw [beq_eq_false_iff_ne]; omega
            have hl1 : (((T l)[k]'(by rw [T_size]; exact hlt)).toNat : Int) < 97 ∨ (97 : Int) ≤ (((T l)[k]'(by rw [T_size]; exact hlt)).toNat : Int) ∧ (122 : Int) < (((T l)[k]'(by rw [T_size]; exact hlt)).toNat : Int) ∧ decide ((((T l)[k]'(by rw [T_size]; exact hlt)).toNat : Int) ≤ 122) = false := by
              rw [decide_eq_false_iff_not]
              show (l[k].toNat : Int) < 97 ∨ (97 : Int) ≤ (l[k].toNat : Int) ∧ (122 : Int) < (l[k].toNat : Int) ∧ ¬ (l[k].toNat : Int) ≤ 122
              omega
            rcases (show ((48 : Int) ≤ (((T l)[k]'(by rw [T_size]; exact hlt)).toNat : Int) ∧ (((T l)[k]'(by rw [T_size]; exact hlt)).toNat : Int) ≤ 57) ∨ (((T l)[k]'(by rw [T_size]; exact hlt)).toNat : Int) = 45 ∨ (((T l)[k]'(by rw [T_size]; exact hlt)).toNat : Int) = 95 from by
              show ((48 : Int) ≤ (l[k].toNat : Int) ∧ (l[k].toNat : Int) ≤ 57) ∨ (l[k].toNat : Int) = 45 ∨ (l[k].toNat : Int) = 95
              omega) with hz | hz | hz
            all_goals
              clear he gl hcl hlet
              rcases hl1 with hl1 | ⟨hl1, hl2, hl3⟩
              · go_wp2_with fail
                go_round
                case rel => exact ⟨k + 1, by omega, by go_num, HF⟩
                case measure => simp [intOf]; omega
              · exfalso; omega
        · have HF := Lib.hid (HNO.out k hlt he)
          have gl : ¬ (97 ≤ l[k].toNat ∧ l[k].toNat ≤ 122) := fun h => he (by
            unfold Au.okAt
            split
            · exact (Au.letter_iff _).2 h
            · exact (Au.nameCh_iff _).2 (.inl h))
          have hl1 : (((T l)[k]'(by rw [T_size]; exact hlt)).toNat : Int) < 97 ∨ (97 : Int) ≤ (((T l)[k]'(by rw [T_size]; exact hlt)).toNat : Int) ∧ (122 : Int) < (((T l)[k]'(by rw [T_size]; exact hlt)).toNat : Int) ∧ decide ((((T l)[k]'(by rw [T_size]; exact hlt)).toNat : Int) ≤ 122) = false := by
            rw [decide_eq_false_iff_not]
            show (l[k].toNat : Int) < 97 ∨ (97 : Int) ≤ (l[k].toNat : Int) ∧ (122 : Int) < (l[k].toNat : Int) ∧ ¬ (l[k].toNat : Int) ≤ 122
            omega
          by_cases hk0 : k = 0
          · have hk1 : (k : Int) = 0 := by omega
            clear he gl hk1
            subst hk0
            rcases hl1 with hl1 | ⟨hl1, hl2, hl3⟩
            all_goals
              go_wp2_with fail
              go_ret
              exact ⟨by rw [HN.out, HF.out]; rfl, rfl⟩
          · have hk1 : ((k : Int) == 0) = false := by rw [beq_eq_false_iff_ne]; omega
            have hcl : ¬ _ := mt (Au.nameCh_iff l[k]).2 (fun h => he (by unfold Au.okAt; rw [if_neg hk0]; exact h))
            have g2 : (((T l)[k]'(by rw [T_size]; exact hlt)).toNat : Int) < 48 ∨ (48 : Int) ≤ (((T l)[k]'(by rw [T_size]; exact hlt)).toNat : Int) ∧ (57 : Int) < (((T l)[k]'(by rw [T_size]; exact hlt)).toNat : Int) ∧ decide ((((T l)[k]'(by rw [T_size]; exact hlt)).toNat : Int) ≤ 57) = false := by
              rw [decide_eq_false_iff_not]
              show (l[k].toNat : Int) < 48 ∨ (48 : Int) ≤ (l[k].toNat : Int) ∧ (57 : Int) < (l[k].toNat : Int) ∧ ¬ (l[k].toNat : Int) ≤ 57
              omega
            have g3 : ((((T l)[k]'(by rw [T_size]; exact hlt)).toNat : Int) == 45) = false := by
              rw [beq_eq_false_iff_ne]
              show ¬ (l[k].toNat : Int) = 45
              omega
            have g4 : ((((T l)[k]'(by rw [T_size]; exact hlt)).toNat : Int) == 95) = false := by
              rw [beq_eq_false_iff_ne]
              show ¬ (l[k].toNat : Int) = 95
              omega
            clear he gl hk0 hcl
            rcases hl1 with hl1 | ⟨hl1, hl2, hl3⟩ <;> rcases g2 with g2 | ⟨g2, g5, g6⟩
            all_goals first
              | (exfalso; omega)
              | (go_wp2_with fail
                 go_ret
                 exact ⟨by rw [HN.out, HF.out]; rfl, rfl⟩)
      · obtain rfl : k = l.length := by omega
        have HF := Lib.hid (HYES.out (fun j hj => hn.out j hj (Nat.le_refl _)))
        have HG := Lib.hid HN.out
        by_cases h1 : 1 ≤ l.length
        · have k1 : (1 : Int) ≤ l.length := by omega
          by_cases h2 : l.length ≤ 32
          · have k2 : (l.length : Int) ≤ 32 := by omega
            have HE := Lib.hid (show Au.bareOk l = true from by rw [HF.out, decide_eq_true h1, decide_eq_true h2]; rfl)
            clear h1 h2
            go_wp2_with fail
            go_ret
            exact ⟨by rw [HN.out, HE.out]; rfl, rfl⟩
          · have k2 : ¬ (l.length : Int) ≤ 32 := by omega
            have HE := Lib.hid (show Au.bareOk l = false from by rw [HF.out, decide_eq_false h2, Bool.and_false])
            clear h1 h2
            go_wp2_with fail
            go_ret
            exact ⟨by rw [HN.out, HE.out]; rfl, rfl⟩
        · have k1 : ¬ (1 : Int) ≤ l.length := by omega
          have HE := Lib.hid (show Au.bareOk l = false from by rw [HF.out, decide_eq_false h1, Bool.false_and])
          clear h1
          go_wp2_with fail
          go_ret
          exact ⟨by rw [HN.out, HE.out]; rfl, rfl⟩
  | true =>
    have hsl' := hsl.2 rfl
    have hlen : (1 : Int) ≤ l.length := by have := hsl'.1; omega
    have hext := hsl'.2
    clear hsl hsl'
    generalize Au.strip l = t at *
    have hst2 : t.length ≤ 1000000000 := by omega
    have HNO := Lib.hid (fun k h hn => Au.ok_no (t := t) (k := k) h hn)
    have HYES := Lib.hid (fun h => Au.ok_yes (t := t) h)
    have hsz : ((T l).size : Int) = (l.length : Int) := by rw [T_size]
    generalize T l = S at *
    go_enter Tryz.func67, Tryz.ntmps67
    go_wp2_with fail
    (with_reducible refine (HSC.out _).mono ?_); rintro e w1 ⟨rfl, rfl⟩
    go_wp2_with fail
    try rw [hext]
    clear HSC hext
    go_loop [3] (fun i => ∃ k : Nat, k ≤ t.length ∧ i = .int .i64 (k : Int) ∧ Hid (∀ j (hj : j < k) (hk : k ≤ t.length), Au.okAt t j (by omega) = true)) (fun i => t.length - (intOf i).toNat)
    case atStart => exact ⟨0, by omega, rfl, (fun j hj => by omega)⟩
    case round =>
      obtain ⟨k, hk, rfl, hn⟩ := hrel
      by_cases hlt : k < t.length
      · have hz0 : 0 ≤ (((T t)[k]'(by rw [T_size]; exact hlt)).toNat : Int) := by omega
        by_cases he : Au.okAt t k hlt = true
        · have HF : Hid (∀ j (hj : j < k + 1) (hk : k + 1 ≤ t.length), Au.okAt t j (by omega) = true) := fun j hj hk' => by
            rcases Nat.lt_or_ge j k with h | h
            · exact hn.out j h (by omega)
            · obtain rfl : j = k := by omega
              exact he
          by_cases hlet : Au.letter t[k] = true
          · have g := (Au.letter_iff _).1 hlet
            have g1 : (97 : Int) ≤ (((T t)[k]'(by rw [T_size]; exact hlt)).toNat : Int) := by show (97 : Int) ≤ (t[k].toNat : Int); omega
            have g2 : (((T t)[k]'(by rw [T_size]; exact hlt)).toNat : Int) ≤ 122 := by show (t[k].toNat : Int) ≤ 122; omega
            clear he g hlet
            go_wp2_with fail
            go_round
            case rel => exact ⟨k + 1, by omega, by go_num, HF⟩
            case measure => simp [intOf]; omega
          · have gl := mt (Au.letter_iff _).2 hlet
            have hk0 : ¬ k = 0 := fun h0 => hlet (by unfold Au.okAt at he; rw [if_pos h0] at he; exact he)
            have hcl := (Au.nameCh_iff t[k]).1 (by unfold Au.okAt at he; rw [if_neg hk0] at he; exact he)
            have hk1 : ((k : Int) == 0) = false := by rw [beq_eq_false_iff_ne]; omega
            have hl1 : (((T t)[k]'(by rw [T_size]; exact hlt)).toNat : Int) < 97 ∨ (97 : Int) ≤ (((T t)[k]'(by rw [T_size]; exact hlt)).toNat : Int) ∧ (122 : Int) < (((T t)[k]'(by rw [T_size]; exact hlt)).toNat : Int) ∧ decide ((((T t)[k]'(by rw [T_size]; exact hlt)).toNat : Int) ≤ 122) = false := by
              rw [decide_eq_false_iff_not]
              show (t[k].toNat : Int) < 97 ∨ (97 : Int) ≤ (t[k].toNat : Int) ∧ (122 : Int) < (t[k].toNat : Int) ∧ ¬ (t[k].toNat : Int) ≤ 122
              omega
            rcases (show ((48 : Int) ≤ (((T t)[k]'(by rw [T_size]; exact hlt)).toNat : Int) ∧ (((T t)[k]'(by rw [T_size]; exact hlt)).toNat : Int) ≤ 57) ∨ (((T t)[k]'(by rw [T_size]; exact hlt)).toNat : Int) = 45 ∨ (((T t)[k]'(by rw [T_size]; exact hlt)).toNat : Int) = 95 from by
              show ((48 : Int) ≤ (t[k].toNat : Int) ∧ (t[k].toNat : Int) ≤ 57) ∨ (t[k].toNat : Int) = 45 ∨ (t[k].toNat : Int) = 95
              omega) with hz | hz | hz
            all_goals
              clear he gl hcl hlet
              rcases hl1 with hl1 | ⟨hl1, hl2, hl3⟩
              · go_wp2_with fail
                go_round
                case rel => exact ⟨k + 1, by omega, by go_num, HF⟩
                case measure => simp [intOf]; omega
              · exfalso; omega
        · have HF := Lib.hid (HNO.out k hlt he)
          have gl : ¬ (97 ≤ t[k].toNat ∧ t[k].toNat ≤ 122) := fun h => he (by
            unfold Au.okAt
            split
            · exact (Au.letter_iff _).2 h
            · exact (Au.nameCh_iff _).2 (.inl h))
          have hl1 : (((T t)[k]'(by rw [T_size]; exact hlt)).toNat : Int) < 97 ∨ (97 : Int) ≤ (((T t)[k]'(by rw [T_size]; exact hlt)).toNat : Int) ∧ (122 : Int) < (((T t)[k]'(by rw [T_size]; exact hlt)).toNat : Int) ∧ decide ((((T t)[k]'(by rw [T_size]; exact hlt)).toNat : Int) ≤ 122) = false := by
            rw [decide_eq_false_iff_not]
            show (t[k].toNat : Int) < 97 ∨ (97 : Int) ≤ (t[k].toNat : Int) ∧ (122 : Int) < (t[k].toNat : Int) ∧ ¬ (t[k].toNat : Int) ≤ 122
            omega
          by_cases hk0 : k = 0
          · have hk1 : (k : Int) = 0 := by omega
            clear he gl hk1
            subst hk0
            rcases hl1 with hl1 | ⟨hl1, hl2, hl3⟩
            all_goals
              go_wp2_with fail
              go_ret
              exact ⟨by rw [HN.out, HF.out]; rfl, rfl⟩
          · have hk1 : ((k : Int) == 0) = false := by rw [beq_eq_false_iff_ne]; omega
            have hcl : ¬ _ := mt (Au.nameCh_iff t[k]).2 (fun h => he (by unfold Au.okAt; rw [if_neg hk0]; exact h))
            have g2 : (((T t)[k]'(by rw [T_size]; exact hlt)).toNat : Int) < 48 ∨ (48 : Int) ≤ (((T t)[k]'(by rw [T_size]; exact hlt)).toNat : Int) ∧ (57 : Int) < (((T t)[k]'(by rw [T_size]; exact hlt)).toNat : Int) ∧ decide ((((T t)[k]'(by rw [T_size]; exact hlt)).toNat : Int) ≤ 57) = false := by
              rw [decide_eq_false_iff_not]
              show (t[k].toNat : Int) < 48 ∨ (48 : Int) ≤ (t[k].toNat : Int) ∧ (57 : Int) < (t[k].toNat : Int) ∧ ¬ (t[k].toNat : Int) ≤ 57
              omega
            have g3 : ((((T t)[k]'(by rw [T_size]; exact hlt)).toNat : Int) == 45) = false := by
              rw [beq_eq_false_iff_ne]
              show ¬ (t[k].toNat : Int) = 45
              omega
            have g4 : ((((T t)[k]'(by rw [T_size]; exact hlt)).toNat : Int) == 95) = false := by
              rw [beq_eq_false_iff_ne]
              show ¬ (t[k].toNat : Int) = 95
              omega
            clear he gl hk0 hcl
            rcases hl1 with hl1 | ⟨hl1, hl2, hl3⟩ <;> rcases g2 with g2 | ⟨g2, g5, g6⟩
            all_goals first
              | (exfalso; omega)
              | (go_wp2_with fail
                 go_ret
                 exact ⟨by rw [HN.out, HF.out]; rfl, rfl⟩)
      · obtain rfl : k = t.length := by omega
        have HF := Lib.hid (HYES.out (fun j hj => hn.out j hj (Nat.le_refl _)))
        have HG := Lib.hid HN.out
        by_cases h1 : 1 ≤ t.length
        · have k1 : (1 : Int) ≤ t.length := by omega
          by_cases h2 : t.length ≤ 32
          · have k2 : (t.length : Int) ≤ 32 := by omega
            have HE := Lib.hid (show Au.bareOk t = true from by rw [HF.out, decide_eq_true h1, decide_eq_true h2]; rfl)
            clear h1 h2
            go_wp2_with fail
            go_ret
            exact ⟨by rw [HN.out, HE.out]; rfl, rfl⟩
          · have k2 : ¬ (t.length : Int) ≤ 32 := by omega
            have HE := Lib.hid (show Au.bareOk t = false from by rw [HF.out, decide_eq_false h2, Bool.and_false])
            clear h1 h2
            go_wp2_with fail
            go_ret
            exact ⟨by rw [HN.out, HE.out]; rfl, rfl⟩
        · have k1 : ¬ (1 : Int) ≤ t.length := by omega
          have HE := Lib.hid (show Au.bareOk t = false from by rw [HF.out, decide_eq_false h1, Bool.false_and])
          clear h1
          go_wp2_with fail
          go_ret
          exact ⟨by rw [HN.out, HE.out]; rfl, rfl⟩
end Go.Proofs.YtjjdaelddicokaaGreatDoor
