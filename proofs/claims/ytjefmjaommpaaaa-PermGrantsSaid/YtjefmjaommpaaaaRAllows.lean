/- What the reference's Allows returns: Prm.alw. Conditions: the list holds the given users; the mode and the rights are ints. -/
import Derived.Test.YtjefmjaommpaaaaAllows
set_option linter.unusedVariables false
set_option linter.unusedSimpArgs false
namespace Go.Proofs.Ytjefmjaommpaaaa
open Go.RowKit
namespace Prm
/-- Right i is granted. -/
def grb (mb ow : Bool) (m i : Nat) : Bool := m.testBit i || (m.testBit (3 + i) && mb) || (m.testBit (6 + i) && ow)
def okb (mb ow : Bool) (m wt i : Nat) : Bool := !(wt.testBit i && !grb mb ow m i)
theorem tb (n i : Nat) : n.testBit i = (n / 2 ^ i % 2 == 1) := by rw [Nat.testBit_eq_decide_div_mod_eq, Bool.eq_iff_iff]; simp
theorem tb_low (m i : Nat) (h : i < 3) : m.testBit i = (m % 8).testBit i := by
  have : i = 0 ∨ i = 1 ∨ i = 2 := by omega
  rcases this with rfl | rfl | rfl <;> rw [tb, tb] <;> simp only [Nat.reducePow] <;> rw [Bool.eq_iff_iff, beq_iff_eq, beq_iff_eq] <;> omega
theorem tb_mid (m i : Nat) (h : i < 3) : m.testBit (3 + i) = (m / 8 % 8).testBit i := by
  have : i = 0 ∨ i = 1 ∨ i = 2 := by omega
  rcases this with rfl | rfl | rfl <;> rw [tb, tb] <;> simp only [Nat.reducePow, Nat.reduceAdd] <;> rw [Bool.eq_iff_iff, beq_iff_eq, beq_iff_eq] <;> omega
theorem tb_hi (m i : Nat) (h : i < 3) : m.testBit (6 + i) = (m / 64 % 8).testBit i := by
  have : i = 0 ∨ i = 1 ∨ i = 2 := by omega
  rcases this with rfl | rfl | rfl <;> rw [tb, tb] <;> simp only [Nat.reducePow, Nat.reduceAdd] <;> rw [Bool.eq_iff_iff, beq_iff_eq, beq_iff_eq] <;> omega
theorem grN_bit (mb ow : Bool) (m i : Nat) (h : i < 3) : (grN mb ow (m % 8) (m / 8 % 8) (m / 64 % 8)).testBit i = grb mb ow m i := by
  unfold grN grb
  rw [tb_low m i h, tb_mid m i h, tb_hi m i h]
  cases mb <;> cases ow <;> simp [Nat.testBit_or]
theorem and_eq (g wt : Nat) (hw : wt ≤ 7) : (g &&& wt == wt) = (!(wt.testBit 0 && !g.testBit 0) && !(wt.testBit 1 && !g.testBit 1) && !(wt.testBit 2 && !g.testBit 2)) := by
  rw [Bool.eq_iff_iff, beq_iff_eq]
  constructor
  · intro h
    have hb : ∀ i, wt.testBit i = true → g.testBit i = true := fun i hi => by
      have := congrArg (·.testBit i) h
      simp only [Nat.testBit_and] at this
      rw [hi] at this; simpa using this
    have h0 := hb 0
    have h1 := hb 1
    have h2 := hb 2
    generalize wt.testBit 0 = a0 at *
    generalize wt.testBit 1 = a1 at *
    generalize wt.testBit 2 = a2 at *
    cases a0 <;> cases a1 <;> cases a2 <;> simp at h0 h1 h2 ⊢ <;> simp [*]
  · intro h
    apply Nat.eq_of_testBit_eq
    intro i
    rw [Nat.testBit_and]
    rcases Nat.lt_or_ge i 3 with hi | hi
    · have : i = 0 ∨ i = 1 ∨ i = 2 := by omega
      simp only [Bool.and_eq_true, Bool.not_eq_true', Bool.and_eq_false_iff, Bool.not_eq_false'] at h
      obtain ⟨⟨h0, h1⟩, h2⟩ := h
      rcases this with rfl | rfl | rfl
      · rcases h0 with h0 | h0 <;> simp [h0]
      · rcases h1 with h1 | h1 <;> simp [h1]
      · rcases h2 with h2 | h2 <;> simp [h2]
    · have : wt.testBit i = false := Nat.testBit_lt_two_pow (Nat.lt_of_lt_of_le (show wt < 2 ^ 3 by omega) (Nat.pow_le_pow_right (by decide) hi))
      rw [this]; simp
theorem alwN_ok (mb ow : Bool) (m wt : Nat) (hw : wt ≤ 7) : alwN mb ow m wt = (okb mb ow m wt 0 && okb mb ow m wt 1 && okb mb ow m wt 2) := by
  unfold alwN okb
  rw [and_eq _ _ hw, grN_bit mb ow m 0 (by omega), grN_bit mb ow m 1 (by omega), grN_bit mb ow m 2 (by omega)]
theorem alwN_bad {mb ow : Bool} {m wt k : Nat} (hw : wt ≤ 7) (hk : k < 3) (h : okb mb ow m wt k = false) : alwN mb ow m wt = false := by
  rw [alwN_ok _ _ _ _ hw]
  have : k = 0 ∨ k = 1 ∨ k = 2 := by omega
  rcases this with rfl | rfl | rfl <;> simp [h]
theorem alwN_good {mb ow : Bool} {m wt : Nat} (hw : wt ≤ 7) (h : ∀ j, j < 3 → okb mb ow m wt j = true) : alwN mb ow m wt = true := by
  rw [alwN_ok _ _ _ _ hw, h 0 (by omega), h 1 (by omega), h 2 (by omega)]; rfl
end Prm

set_option maxHeartbeats 4000000 in
theorem rallows_in (v : Value) (us : List Usr) (nm uid gid : ByteArray) (m wt : Nat) (hm : m ≤ 9223372036854775807) (hw : wt ≤ 7) (w : World) (hv : Usrs w v us) (hl : us.length ≤ 1000000) (hml : ∀ j (h : j < us.length), us[j].mems.length ≤ 1000000) :
    Calls Try.prog 22 #[v, .string nm, .string uid, .string gid, .int .i64 m, .int .i64 wt] w fun e w' => e = .returned (.bool (Prm.alwN (umem us nm gid) (Prm.own nm uid) m wt)) ∧ Below w.heap.size w w' := by
  have HC := Lib.hid (fun w' (hb : Below w.heap.size w w') => rmember_any v us nm gid w' (hv.below hb) hl hml)
  have HM := Lib.hid (fun b (hb : 0 < b) w => rbit_any m b hb (by omega) w)
  have hi : (m : Int) ≤ 9223372036854775807 ∧ (wt : Int) ≤ 7 := by omega
  obtain ⟨ow, how⟩ : ∃ ow, Prm.own nm uid = ow := ⟨_, rfl⟩
  have HO : Hid ((nm.toList == uid.toList) = ow) := by
    unfold Prm.own at how
    by_cases h : nm = uid
    · rw [if_pos h] at how; rw [← how]; exact str_eq h
    · rw [if_neg h] at how; rw [← how]; exact str_ne h
  rw [how]
  generalize umem us nm gid = mb at *
  have HB0 := Lib.hid (Below.refl w.heap.size w)
  have HG := Lib.hid (Prm.alwN_good (mb := mb) (ow := ow) (m := m) hw)
  have HX := Lib.hid (fun k (hk : k < 3) => Prm.alwN_bad (mb := mb) (ow := ow) (m := m) (k := k) hw hk)
  clear hv hml how
  go_enter Try.func22, Try.ntmps22
  go_wp2_with fail
  go_loopw [13] (fun i wr => ∃ k : Nat, k ≤ 3 ∧ i = .int .i64 ((2 ^ k : Nat) : Int) ∧ Hid (∀ j, j < k → Prm.okb mb ow m wt j = true) ∧ Below w.heap.size w wr) (fun i _ => (8 - intOf i).toNat)
  case atStart => exact ⟨0, by omega, rfl, (fun j hj => by omega), HB0.out⟩
  case round =>
    obtain ⟨k, hk, rfl, hn, hb⟩ := hrel
    have HB := Lib.hid hb
    clear hb
    by_cases h9 : k < 3
    · have hp2 : 2 ^ (k + 1) = 2 * 2 ^ k := by rw [Nat.pow_succ]; omega
      have hpw : 1 ≤ 2 ^ k ∧ 2 ^ k ≤ 4 := ⟨Nat.one_le_two_pow, Nat.pow_le_pow_right (n := 2) (i := k) (j := 2) (by decide) (by omega)⟩
      have HP := Lib.hid (Prm.testBit_bit m k)
      have HQ := Lib.hid (show Prm.bit (m : Int) (8 * ((2 ^ k : Nat) : Int)) = m.testBit (3 + k) from by rw [← Prm.testBit_bit m (3 + k), Nat.pow_add]; rfl)
      have HR := Lib.hid (show Prm.bit (m : Int) (64 * ((2 ^ k : Nat) : Int)) = m.testBit (6 + k) from by rw [← Prm.testBit_bit m (6 + k), Nat.pow_add]; rfl)
      have HW := Lib.hid (show ((wt : Int) / ((2 ^ k : Nat) : Int) % 2 == 1) = wt.testBit k from by have := Prm.testBit_bit wt k; unfold Prm.bit at this; simpa using this)
      have HE := Lib.hid (show Prm.okb mb ow m wt k = !(wt.testBit k && !(m.testBit k || (m.testBit (3 + k) && mb) || (m.testBit (6 + k) && ow))) from rfl)
      have HX2 := Lib.hid (show ∀ B : Int, B = ((2 ^ k : Nat) : Int) → 2 * B = ((2 ^ (k + 1) : Nat) : Int) from fun B h => by rw [h, hp2]; omega)
      have HXK := Lib.hid (HX.out k h9)
      have HS := Lib.hid (show Prm.okb mb ow m wt k = true → ∀ j, j < k + 1 → Prm.okb mb ow m wt j = true from fun h j hj => by
        rcases Nat.lt_or_ge j k with h' | h'
        · exact hn.out j h'
        · obtain rfl : j = k := by omega
          exact h)
      clear hp2
      generalize hB : ((2 ^ k : Nat) : Int) = B at *
      have hB2 : (1 : Int) ≤ B ∧ B ≤ 4 := by omega
      have hq0 : 0 ≤ (wt : Int) / B := Int.ediv_nonneg (by omega) (by omega)
      have hq1 : (wt : Int) / B ≤ 7 := Int.le_trans (Int.ediv_le_self B (by omega)) (by omega)
      generalize m.testBit k = p at *
      generalize m.testBit (3 + k) = q at *
      generalize m.testBit (6 + k) = r at *
      generalize wt.testBit k = t at *
      clear hB hpw
      go_upto_region 6 with fail
      go_cut [14] (fun g w' => g = .bool (p || (q && mb) || (r && ow)) ∧ Below w.heap.size w w')
      case first =>
        have eo := HO.out
        cases p <;> cases q <;> cases mb <;> cases r <;> cases ow
        all_goals
          go_wp2_with fail
          ((with_reducible refine (HM.out B (by omega) _).mono ?_); rintro e w1 ⟨rfl, rfl⟩)
          rw [HP.out]
          go_wp2_with fail
          try
            (((with_reducible refine (HM.out (8 * B) (by omega) _).mono ?_); rintro e w1 ⟨rfl, rfl⟩); rw [HQ.out]; go_wp2_with fail)
          have HBB := HB
          try
            (((with_reducible refine (HC.out _ HB.out).mono ?_); rintro e w1 ⟨rfl, b1⟩); replace HBB := Lib.hid (bnext HB.out b1); clear b1; go_wp2_with fail)
          try
            (((with_reducible refine (HM.out (64 * B) (by omega) _).mono ?_); rintro e w1 ⟨rfl, rfl⟩); rw [HR.out]; go_wp2_with fail)
          go_meet
          exact ⟨rfl, HBB.out⟩
      case rest =>
        obtain ⟨rfl, hb⟩ := hcut
        have HBB := Lib.hid hb
        clear hb
        generalize (p || (q && mb) || (r && ow)) = G at *
        have ew := HW.out
        cases t <;> cases G
        all_goals
          go_wp2_with fail
          first
            | (go_roundw
               case rel => exact ⟨k + 1, by omega, by rw [HX2.out B rfl], (HS.out (by rw [HE.out]; rfl)), HBB.out⟩
               case measure => simp [intOf]; omega)
            | (go_ret
               exact ⟨by rw [HXK.out (by rw [HE.out]; rfl)]; rfl, HBB.out⟩)
    · obtain rfl : k = 3 := by omega
      have HF := Lib.hid (HG.out hn.out)
      go_wp2_with fail
      go_ret
      exact ⟨by rw [HF.out]; rfl, HB.out⟩
theorem rallows_any (v : Value) (us : List Usr) (nm uid gid : ByteArray) (m wt : Int) (hm : m ≤ 9223372036854775807) (w : World) (hv : Usrs w v us) (hl : us.length ≤ 1000000) (hml : ∀ j (h : j < us.length), us[j].mems.length ≤ 1000000) :
    Calls Try.prog 22 #[v, .string nm, .string uid, .string gid, .int .i64 m, .int .i64 wt] w fun e w' => e = .returned (.bool (Prm.alw (umem us nm gid) (Prm.own nm uid) m wt)) ∧ Below w.heap.size w w' := by
  by_cases h : m < 0 ∨ wt < 0 ∨ 7 < wt
  · rw [Prm.alw_bad h]; exact rallows_bad v nm uid gid m wt w h
  · obtain ⟨m', rfl⟩ := Int.eq_ofNat_of_zero_le (show 0 ≤ m by omega)
    obtain ⟨wt', rfl⟩ := Int.eq_ofNat_of_zero_le (show 0 ≤ wt by omega)
    rw [Prm.alw_nat (by omega)]
    exact rallows_in v us nm uid gid m' wt' (by omega) (by omega) w hv hl hml
end Go.Proofs.Ytjefmjaommpaaaa
