/- What the laws' few returns, and the walks of the laws PermAllows and PermGrants. Conditions: the list holds the given users; the numbers are ints. -/
import Derived.Test.YtjefmjaommpaaaaRAllows
import Derived.Test.YtjefmjaommpaaaaPermAlive
import Derived.Deep.RegionHeld3
set_option linter.unusedVariables false
set_option linter.unusedSimpArgs false
namespace Go.Proofs.Ytjefmjaommpaaaa
open Go.RowKit
def fewB (us : List Usr) : Bool := (us.all fun u => decide (u.mems.length ≤ 100)) && decide (us.length ≤ 100)
theorem fewB_bad {us : List Usr} {k : Nat} (h : k < us.length) (hm : 100 < us[k].mems.length) : fewB us = false := by
  unfold fewB
  have : (us.all fun u => decide (u.mems.length ≤ 100)) = false := by
    rw [Bool.eq_false_iff]; intro h'
    have := List.all_eq_true.1 h' us[k] (List.getElem_mem h)
    simp at this; omega
  rw [this]; rfl
theorem fewB_end {us : List Usr} (h : ∀ j (hj : j < us.length), us[j].mems.length ≤ 100) : fewB us = decide (us.length ≤ 100) := by
  unfold fewB
  have : (us.all fun u => decide (u.mems.length ≤ 100)) = true := by
    rw [List.all_eq_true]; intro x hx
    obtain ⟨j, hj, rfl⟩ := List.getElem_of_mem hx
    simpa using h j hj
  rw [this]; rfl
theorem fewB_true {us : List Usr} (h : fewB us = true) : us.length ≤ 100 ∧ ∀ j (hj : j < us.length), us[j].mems.length ≤ 100 := by
  unfold fewB at h
  rw [Bool.and_eq_true, List.all_eq_true, decide_eq_true_eq] at h
  exact ⟨h.2, fun j hj => by simpa using h.1 us[j] (List.getElem_mem hj)⟩
theorem Strs.formLen {w : World} {v : Value} {ss : List ByteArray} (h : Strs w v ss) : ∃ ao c, v = .slice ao ss.length c := by
  rcases h with ⟨rfl, rfl⟩ | ⟨a, cap, rfl, rfl⟩ | ⟨b, off, cap, rfl, _⟩
  · exact ⟨_, _, rfl⟩
  · exact ⟨_, _, rfl⟩
  · exact ⟨_, _, rfl⟩
set_option maxHeartbeats 1000000 in
theorem few_any (v : Value) (us : List Usr) (w : World) (hv : Usrs w v us) (hl : us.length ≤ 9223372036854775807) :
    Calls Try.prog 20 #[v] w fun e w' => e = .returned (.bool (fewB us)) ∧ w = w' := by
  rcases hv with ⟨rfl, rfl⟩ | ⟨a, cap, rfl, rfl⟩ | ⟨b, off, cap, rfl, hlt, hc, hcell⟩
  · have HF := Lib.hid (show fewB [] = true from rfl)
    go_enter Try.func20, Try.ntmps20
    go_wp2_with fail
    refine wp_loop_rounds 1 ?_
    rw [rounds_succ]
    go_wp2_with fail
    go_ret
    exact ⟨by rw [HF.out]; rfl, rfl⟩
  · have HF := Lib.hid (show fewB [] = true from rfl)
    go_enter Try.func20, Try.ntmps20
    go_wp2_with fail
    refine wp_loop_rounds 1 ?_
    rw [rounds_succ]
    go_wp2_with fail
    go_ret
    exact ⟨by rw [HF.out]; rfl, rfl⟩
  · have HC := Lib.hid hcell
    have HI := Lib.hid (fun k h => fewB_bad (us := us) (k := k) h)
    have HN := Lib.hid (fewB_end (us := us))
    clear hcell
    go_enter Try.func20, Try.ntmps20
    go_wp2_with fail
    go_loop [6] (fun i => ∃ k : Nat, k ≤ us.length ∧ i = .int .i64 (k : Int) ∧ Hid (∀ j (hj : j < k) (hk : k ≤ us.length), (us[j]'(by omega)).mems.length ≤ 100)) (fun i => us.length - (intOf i).toNat)
    case atStart => exact ⟨0, by omega, rfl, fun j hj => by omega⟩
    case round =>
      obtain ⟨k, hk, rfl, hn⟩ := hrel
      by_cases hltk : k < us.length
      · obtain ⟨c0, c1, mv, c2, hs⟩ := HC.out k hltk
        obtain ⟨ao, mc, rfl⟩ := hs.formLen
        clear hs
        by_cases he : 100 < us[k].mems.length
        · have HE := Lib.hid (HI.out k hltk he)
          have e1 : (100 : Int) < us[k].mems.length := by omega
          clear he
          go_wp2_with fail
          go_ret
          exact ⟨by rw [HE.out]; rfl, rfl⟩
        · have HS := Lib.hid (show ∀ j (hj : j < k + 1) (hk : k + 1 ≤ us.length), (us[j]'(by omega)).mems.length ≤ 100 from fun j hj hk' => by
            rcases Nat.lt_or_ge j k with h' | h'
            · exact hn.out j h' hk
            · obtain rfl : j = k := by omega
              omega)
          have e1 : (us[k].mems.length : Int) ≤ 100 := by omega
          clear he
          go_wp2_with fail
          go_round
          case rel => exact ⟨k + 1, by omega, by go_num, HS⟩
          case measure => simp [intOf]; omega
      · obtain rfl : k = us.length := by omega
        have HE := Lib.hid (HN.out fun j hj => hn.out j hj (Nat.le_refl _))
        go_wp2_with fail
        go_ret
        exact ⟨by rw [HE.out]; simp; omega, rfl⟩

/-- The cells of a user, a file's owner and group, its mode and the rights that are wanted, in memory. -/
theorem allows_held (v : Value) (us : List Usr) (nm uid gid : ByteArray) (m wt : Int) (B : Nat) (w0 : World) (hv : Usrs w0 v us) (hB : B < w0.heap.size) (hl : us.length ≤ 100) (hml : ∀ j (h : j < us.length), us[j].mems.length ≤ 100) (M WT : Int) (hM : M ≤ 9223372036854775807) (w : World)
    (h : (w.cell? ⟨B, 0, none⟩ = some (.string nm) ∧ w.cell? ⟨B, 1, none⟩ = some (.string uid) ∧ w.cell? ⟨B, 2, none⟩ = some (.string gid) ∧ w.cell? ⟨B, 3, none⟩ = some (.int .i64 m) ∧ w.cell? ⟨B, 4, none⟩ = some (.int .i64 wt)) ∧ Below w0.heap.size w0 w) :
    Calls Try.prog 21 #[v, .string nm, .string uid, .string gid, .int .i64 M, .int .i64 WT] w fun e w' => e = .returned (.bool (Prm.alw (umem us nm gid) (Prm.own nm uid) M WT)) ∧
      (w'.cell? ⟨B, 0, none⟩ = some (.string nm) ∧ w'.cell? ⟨B, 1, none⟩ = some (.string uid) ∧ w'.cell? ⟨B, 2, none⟩ = some (.string gid) ∧ w'.cell? ⟨B, 3, none⟩ = some (.int .i64 m) ∧ w'.cell? ⟨B, 4, none⟩ = some (.int .i64 wt)) ∧ Below w0.heap.size w0 w' := by
  obtain ⟨⟨h0, h1, h2, h3, h4⟩, hb⟩ := h
  have hBw : B < w.heap.size := Nat.lt_of_lt_of_le hB hb.size
  refine (allows_any v us nm uid gid M WT hM w (hv.below hb) (by omega) (fun j h => by have := hml j h; omega)).mono fun e w' ⟨he, b⟩ => ⟨he, ⟨?_, ?_, ?_, ?_, ?_⟩, bnext hb b⟩
  · rw [b.cell (p := ⟨B, 0, none⟩) hBw]; exact h0
  · rw [b.cell (p := ⟨B, 1, none⟩) hBw]; exact h1
  · rw [b.cell (p := ⟨B, 2, none⟩) hBw]; exact h2
  · rw [b.cell (p := ⟨B, 3, none⟩) hBw]; exact h3
  · rw [b.cell (p := ⟨B, 4, none⟩) hBw]; exact h4
theorem rallows_held (v : Value) (us : List Usr) (nm uid gid : ByteArray) (m wt : Int) (B : Nat) (w0 : World) (hv : Usrs w0 v us) (hB : B < w0.heap.size) (hl : us.length ≤ 100) (hml : ∀ j (h : j < us.length), us[j].mems.length ≤ 100) (M WT : Int) (hM : M ≤ 9223372036854775807) (w : World)
    (h : (w.cell? ⟨B, 0, none⟩ = some (.string nm) ∧ w.cell? ⟨B, 1, none⟩ = some (.string uid) ∧ w.cell? ⟨B, 2, none⟩ = some (.string gid) ∧ w.cell? ⟨B, 3, none⟩ = some (.int .i64 m) ∧ w.cell? ⟨B, 4, none⟩ = some (.int .i64 wt)) ∧ Below w0.heap.size w0 w) :
    Calls Try.prog 22 #[v, .string nm, .string uid, .string gid, .int .i64 M, .int .i64 WT] w fun e w' => e = .returned (.bool (Prm.alw (umem us nm gid) (Prm.own nm uid) M WT)) ∧
      (w'.cell? ⟨B, 0, none⟩ = some (.string nm) ∧ w'.cell? ⟨B, 1, none⟩ = some (.string uid) ∧ w'.cell? ⟨B, 2, none⟩ = some (.string gid) ∧ w'.cell? ⟨B, 3, none⟩ = some (.int .i64 m) ∧ w'.cell? ⟨B, 4, none⟩ = some (.int .i64 wt)) ∧ Below w0.heap.size w0 w' := by
  obtain ⟨⟨h0, h1, h2, h3, h4⟩, hb⟩ := h
  have hBw : B < w.heap.size := Nat.lt_of_lt_of_le hB hb.size
  refine (rallows_any v us nm uid gid M WT hM w (hv.below hb) (by omega) (fun j h => by have := hml j h; omega)).mono fun e w' ⟨he, b⟩ => ⟨he, ⟨?_, ?_, ?_, ?_, ?_⟩, bnext hb b⟩
  · rw [b.cell (p := ⟨B, 0, none⟩) hBw]; exact h0
  · rw [b.cell (p := ⟨B, 1, none⟩) hBw]; exact h1
  · rw [b.cell (p := ⟨B, 2, none⟩) hBw]; exact h2
  · rw [b.cell (p := ⟨B, 3, none⟩) hBw]; exact h3
  · rw [b.cell (p := ⟨B, 4, none⟩) hBw]; exact h4

theorem alive_held (B : Nat) (w0 w : World) {nm uid gid : ByteArray} {m wt : Int} (h : (w.cell? ⟨B, 0, none⟩ = some (.string nm) ∧ w.cell? ⟨B, 1, none⟩ = some (.string uid) ∧ w.cell? ⟨B, 2, none⟩ = some (.string gid) ∧ w.cell? ⟨B, 3, none⟩ = some (.int .i64 m) ∧ w.cell? ⟨B, 4, none⟩ = some (.int .i64 wt)) ∧ Below w0.heap.size w0 w) :
    Calls Try.prog 9 #[] w fun e w' => e = .returned (.bool true) ∧
      (w'.cell? ⟨B, 0, none⟩ = some (.string nm) ∧ w'.cell? ⟨B, 1, none⟩ = some (.string uid) ∧ w'.cell? ⟨B, 2, none⟩ = some (.string gid) ∧ w'.cell? ⟨B, 3, none⟩ = some (.int .i64 m) ∧ w'.cell? ⟨B, 4, none⟩ = some (.int .i64 wt)) ∧ Below w0.heap.size w0 w' := by
  obtain ⟨⟨h0, h1, h2, h3, h4⟩, hb⟩ := h
  have hBw : B < w.heap.size := block_lt_of_cell h0
  refine (alive_any w).mono fun e w' ⟨he, b⟩ => ⟨he, ⟨?_, ?_, ?_, ?_, ?_⟩, bnext hb b⟩
  · rw [b.cell (p := ⟨B, 0, none⟩) hBw]; exact h0
  · rw [b.cell (p := ⟨B, 1, none⟩) hBw]; exact h1
  · rw [b.cell (p := ⟨B, 2, none⟩) hBw]; exact h2
  · rw [b.cell (p := ⟨B, 3, none⟩) hBw]; exact h3
  · rw [b.cell (p := ⟨B, 4, none⟩) hBw]; exact h4
set_option maxHeartbeats 4000000 in
theorem pallows_any (v : Value) (us : List Usr) (nm uid gid : ByteArray) (m wt : Int) (w : World) (hv : Usrs w v us) (hl : us.length ≤ 9223372036854775807) (hm : m ≤ 9223372036854775807) :
    Calls Try.prog 5 #[v, .agg #[.string nm, .string uid, .string gid, .int .i64 m, .int .i64 wt]] w fun e w' => e = .returned (.bool true) ∧ Below w.heap.size w w' := by
  have HW := Lib.hid (fun w' (hb : Below w.heap.size w w') => few_any v us w' (hv.below hb) hl)
  have HB0 := Lib.hid (fun o => (Below.refl w.heap.size w).alloc (Nat.le_refl _) o)
  cases hf : fewB us with
  | false =>
    rw [hf] at HW
    clear hv hf
    go_enter Try.func5, Try.ntmps5
    go_wp2_with fail
    refine (HW.out _ (HB0.out _)).mono ?_; rintro e w1 ⟨rfl, rfl⟩
    go_wp2_with fail
    refine (alive_any _).mono ?_; rintro e w1 ⟨rfl, b1⟩
    go_wp2_with fail
    go_ret
    exact ⟨rfl, (HB0.out _).trans (b1.mono (by simp))⟩
  | true =>
    obtain ⟨f1, f2⟩ := fewB_true hf
    rw [hf] at HW
    have HV := Lib.hid hv
    have H2 := Lib.hid f2
    clear hf f2 hv
    go_enter Try.func5, Try.ntmps5
    go_wp2_with fail
    refine (HW.out _ (HB0.out _)).mono ?_; rintro e w1 ⟨rfl, rfl⟩
    go_wp2_with fail
    have hb0 := HB0.out (.cells #[.string nm, .string uid, .string gid, .int .i64 m, .int .i64 wt] 34)
    have hv0 := HV.out.below hb0
    have hrow := heap_alloc_new w (.cells #[.string nm, .string uid, .string gid, .int .i64 m, .int .i64 wt] 34)
    have hB : w.heap.size < (w.alloc (.cells #[.string nm, .string uid, .string gid, .int .i64 m, .int .i64 wt] 34)).heap.size := by simp
    generalize w.alloc (.cells #[.string nm, .string uid, .string gid, .int .i64 m, .int .i64 wt] 34) = w0 at *
    have g0 : w0.cell? ⟨w.heap.size, 0, none⟩ = some (.string nm) := by rw [cell_of_row _ _ _ _ _ _ hrow]; rfl
    have g1 : w0.cell? ⟨w.heap.size, 1, none⟩ = some (.string uid) := by rw [cell_of_row _ _ _ _ _ _ hrow]; rfl
    have g2 : w0.cell? ⟨w.heap.size, 2, none⟩ = some (.string gid) := by rw [cell_of_row _ _ _ _ _ _ hrow]; rfl
    have g3 : w0.cell? ⟨w.heap.size, 3, none⟩ = some (.int .i64 m) := by rw [cell_of_row _ _ _ _ _ _ hrow]; rfl
    have g4 : w0.cell? ⟨w.heap.size, 4, none⟩ = some (.int .i64 wt) := by rw [cell_of_row _ _ _ _ _ _ hrow]; rfl
    have hbr := Below.refl w0.heap.size w0
    have HA := Lib.hid (allows_held v us nm uid gid m wt w.heap.size w0 hv0 hB f1 H2.out m wt hm)
    have HR := Lib.hid (rallows_held v us nm uid gid m wt w.heap.size w0 hv0 hB f1 H2.out m wt hm)
    have HAL := Lib.hid (fun w' => alive_held w.heap.size w0 w' (nm := nm) (uid := uid) (gid := gid) (m := m) (wt := wt))
    have HBW := Lib.hid hb0
    generalize Prm.alw (umem us nm gid) (Prm.own nm uid) m wt = X at *
    clear hv0 hrow hB hb0 f1
    go_region_held3 (fun w' => (w'.cell? ⟨w.heap.size, 0, none⟩ = some (.string nm) ∧ w'.cell? ⟨w.heap.size, 1, none⟩ = some (.string uid) ∧ w'.cell? ⟨w.heap.size, 2, none⟩ = some (.string gid) ∧ w'.cell? ⟨w.heap.size, 3, none⟩ = some (.int .i64 m) ∧ w'.cell? ⟨w.heap.size, 4, none⟩ = some (.int .i64 wt)) ∧ Below w0.heap.size w0 w')
      (first | assumption | exact ⟨⟨g0, g1, g2, g3, g4⟩, hbr.drew⟩)
      (first | (go_at_call 21; refine (HA.out _ ?_).mono ?_; assumption; rintro e w' ⟨rfl, hkeep⟩) | (go_at_call 22; refine (HR.out _ ?_).mono ?_; assumption; rintro e w' ⟨rfl, hkeep⟩) | (go_at_call 9; refine (HAL.out _ ?_).mono ?_; assumption; rintro e w' ⟨rfl, hkeep⟩))
    all_goals
      go_wp2_with fail
      go_ret
      refine ⟨rfl, HBW.out.trans (Below.mono ?_ HBW.out.size)⟩
      apply And.right
      assumption
namespace Prm
theorem i64_and511 (n : Int) : bits .and .i64 n 511 = n % 512 := by
  have h : (BitVec.ofInt 64 511).toNat = 2 ^ 9 - 1 := by decide
  have key : (BitVec.ofInt 64 n &&& BitVec.ofInt 64 511).toNat = (n % ((2 ^ 64 : Nat) : Int)).toNat % 2 ^ 9 := by
    rw [BitVec.toNat_and, BitVec.toNat_ofInt, h, Nat.and_two_pow_sub_one_eq_mod]
  show IntKind.i64.wrap ((BitVec.ofInt 64 n &&& BitVec.ofInt 64 511).toNat : Nat) = n % 512
  rw [key, IntKind.wrap_i64]
  omega
theorem i64_and_any (a : Nat) (ha : a < 9223372036854775808) (n : Int) : ∃ y : Nat, bits .and .i64 (a : Int) n = ((a &&& y : Nat) : Int) := by
  refine ⟨(BitVec.ofInt 64 n).toNat, ?_⟩
  have hx : a &&& (BitVec.ofInt 64 n).toNat ≤ a := Nat.and_le_left
  show IntKind.i64.wrap ((BitVec.ofInt 64 (a : Int) &&& BitVec.ofInt 64 n).toNat : Int) = _
  rw [BitVec.toNat_and, i64_nat a ha, IntKind.wrap_i64]
  omega
theorem okb_t {mb ow : Bool} {m wt : Nat} (hw : wt ≤ 7) : alwN mb ow m wt = true ↔ ∀ i, i < 3 → wt.testBit i = true → grb mb ow m i = true := by
  rw [alwN_ok _ _ _ _ hw]
  unfold okb
  constructor
  · intro h i hi hb
    simp only [Bool.and_eq_true, Bool.not_eq_true', Bool.and_eq_false_iff, Bool.not_eq_false'] at h
    obtain ⟨⟨h0, h1⟩, h2⟩ := h
    have : i = 0 ∨ i = 1 ∨ i = 2 := by omega
    rcases this with rfl | rfl | rfl
    · rcases h0 with h | h
      · rw [hb] at h; cases h
      · exact h
    · rcases h1 with h | h
      · rw [hb] at h; cases h
      · exact h
    · rcases h2 with h | h
      · rw [hb] at h; cases h
      · exact h
  · intro h
    have h0 := h 0 (by omega)
    have h1 := h 1 (by omega)
    have h2 := h 2 (by omega)
    generalize grb mb ow m 0 = g0 at *
    generalize grb mb ow m 1 = g1 at *
    generalize grb mb ow m 2 = g2 at *
    generalize wt.testBit 0 = b0 at *
    generalize wt.testBit 1 = b1 at *
    generalize wt.testBit 2 = b2 at *
    clear h
    cases b0 <;> cases b1 <;> cases b2 <;> simp at h0 h1 h2 ⊢ <;> simp [*]
theorem grants_more {mb ow : Bool} {m wt e : Nat} (hw : wt ≤ 7) (h : alwN mb ow m wt = true) : alwN mb ow (m ||| e) wt = true := by
  rw [okb_t hw] at h ⊢
  intro i hi hb
  have := h i hi hb
  unfold grb at this ⊢
  rw [Nat.testBit_or, Nat.testBit_or, Nat.testBit_or]
  clear h
  generalize m.testBit i = b0 at *
  generalize m.testBit (3 + i) = b1 at *
  generalize m.testBit (6 + i) = b2 at *
  generalize e.testBit i = c0 at *
  generalize e.testBit (3 + i) = c1 at *
  generalize e.testBit (6 + i) = c2 at *
  revert this
  cases b0 <;> cases b1 <;> cases b2 <;> cases mb <;> cases ow <;> cases c0 <;> cases c1 <;> cases c2 <;> decide
theorem grants_less {mb ow : Bool} {m wt y : Nat} (hw : wt ≤ 7) (h : alwN mb ow m wt = true) : alwN mb ow m (wt &&& y) = true := by
  rw [okb_t hw] at h
  rw [okb_t (Nat.le_trans Nat.and_le_left hw)]
  intro i hi hb
  rw [Nat.testBit_and, Bool.and_eq_true] at hb
  exact h i hi hb.1
theorem grants_low {mb ow : Bool} {m : Nat} : alwN mb ow m (m % 8) = true := by
  rw [okb_t (by omega)]
  intro i hi hb
  unfold grb
  rw [tb_low m i hi, hb]; rfl
theorem grants_own {mb : Bool} {m : Nat} (hm : m ≤ 511) : alwN mb true m (m / 64) = true := by
  rw [okb_t (by omega)]
  intro i hi hb
  unfold grb
  rw [tb_hi m i hi, show m / 64 % 8 = m / 64 from by omega, hb]; simp
end Prm
set_option maxHeartbeats 4000000 in
theorem pgrants_bad (v : Value) (us : List Usr) (nm uid gid : ByteArray) (m wt x0 x1 : Int) (w : World) (hv : Usrs w v us) (hl : us.length ≤ 9223372036854775807)
    (h : fewB us = false ∨ m < 0 ∨ 511 < m ∨ wt < 0 ∨ 7 < wt) :
    Calls Try.prog 7 #[v, .agg #[.string nm, .string uid, .string gid, .int .i64 m, .int .i64 wt], .agg #[.int .i64 x0, .int .i64 x1]] w fun e w' => e = .returned (.bool true) ∧ Below w.heap.size w w' := by
  have HW := Lib.hid (fun w' (hb : Below w.heap.size w w') => few_any v us w' (hv.below hb) hl)
  have HB0 := Lib.hid (fun o => (Below.refl w.heap.size w).alloc (Nat.le_refl _) o)
  clear hv
  cases hf : fewB us with
  | false =>
    rw [hf] at HW
    clear h hf
    go_enter Try.func7, Try.ntmps7
    go_wp2_with fail
    refine (HW.out _ ((HB0.out _).alloc (by simp) _)).mono ?_; rintro e w1 ⟨rfl, rfl⟩
    go_wp2_with fail
    refine (alive_any _).mono ?_; rintro e w1 ⟨rfl, b1⟩
    go_wp2_with fail
    go_ret
    exact ⟨rfl, ((HB0.out _).alloc (by simp) _).trans (b1.mono (by simp; omega))⟩
  | true =>
    rw [hf] at HW
    have h' : m < 0 ∨ 511 < m ∨ wt < 0 ∨ 7 < wt := by
      rcases h with h | h
      · rw [hf] at h; cases h
      · exact h
    clear h hf
    by_cases h1 : m < 0
    · clear h'
      go_enter Try.func7, Try.ntmps7
      go_wp2_with fail
      refine (HW.out _ ((HB0.out _).alloc (by simp) _)).mono ?_; rintro e w1 ⟨rfl, rfl⟩
      have hb0 := (HB0.out (.cells #[.string nm, .string uid, .string gid, .int .i64 m, .int .i64 wt] 34)).alloc (by simp) (.cells #[.int .i64 x0, .int .i64 x1] 38)
      have hrow := (heap_alloc_old (w.alloc (.cells #[.string nm, .string uid, .string gid, .int .i64 m, .int .i64 wt] 34)) (.cells #[.int .i64 x0, .int .i64 x1] 38) (r := w.heap.size) (by simp)).trans (heap_alloc_new w (.cells #[.string nm, .string uid, .string gid, .int .i64 m, .int .i64 wt] 34))
      have hrow2 : ((w.alloc (.cells #[.string nm, .string uid, .string gid, .int .i64 m, .int .i64 wt] 34)).alloc (.cells #[.int .i64 x0, .int .i64 x1] 38)).heap[w.heap.size + 1]? = some (.cells #[.int .i64 x0, .int .i64 x1] 38) := by
        have := heap_alloc_new (w.alloc (.cells #[.string nm, .string uid, .string gid, .int .i64 m, .int .i64 wt] 34)) (.cells #[.int .i64 x0, .int .i64 x1] 38)
        rwa [show (w.alloc (.cells #[.string nm, .string uid, .string gid, .int .i64 m, .int .i64 wt] 34)).heap.size = w.heap.size + 1 from by simp] at this
      generalize (w.alloc (.cells #[.string nm, .string uid, .string gid, .int .i64 m, .int .i64 wt] 34)).alloc (.cells #[.int .i64 x0, .int .i64 x1] 38) = w0 at *
      have g0 : w0.cell? ⟨w.heap.size, 0, none⟩ = some (.string nm) := by rw [cell_of_row _ _ _ _ _ _ hrow]; rfl
      have g1 : w0.cell? ⟨w.heap.size, 1, none⟩ = some (.string uid) := by rw [cell_of_row _ _ _ _ _ _ hrow]; rfl
      have g2 : w0.cell? ⟨w.heap.size, 2, none⟩ = some (.string gid) := by rw [cell_of_row _ _ _ _ _ _ hrow]; rfl
      have g3 : w0.cell? ⟨w.heap.size, 3, none⟩ = some (.int .i64 m) := by rw [cell_of_row _ _ _ _ _ _ hrow]; rfl
      have g4 : w0.cell? ⟨w.heap.size, 4, none⟩ = some (.int .i64 wt) := by rw [cell_of_row _ _ _ _ _ _ hrow]; rfl
      have g5 : w0.cell? ⟨w.heap.size + 1, 0, none⟩ = some (.int .i64 x0) := by rw [cell_of_row _ _ _ _ _ _ hrow2]; rfl
      have g6 : w0.cell? ⟨w.heap.size + 1, 1, none⟩ = some (.int .i64 x1) := by rw [cell_of_row _ _ _ _ _ _ hrow2]; rfl
      have HBW := Lib.hid hb0
      clear hb0 hrow hrow2
      go_wp2_with fail
      refine (alive_any _).mono ?_; rintro e w1 ⟨rfl, b1⟩
      go_wp2_with fail
      go_ret
      exact ⟨rfl, HBW.out.trans (b1.mono HBW.out.size)⟩
    · by_cases h2 : 511 < m
      · have g1' : 0 ≤ m := by omega
        clear h1
        clear h'
        go_enter Try.func7, Try.ntmps7
        go_wp2_with fail
        refine (HW.out _ ((HB0.out _).alloc (by simp) _)).mono ?_; rintro e w1 ⟨rfl, rfl⟩
        have hb0 := (HB0.out (.cells #[.string nm, .string uid, .string gid, .int .i64 m, .int .i64 wt] 34)).alloc (by simp) (.cells #[.int .i64 x0, .int .i64 x1] 38)
        have hrow := (heap_alloc_old (w.alloc (.cells #[.string nm, .string uid, .string gid, .int .i64 m, .int .i64 wt] 34)) (.cells #[.int .i64 x0, .int .i64 x1] 38) (r := w.heap.size) (by simp)).trans (heap_alloc_new w (.cells #[.string nm, .string uid, .string gid, .int .i64 m, .int .i64 wt] 34))
        have hrow2 : ((w.alloc (.cells #[.string nm, .string uid, .string gid, .int .i64 m, .int .i64 wt] 34)).alloc (.cells #[.int .i64 x0, .int .i64 x1] 38)).heap[w.heap.size + 1]? = some (.cells #[.int .i64 x0, .int .i64 x1] 38) := by
          have := heap_alloc_new (w.alloc (.cells #[.string nm, .string uid, .string gid, .int .i64 m, .int .i64 wt] 34)) (.cells #[.int .i64 x0, .int .i64 x1] 38)
          rwa [show (w.alloc (.cells #[.string nm, .string uid, .string gid, .int .i64 m, .int .i64 wt] 34)).heap.size = w.heap.size + 1 from by simp] at this
        generalize (w.alloc (.cells #[.string nm, .string uid, .string gid, .int .i64 m, .int .i64 wt] 34)).alloc (.cells #[.int .i64 x0, .int .i64 x1] 38) = w0 at *
        have g0 : w0.cell? ⟨w.heap.size, 0, none⟩ = some (.string nm) := by rw [cell_of_row _ _ _ _ _ _ hrow]; rfl
        have g1 : w0.cell? ⟨w.heap.size, 1, none⟩ = some (.string uid) := by rw [cell_of_row _ _ _ _ _ _ hrow]; rfl
        have g2 : w0.cell? ⟨w.heap.size, 2, none⟩ = some (.string gid) := by rw [cell_of_row _ _ _ _ _ _ hrow]; rfl
        have g3 : w0.cell? ⟨w.heap.size, 3, none⟩ = some (.int .i64 m) := by rw [cell_of_row _ _ _ _ _ _ hrow]; rfl
        have g4 : w0.cell? ⟨w.heap.size, 4, none⟩ = some (.int .i64 wt) := by rw [cell_of_row _ _ _ _ _ _ hrow]; rfl
        have g5 : w0.cell? ⟨w.heap.size + 1, 0, none⟩ = some (.int .i64 x0) := by rw [cell_of_row _ _ _ _ _ _ hrow2]; rfl
        have g6 : w0.cell? ⟨w.heap.size + 1, 1, none⟩ = some (.int .i64 x1) := by rw [cell_of_row _ _ _ _ _ _ hrow2]; rfl
        have HBW := Lib.hid hb0
        clear hb0 hrow hrow2
        go_wp2_with fail
        refine (alive_any _).mono ?_; rintro e w1 ⟨rfl, b1⟩
        go_wp2_with fail
        go_ret
        exact ⟨rfl, HBW.out.trans (b1.mono HBW.out.size)⟩
      · have g2' : 0 ≤ m ∧ m ≤ 511 := by omega
        clear h1 h2
        by_cases h3 : wt < 0
        · clear h'
          go_enter Try.func7, Try.ntmps7
          go_wp2_with fail
          refine (HW.out _ ((HB0.out _).alloc (by simp) _)).mono ?_; rintro e w1 ⟨rfl, rfl⟩
          have hb0 := (HB0.out (.cells #[.string nm, .string uid, .string gid, .int .i64 m, .int .i64 wt] 34)).alloc (by simp) (.cells #[.int .i64 x0, .int .i64 x1] 38)
          have hrow := (heap_alloc_old (w.alloc (.cells #[.string nm, .string uid, .string gid, .int .i64 m, .int .i64 wt] 34)) (.cells #[.int .i64 x0, .int .i64 x1] 38) (r := w.heap.size) (by simp)).trans (heap_alloc_new w (.cells #[.string nm, .string uid, .string gid, .int .i64 m, .int .i64 wt] 34))
          have hrow2 : ((w.alloc (.cells #[.string nm, .string uid, .string gid, .int .i64 m, .int .i64 wt] 34)).alloc (.cells #[.int .i64 x0, .int .i64 x1] 38)).heap[w.heap.size + 1]? = some (.cells #[.int .i64 x0, .int .i64 x1] 38) := by
            have := heap_alloc_new (w.alloc (.cells #[.string nm, .string uid, .string gid, .int .i64 m, .int .i64 wt] 34)) (.cells #[.int .i64 x0, .int .i64 x1] 38)
            rwa [show (w.alloc (.cells #[.string nm, .string uid, .string gid, .int .i64 m, .int .i64 wt] 34)).heap.size = w.heap.size + 1 from by simp] at this
          generalize (w.alloc (.cells #[.string nm, .string uid, .string gid, .int .i64 m, .int .i64 wt] 34)).alloc (.cells #[.int .i64 x0, .int .i64 x1] 38) = w0 at *
          have g0 : w0.cell? ⟨w.heap.size, 0, none⟩ = some (.string nm) := by rw [cell_of_row _ _ _ _ _ _ hrow]; rfl
          have g1 : w0.cell? ⟨w.heap.size, 1, none⟩ = some (.string uid) := by rw [cell_of_row _ _ _ _ _ _ hrow]; rfl
          have g2 : w0.cell? ⟨w.heap.size, 2, none⟩ = some (.string gid) := by rw [cell_of_row _ _ _ _ _ _ hrow]; rfl
          have g3 : w0.cell? ⟨w.heap.size, 3, none⟩ = some (.int .i64 m) := by rw [cell_of_row _ _ _ _ _ _ hrow]; rfl
          have g4 : w0.cell? ⟨w.heap.size, 4, none⟩ = some (.int .i64 wt) := by rw [cell_of_row _ _ _ _ _ _ hrow]; rfl
          have g5 : w0.cell? ⟨w.heap.size + 1, 0, none⟩ = some (.int .i64 x0) := by rw [cell_of_row _ _ _ _ _ _ hrow2]; rfl
          have g6 : w0.cell? ⟨w.heap.size + 1, 1, none⟩ = some (.int .i64 x1) := by rw [cell_of_row _ _ _ _ _ _ hrow2]; rfl
          have HBW := Lib.hid hb0
          clear hb0 hrow hrow2
          go_wp2_with fail
          refine (alive_any _).mono ?_; rintro e w1 ⟨rfl, b1⟩
          go_wp2_with fail
          go_ret
          exact ⟨rfl, HBW.out.trans (b1.mono HBW.out.size)⟩
        · have h4 : 7 < wt := by omega
          clear h3
          clear h'
          go_enter Try.func7, Try.ntmps7
          go_wp2_with fail
          refine (HW.out _ ((HB0.out _).alloc (by simp) _)).mono ?_; rintro e w1 ⟨rfl, rfl⟩
          have hb0 := (HB0.out (.cells #[.string nm, .string uid, .string gid, .int .i64 m, .int .i64 wt] 34)).alloc (by simp) (.cells #[.int .i64 x0, .int .i64 x1] 38)
          have hrow := (heap_alloc_old (w.alloc (.cells #[.string nm, .string uid, .string gid, .int .i64 m, .int .i64 wt] 34)) (.cells #[.int .i64 x0, .int .i64 x1] 38) (r := w.heap.size) (by simp)).trans (heap_alloc_new w (.cells #[.string nm, .string uid, .string gid, .int .i64 m, .int .i64 wt] 34))
          have hrow2 : ((w.alloc (.cells #[.string nm, .string uid, .string gid, .int .i64 m, .int .i64 wt] 34)).alloc (.cells #[.int .i64 x0, .int .i64 x1] 38)).heap[w.heap.size + 1]? = some (.cells #[.int .i64 x0, .int .i64 x1] 38) := by
            have := heap_alloc_new (w.alloc (.cells #[.string nm, .string uid, .string gid, .int .i64 m, .int .i64 wt] 34)) (.cells #[.int .i64 x0, .int .i64 x1] 38)
            rwa [show (w.alloc (.cells #[.string nm, .string uid, .string gid, .int .i64 m, .int .i64 wt] 34)).heap.size = w.heap.size + 1 from by simp] at this
          generalize (w.alloc (.cells #[.string nm, .string uid, .string gid, .int .i64 m, .int .i64 wt] 34)).alloc (.cells #[.int .i64 x0, .int .i64 x1] 38) = w0 at *
          have g0 : w0.cell? ⟨w.heap.size, 0, none⟩ = some (.string nm) := by rw [cell_of_row _ _ _ _ _ _ hrow]; rfl
          have g1 : w0.cell? ⟨w.heap.size, 1, none⟩ = some (.string uid) := by rw [cell_of_row _ _ _ _ _ _ hrow]; rfl
          have g2 : w0.cell? ⟨w.heap.size, 2, none⟩ = some (.string gid) := by rw [cell_of_row _ _ _ _ _ _ hrow]; rfl
          have g3 : w0.cell? ⟨w.heap.size, 3, none⟩ = some (.int .i64 m) := by rw [cell_of_row _ _ _ _ _ _ hrow]; rfl
          have g4 : w0.cell? ⟨w.heap.size, 4, none⟩ = some (.int .i64 wt) := by rw [cell_of_row _ _ _ _ _ _ hrow]; rfl
          have g5 : w0.cell? ⟨w.heap.size + 1, 0, none⟩ = some (.int .i64 x0) := by rw [cell_of_row _ _ _ _ _ _ hrow2]; rfl
          have g6 : w0.cell? ⟨w.heap.size + 1, 1, none⟩ = some (.int .i64 x1) := by rw [cell_of_row _ _ _ _ _ _ hrow2]; rfl
          have HBW := Lib.hid hb0
          clear hb0 hrow hrow2
          go_wp2_with fail
          refine (alive_any _).mono ?_; rintro e w1 ⟨rfl, b1⟩
          go_wp2_with fail
          go_ret
          exact ⟨rfl, HBW.out.trans (b1.mono HBW.out.size)⟩
end Go.Proofs.Ytjefmjaommpaaaa
