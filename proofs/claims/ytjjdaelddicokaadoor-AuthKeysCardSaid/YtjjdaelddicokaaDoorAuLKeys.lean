/- The law AuthKeys returns true. Conditions: the slice holds the given list; the 64 constants in the variable. -/
import Derived.Test.YtjjdaelddicokaaDoorAuAwake
import Derived.Test.YtjjdaelddicokaaDoorAuRef3
set_option linter.unusedVariables false
set_option linter.unusedSimpArgs false
namespace Go.Proofs.YtjjdaelddicokaaDoor
open Go.RowKit
open Au (Att Cnv)
namespace Au
theorem start_keys (l : List Att) (z : List UInt8) (hz : z.length = 32) : (start sChal 2 l z).2 = keyE l := by
  unfold start
  rw [if_neg (by decide), if_neg (by rw [hz]; decide)]
  by_cases h : keyE l = 0
  · rw [if_neg (by simpa using h)]; exact h.symm
  · rw [if_pos h]
theorem small_le {l : List Att} (h : small l = true) : l.length ≤ 40 ∧ ∀ j (hj : j < l.length), l[j].name.length ≤ 200 ∧ l[j].value.length ≤ 200 := by
  unfold small at h
  rw [Bool.and_eq_true, decide_eq_true_eq] at h
  refine ⟨h.1, fun j hj => ?_⟩
  have := List.all_eq_true.1 h.2 l[j] (List.getElem_mem hj)
  unfold briefA at this
  simpa using this
end Au
theorem law_awake (w : World) (hK : KIn w) : ∀ W, Below w.heap.size w W → Calls Tryd.prog 10 #[] W fun e w' => e = .returned (.bool true) ∧ Below W.heap.size W w' := fun W h => awake_any W (hK.below h)
set_option maxRecDepth 100000 in
set_option maxHeartbeats 16000000 in
theorem keys_T (kv : Value) (l : List Att) (w : World) (hv : Atts w kv l) (hK : KIn w) (hl : l.length ≤ 9223372036854775807) :
    Calls Tryd.prog 6 #[kv] w fun e w' => e = .returned (.bool true) ∧ Below w.heap.size w w' := by
  have HV := Lib.hid hv
  have HAL := Lib.hid (law_awake w hK)
  have HSM := Lib.hid (fun (W : World) (h : Atts W kv l) => small_any kv l W h)
  clear hv hK
  cases hs : Au.small l with
  | false =>
    rw [hs] at HSM
    clear hs
    go_enter Tryd.func6, Tryd.ntmps6
    go_wp2_with fail
    (with_reducible refine (HSM.out _ HV.out).mono ?_); rintro e w0 ⟨rfl, rfl⟩
    go_wp2_with fail
    (with_reducible refine (HAL.out _ (Below.refl _ _)).mono ?_); rintro e v1 ⟨rfl, hbz⟩
    have HBW2 := Lib.hid (hbz)
    clear hbz
    have HE := Lib.hid HBW2.out
    go_wp2_with fail
    go_ret
    exact ⟨rfl, HE.out⟩
  | true =>
    obtain ⟨hle, hfl⟩ := Au.small_le hs
    rw [hs] at HSM
    clear hs
    have hk := Au.start_keys l [0, 0, 0, 0, 0, 0, 0, 0, 0, 0, 0, 0, 0, 0, 0, 0, 0, 0, 0, 0, 0, 0, 0, 0, 0, 0, 0, 0, 0, 0, 0, 0] rfl
    obtain ⟨R, er, hR⟩ : ∃ R er, Au.start Au.sChal 2 l [0, 0, 0, 0, 0, 0, 0, 0, 0, 0, 0, 0, 0, 0, 0, 0, 0, 0, 0, 0, 0, 0, 0, 0, 0, 0, 0, 0, 0, 0, 0, 0] = (R, er) := ⟨_, _, rfl⟩
    rw [hR] at hk
    have hke : er = Au.keyE l := hk
    have HST := Lib.hid (fun (W : World) (h : Atts W kv l) => start_bx [99, 104, 97, 108] 2 kv l [0, 0, 0, 0, 0, 0, 0, 0, 0, 0, 0, 0, 0, 0, 0, 0, 0, 0, 0, 0, 0, 0, 0, 0, 0, 0, 0, 0, 0, 0, 0, 0] R er hR W h (by omega) (fun j hj => by have := hfl j hj; omega) (by decide))
    have HCK := Lib.hid (fun (W : World) (h : Atts W kv l) => rchk_any kv l W h (by omega) (fun j hj => by have := hfl j hj; omega))
    have HFU := Lib.hid (fun (W : World) (h : Atts W kv l) => show Calls Tryd.prog 23 #[kv, .string (T [117, 115, 101, 114])] W fun e w' => e = .returned (.tuple #[.string (T (Au.find Au.sUser l)), .bool (Au.has Au.sUser l)]) ∧ Below W.heap.size W w' from rafind_any kv l Au.sUser W h (by omega))
    have HFS := Lib.hid (fun (W : World) (h : Atts W kv l) => show Calls Tryd.prog 23 #[kv, .string (T [33, 115, 101, 99, 114, 101, 116])] W fun e w' => e = .returned (.tuple #[.string (T (Au.find Au.sSecret l)), .bool (Au.has Au.sSecret l)]) ∧ Below W.heap.size W w' from rafind_any kv l Au.sSecret W h (by omega))
    unfold Au.keyE at hke
    clear hk hR hle hfl
    generalize Au.check l = ck at *
    by_cases hc : ck = 0
    rotate_left
    · rw [if_neg hc] at hke
      subst hke
      have e1 : (er != 0) = true := by simpa using hc
      clear hc
      go_enter Tryd.func6, Tryd.ntmps6
      go_wp2_with fail
      (with_reducible refine (HSM.out _ HV.out).mono ?_); rintro e w0 ⟨rfl, rfl⟩
      go_wp2_with fail
      (with_reducible refine (HST.out _ HV.out).mono ?_); rintro e v1 ⟨a1, n1, c1, rfl, hta, hbl⟩
      have HBW2 := Lib.hid (hbl)
      clear hbl
      have HTA := Lib.hid hta
      clear hta
      go_upto_region 4 with fail
      have HX3 := Lib.hid (bx_new (c := R) HTA.out)
      have HBV3 := Lib.hid ((Below.refl v1.heap.size v1).alloc (Nat.le_refl _) (.cells #[.int .i64 R.id, .string (T R.proto), .int .i64 R.role, .int .i64 R.phase, .int .i64 R.step, (.slice a1 n1 c1), .string (T R.own), .string (T R.peer), .string (T R.user), .int .i64 R.err] 28))
      clear HTA
      generalize World.alloc _ _ = V3 at *
      go_wp2_with fail
      (with_reducible refine (HCK.out _ (HV.out.below (bnext HBW2.out HBV3.out))).mono ?_); rintro e v4 ⟨rfl, hbl⟩
      have HBW5 := Lib.hid (hbl)
      clear hbl
      go_wp2_with fail
      (with_reducible refine (HAL.out _ (bnext (bnext HBW2.out HBV3.out) HBW5.out)).mono ?_); rintro e v6 ⟨rfl, hbz⟩
      have HBW7 := Lib.hid (hbz)
      clear hbz
      have HE := Lib.hid (bnext (bnext (bnext HBW2.out HBV3.out) HBW5.out) HBW7.out)
      go_wp2_with fail
      go_ret
      exact ⟨rfl, HE.out⟩
    subst hc
    rw [if_pos rfl] at hke
    unfold Au.keyOk Au.user Au.sec at hke
    by_cases h1 : 1 ≤ (Au.find Au.sUser l).length
    rotate_left
    · obtain rfl : er = 52 := by rw [hke, decide_eq_false h1]; rfl
      have f1 : decide (1 ≤ ((Au.find Au.sUser l).length : Int)) = false := decide_eq_false (by omega)
      clear hke h1
      go_enter Tryd.func6, Tryd.ntmps6
      go_wp2_with fail
      (with_reducible refine (HSM.out _ HV.out).mono ?_); rintro e w0 ⟨rfl, rfl⟩
      go_wp2_with fail
      (with_reducible refine (HST.out _ HV.out).mono ?_); rintro e v1 ⟨a1, n1, c1, rfl, hta, hbl⟩
      have HBW2 := Lib.hid (hbl)
      clear hbl
      have HTA := Lib.hid hta
      clear hta
      go_upto_region 4 with fail
      have HX3 := Lib.hid (bx_new (c := R) HTA.out)
      have HBV3 := Lib.hid ((Below.refl v1.heap.size v1).alloc (Nat.le_refl _) (.cells #[.int .i64 R.id, .string (T R.proto), .int .i64 R.role, .int .i64 R.phase, .int .i64 R.step, (.slice a1 n1 c1), .string (T R.own), .string (T R.peer), .string (T R.user), .int .i64 R.err] 28))
      clear HTA
      generalize World.alloc _ _ = V3 at *
      go_wp2_with fail
      (with_reducible refine (HCK.out _ (HV.out.below (bnext HBW2.out HBV3.out))).mono ?_); rintro e v4 ⟨rfl, hbl⟩
      have HBW5 := Lib.hid (hbl)
      clear hbl
      go_wp2_with fail
      (with_reducible refine (HFU.out _ (HV.out.below (bnext (bnext HBW2.out HBV3.out) HBW5.out))).mono ?_); rintro e v6 ⟨rfl, hbl⟩
      have HBW7 := Lib.hid (hbl)
      clear hbl
      go_wp2_with fail
      (with_reducible refine (HFS.out _ (HV.out.below (bnext (bnext (bnext HBW2.out HBV3.out) HBW5.out) HBW7.out))).mono ?_); rintro e v8 ⟨rfl, hbl⟩
      have HBW9 := Lib.hid (hbl)
      clear hbl
      go_upto_region 9 with fail
      generalize Au.find Au.sUser l = u at *
      generalize Au.find Au.sSecret l = s at *
      go_wp2_with fail
      (with_reducible refine (HAL.out _ (bnext (bnext (bnext (bnext HBW2.out HBV3.out) HBW5.out) HBW7.out) HBW9.out)).mono ?_); rintro e v10 ⟨rfl, hbz⟩
      have HBW11 := Lib.hid (hbz)
      clear hbz
      have HE := Lib.hid (bnext (bnext (bnext (bnext (bnext HBW2.out HBV3.out) HBW5.out) HBW7.out) HBW9.out) HBW11.out)
      go_wp2_with fail
      go_ret
      exact ⟨rfl, HE.out⟩
    have f1 : 1 ≤ ((Au.find Au.sUser l).length : Int) := by omega
    rw [decide_eq_true h1] at hke
    clear h1
    by_cases h2 : (Au.find Au.sUser l).length ≤ 32
    rotate_left
    · obtain rfl : er = 52 := by rw [hke, decide_eq_false h2]; rfl
      have f2 : decide (((Au.find Au.sUser l).length : Int) ≤ 32) = false := decide_eq_false (by omega)
      clear hke h2
      go_enter Tryd.func6, Tryd.ntmps6
      go_wp2_with fail
      (with_reducible refine (HSM.out _ HV.out).mono ?_); rintro e w0 ⟨rfl, rfl⟩
      go_wp2_with fail
      (with_reducible refine (HST.out _ HV.out).mono ?_); rintro e v1 ⟨a1, n1, c1, rfl, hta, hbl⟩
      have HBW2 := Lib.hid (hbl)
      clear hbl
      have HTA := Lib.hid hta
      clear hta
      go_upto_region 4 with fail
      have HX3 := Lib.hid (bx_new (c := R) HTA.out)
      have HBV3 := Lib.hid ((Below.refl v1.heap.size v1).alloc (Nat.le_refl _) (.cells #[.int .i64 R.id, .string (T R.proto), .int .i64 R.role, .int .i64 R.phase, .int .i64 R.step, (.slice a1 n1 c1), .string (T R.own), .string (T R.peer), .string (T R.user), .int .i64 R.err] 28))
      clear HTA
      generalize World.alloc _ _ = V3 at *
      go_wp2_with fail
      (with_reducible refine (HCK.out _ (HV.out.below (bnext HBW2.out HBV3.out))).mono ?_); rintro e v4 ⟨rfl, hbl⟩
      have HBW5 := Lib.hid (hbl)
      clear hbl
      go_wp2_with fail
      (with_reducible refine (HFU.out _ (HV.out.below (bnext (bnext HBW2.out HBV3.out) HBW5.out))).mono ?_); rintro e v6 ⟨rfl, hbl⟩
      have HBW7 := Lib.hid (hbl)
      clear hbl
      go_wp2_with fail
      (with_reducible refine (HFS.out _ (HV.out.below (bnext (bnext (bnext HBW2.out HBV3.out) HBW5.out) HBW7.out))).mono ?_); rintro e v8 ⟨rfl, hbl⟩
      have HBW9 := Lib.hid (hbl)
      clear hbl
      go_upto_region 9 with fail
      generalize Au.find Au.sUser l = u at *
      generalize Au.find Au.sSecret l = s at *
      go_wp2_with fail
      (with_reducible refine (HAL.out _ (bnext (bnext (bnext (bnext HBW2.out HBV3.out) HBW5.out) HBW7.out) HBW9.out)).mono ?_); rintro e v10 ⟨rfl, hbz⟩
      have HBW11 := Lib.hid (hbz)
      clear hbz
      have HE := Lib.hid (bnext (bnext (bnext (bnext (bnext HBW2.out HBV3.out) HBW5.out) HBW7.out) HBW9.out) HBW11.out)
      go_wp2_with fail
      go_ret
      exact ⟨rfl, HE.out⟩
    have f2 : ((Au.find Au.sUser l).length : Int) ≤ 32 := by omega
    rw [decide_eq_true h2] at hke
    clear h2
    by_cases h3 : 1 ≤ (Au.find Au.sSecret l).length
    rotate_left
    · obtain rfl : er = 52 := by rw [hke, decide_eq_false h3]; rfl
      have f3 : decide (1 ≤ ((Au.find Au.sSecret l).length : Int)) = false := decide_eq_false (by omega)
      clear hke h3
      go_enter Tryd.func6, Tryd.ntmps6
      go_wp2_with fail
      (with_reducible refine (HSM.out _ HV.out).mono ?_); rintro e w0 ⟨rfl, rfl⟩
      go_wp2_with fail
      (with_reducible refine (HST.out _ HV.out).mono ?_); rintro e v1 ⟨a1, n1, c1, rfl, hta, hbl⟩
      have HBW2 := Lib.hid (hbl)
      clear hbl
      have HTA := Lib.hid hta
      clear hta
      go_upto_region 4 with fail
      have HX3 := Lib.hid (bx_new (c := R) HTA.out)
      have HBV3 := Lib.hid ((Below.refl v1.heap.size v1).alloc (Nat.le_refl _) (.cells #[.int .i64 R.id, .string (T R.proto), .int .i64 R.role, .int .i64 R.phase, .int .i64 R.step, (.slice a1 n1 c1), .string (T R.own), .string (T R.peer), .string (T R.user), .int .i64 R.err] 28))
      clear HTA
      generalize World.alloc _ _ = V3 at *
      go_wp2_with fail
      (with_reducible refine (HCK.out _ (HV.out.below (bnext HBW2.out HBV3.out))).mono ?_); rintro e v4 ⟨rfl, hbl⟩
      have HBW5 := Lib.hid (hbl)
      clear hbl
      go_wp2_with fail
      (with_reducible refine (HFU.out _ (HV.out.below (bnext (bnext HBW2.out HBV3.out) HBW5.out))).mono ?_); rintro e v6 ⟨rfl, hbl⟩
      have HBW7 := Lib.hid (hbl)
      clear hbl
      go_wp2_with fail
      (with_reducible refine (HFS.out _ (HV.out.below (bnext (bnext (bnext HBW2.out HBV3.out) HBW5.out) HBW7.out))).mono ?_); rintro e v8 ⟨rfl, hbl⟩
      have HBW9 := Lib.hid (hbl)
      clear hbl
      go_upto_region 9 with fail
      generalize Au.find Au.sUser l = u at *
      generalize Au.find Au.sSecret l = s at *
      go_wp2_with fail
      (with_reducible refine (HAL.out _ (bnext (bnext (bnext (bnext HBW2.out HBV3.out) HBW5.out) HBW7.out) HBW9.out)).mono ?_); rintro e v10 ⟨rfl, hbz⟩
      have HBW11 := Lib.hid (hbz)
      clear hbz
      have HE := Lib.hid (bnext (bnext (bnext (bnext (bnext HBW2.out HBV3.out) HBW5.out) HBW7.out) HBW9.out) HBW11.out)
      go_wp2_with fail
      go_ret
      exact ⟨rfl, HE.out⟩
    have f3 : 1 ≤ ((Au.find Au.sSecret l).length : Int) := by omega
    rw [decide_eq_true h3] at hke
    clear h3
    by_cases h4 : (Au.find Au.sSecret l).length ≤ 64
    rotate_left
    · obtain rfl : er = 52 := by rw [hke, decide_eq_false h4]; rfl
      have f4 : decide (((Au.find Au.sSecret l).length : Int) ≤ 64) = false := decide_eq_false (by omega)
      clear hke h4
      go_enter Tryd.func6, Tryd.ntmps6
      go_wp2_with fail
      (with_reducible refine (HSM.out _ HV.out).mono ?_); rintro e w0 ⟨rfl, rfl⟩
      go_wp2_with fail
      (with_reducible refine (HST.out _ HV.out).mono ?_); rintro e v1 ⟨a1, n1, c1, rfl, hta, hbl⟩
      have HBW2 := Lib.hid (hbl)
      clear hbl
      have HTA := Lib.hid hta
      clear hta
      go_upto_region 4 with fail
      have HX3 := Lib.hid (bx_new (c := R) HTA.out)
      have HBV3 := Lib.hid ((Below.refl v1.heap.size v1).alloc (Nat.le_refl _) (.cells #[.int .i64 R.id, .string (T R.proto), .int .i64 R.role, .int .i64 R.phase, .int .i64 R.step, (.slice a1 n1 c1), .string (T R.own), .string (T R.peer), .string (T R.user), .int .i64 R.err] 28))
      clear HTA
      generalize World.alloc _ _ = V3 at *
      go_wp2_with fail
      (with_reducible refine (HCK.out _ (HV.out.below (bnext HBW2.out HBV3.out))).mono ?_); rintro e v4 ⟨rfl, hbl⟩
      have HBW5 := Lib.hid (hbl)
      clear hbl
      go_wp2_with fail
      (with_reducible refine (HFU.out _ (HV.out.below (bnext (bnext HBW2.out HBV3.out) HBW5.out))).mono ?_); rintro e v6 ⟨rfl, hbl⟩
      have HBW7 := Lib.hid (hbl)
      clear hbl
      go_wp2_with fail
      (with_reducible refine (HFS.out _ (HV.out.below (bnext (bnext (bnext HBW2.out HBV3.out) HBW5.out) HBW7.out))).mono ?_); rintro e v8 ⟨rfl, hbl⟩
      have HBW9 := Lib.hid (hbl)
      clear hbl
      go_upto_region 9 with fail
      generalize Au.find Au.sUser l = u at *
      generalize Au.find Au.sSecret l = s at *
      go_wp2_with fail
      (with_reducible refine (HAL.out _ (bnext (bnext (bnext (bnext HBW2.out HBV3.out) HBW5.out) HBW7.out) HBW9.out)).mono ?_); rintro e v10 ⟨rfl, hbz⟩
      have HBW11 := Lib.hid (hbz)
      clear hbz
      have HE := Lib.hid (bnext (bnext (bnext (bnext (bnext HBW2.out HBV3.out) HBW5.out) HBW7.out) HBW9.out) HBW11.out)
      go_wp2_with fail
      go_ret
      exact ⟨rfl, HE.out⟩
    have f4 : ((Au.find Au.sSecret l).length : Int) ≤ 64 := by omega
    obtain rfl : er = 0 := by rw [hke, decide_eq_true h4]; rfl
    clear hke h4
    go_enter Tryd.func6, Tryd.ntmps6
    go_wp2_with fail
    (with_reducible refine (HSM.out _ HV.out).mono ?_); rintro e w0 ⟨rfl, rfl⟩
    go_wp2_with fail
    (with_reducible refine (HST.out _ HV.out).mono ?_); rintro e v1 ⟨a1, n1, c1, rfl, hta, hbl⟩
    have HBW2 := Lib.hid (hbl)
    clear hbl
    have HTA := Lib.hid hta
    clear hta
    go_upto_region 4 with fail
    have HX3 := Lib.hid (bx_new (c := R) HTA.out)
    have HBV3 := Lib.hid ((Below.refl v1.heap.size v1).alloc (Nat.le_refl _) (.cells #[.int .i64 R.id, .string (T R.proto), .int .i64 R.role, .int .i64 R.phase, .int .i64 R.step, (.slice a1 n1 c1), .string (T R.own), .string (T R.peer), .string (T R.user), .int .i64 R.err] 28))
    clear HTA
    generalize World.alloc _ _ = V3 at *
    go_wp2_with fail
    (with_reducible refine (HCK.out _ (HV.out.below (bnext HBW2.out HBV3.out))).mono ?_); rintro e v4 ⟨rfl, hbl⟩
    have HBW5 := Lib.hid (hbl)
    clear hbl
    go_wp2_with fail
    (with_reducible refine (HFU.out _ (HV.out.below (bnext (bnext HBW2.out HBV3.out) HBW5.out))).mono ?_); rintro e v6 ⟨rfl, hbl⟩
    have HBW7 := Lib.hid (hbl)
    clear hbl
    go_wp2_with fail
    (with_reducible refine (HFS.out _ (HV.out.below (bnext (bnext (bnext HBW2.out HBV3.out) HBW5.out) HBW7.out))).mono ?_); rintro e v8 ⟨rfl, hbl⟩
    have HBW9 := Lib.hid (hbl)
    clear hbl
    go_upto_region 9 with fail
    generalize Au.find Au.sUser l = u at *
    generalize Au.find Au.sSecret l = s at *
    go_wp2_with fail
    (with_reducible refine (HAL.out _ (bnext (bnext (bnext (bnext HBW2.out HBV3.out) HBW5.out) HBW7.out) HBW9.out)).mono ?_); rintro e v10 ⟨rfl, hbz⟩
    have HBW11 := Lib.hid (hbz)
    clear hbz
    have HE := Lib.hid (bnext (bnext (bnext (bnext (bnext HBW2.out HBV3.out) HBW5.out) HBW7.out) HBW9.out) HBW11.out)
    go_wp2_with fail
    go_ret
    exact ⟨rfl, HE.out⟩
end Go.Proofs.YtjjdaelddicokaaDoor
